/- The mirror's copies, looked at. No condition but on sizes. -/
import Derived.Test.YtoohkhcpboldjaaGreatDoorMcL
set_option maxRecDepth 100000
set_option maxHeartbeats 4000000
set_option linter.unusedSimpArgs false
set_option linter.unusedVariables false
namespace Go.Proofs.YtoohkhcpboldjaaGreatDoor
open Go.RowKit Go.Kin
def KJ(B:Nat)(o:Option cX)(v:Value)(N:World):Prop:=match o with
 |none=>v=.slice none 0 0
 |some b=>b.length=512/\∃bp c,v=.slice (some bp) 512 c/\bD N v 512 (bm b)/\B<=bp.block/\bp.block<N.1.size
theorem KJ.ch{S:Nat->Prop}{B:Nat}{o:Option cX}{v:Value}{N bs:World}(h:KJ B o v N)(T:D S N bs)(cf:∀k,B<=k->¬S k):KJ B o v bs:=by
 cases o with
 |none=>exact h
 |some b=>
  obtain⟨V,bp,c,rfl,H,I,af⟩:=h;exact⟨V,bp,c,rfl,H.ch T λk r=>by simp[Value.ownBlock]at r;subst r;exact cf _ I,I,Nat.lt_of_lt_of_le af T.size⟩
def Dy(q:Pt)(l:List Nat):List Value:=l.flatMap (ry q.a)
theorem au8:Bg Tryz.prog 342 346 (.agg #[.int .i64 0,.int .u16 0]) 2 16:=⟨Tryz.underlying342,by kernel_rfl,rfl,by decide⟩
section
variable{w w':World}{m p n i:Nat}{z:fe}{s:ao}{aL:Value}{ag:Nat->Nat->Prop}{O S:Nat->Prop}
theorem TM{P:List Nat->Prop}(bf:P [])(H:∀l k,P l->P (l++[k]))(l:List Nat):P l:=by
 rw[<-l.reverse_reverse]
 induction l.reverse with
 |nil=>exact bf
 |cons a J bG=>rw[List.reverse_cons];exact H _ _ bG
theorem aaa(n:Nat)(s:ao)(q:Pt)(l:List Nat)(i:Nat):(s.run n q l).aR i<=s.ep i+l.length:=by
 revert l;refine TM (Nat.le_refl _) λl k bG=> ?_
 ·rw[ao.Kt,List.length_append];unfold ao.step
  cases s.ko n q k with
  |some x=>
   grind
  |none=>
   simp only;split
   ·simp;omega
   ·simp only[hM]
    grind
theorem aab(n:Nat)(s:ao)(q:Pt)(l:List Nat):(s.run n q l).dT.length<=l.length:=by
 revert l;refine TM (Nat.le_refl _) λl k bG=> ?_
 ·rw[ao.Kt,List.length_append];unfold ao.step
  grind
theorem au9(s:ao)(z:fe)(aL:Value){i:Nat}(aa:i<2)(x:Nat):(ww s z aL).setIfInBounds (3+i*2) (.int .i64 x)=ww {s with ep:=hM s.ep i x} z aL:=by
 rcases jo aa with rfl|rfl<;>simp[ww,hM]
theorem au_(s:ao)(z:fe)(aL:Value){i:Nat}(aa:i<2):(ww s z aL)[3+i*2]? =some (.int .i64 (s.ep i)):=by
 rcases jo aa with rfl|rfl<;>rfl
structure BL(w N:World)(m p n:Nat)(z:fe)(s:ao)(aL:Value)(ag:Nat->Nat->Prop)(q:Pt)(TN:Value)(G cB cb cj dw cu cM:Nat)(t:Ha)(mN mO:Value)(ca dr:Value):Prop where
 dn:eg N m p n z {s with ep:=t.aR} aL ag
 bj:N.1[G]? =some (.cells #[.pointer (some ⟨m,0,none⟩)] 36 (0,0))
 ba:N.1[cB]? =some (.cells (Y q) 44 (0,0))
 cC:N.1[cb]? =some (.cells #[TN] 25 (0,0))
 cm:N.1[cj]? =some (.cells #[mN] 101 (0,0))
 ci:N.1[dw]? =some (.cells #[mO] 342 (0,0))
 dj:N.1[cu]? =some (.cells #[ca] 101 (0,0))
 gx:N.1[cM]? =some (.cells #[dr] 342 (0,0))
 rb:KJ (G+8) t.blk ca N
 td:N.ownsRow 0 346 2 dr t.dT.length (Dy q t.dT)
 ov:fZ (G+8) dr
 jG:G+8<=N.1.size
 sA:∀k,ca.ownBlock=some k->dr.ownBlock≠some k
 ch:D (aj m) w N
theorem BL.sB{N:World}{q:Pt}{TN:Value}{G cB cb cj dw cu cM B:Nat}{t:Ha}{mN mO ca dr:Value}(h:BL w N m p n z s aL ag q TN G cB cb cj dw cu cM t mN mO ca dr)(ap:kE B N w')(eV:∀k,fR z m p aL ag k->k<B)(eR:w.1.size<=B):BL w w' m p n z s aL ag q TN G cB cb cj dw cu cM t mN mO ca dr:=by
 obtain⟨fc,aF,yc⟩:=id ap;have T:=D.vQ aF;have aH6:∀k cs bl fr,N.1[k]? =some (.cells cs bl fr)->fc≠some k:=λk cs bl fr r e=>by
  obtain⟨_,o,aB,av⟩:=yc k e;rw[r]at aB
  cases aB
  cases av
 refine⟨h.dn.ch T λk r e=> ?_,ap.blk h.bj,ap.blk h.ba,ap.blk h.cC,ap.blk h.cm,ap.blk h.ci,ap.blk h.dj,ap.blk h.gx,?_,ej h.td T λk r e=> ?_,h.ov,Nat.le_trans h.jG T.size,h.sA,ap.tS h.ch eR⟩
 ·grind
 ·have V:=h.rb
  cases yd:t.blk with
  |none=>rw[yd]at V;exact V
  |some b=>
   rw[yd]at V;obtain⟨V,bp,c,rfl,H,I,af⟩:=V;exact⟨V,bp,c,rfl,H.fH λp u ah=>cell_kept ah aF λJ e=>(yc J e).2,I,Nat.lt_of_lt_of_le af T.size⟩
 ·rcases h.td.2 with⟨aS,_⟩|⟨g,cap,di,aS,_,E',_⟩
  ·rw[aS]at r;simp[Value.ownBlock]at r
  ·rw[aS]at r;simp[Value.ownBlock]at r
   grind
theorem NM(p:Pt)(g:Nat)(bl:TypeId)(fr:Nat×Nat)(S:Nat->Prop)(w:World)(ok:bN p)(V:w.1[g]? =some (.cells (Y p) bl fr)):
  GK Tryz.prog 119 [.pointer (some ⟨g,0,none⟩)] 2 (λx=>ry p.a (x%4)) (dL p.a 4) S w:=by
 refine⟨λx=>rfl,λargs w=>by simp[go_sem],?_⟩;intro l cJ ri N fu bK Et hu bf;obtain⟨a0,a1,a2,a3,am,_⟩:=a4 ok;have zy:=fu.obj V id;have fG:=(aG zy 37).trans (lO ok (i:=0) (x:=a0) (by rw[am];rfl));have aI:=(aG zy 38).trans (lO ok (i:=1) (x:=a1) (by rw[am];rfl));have aA:=(aG zy 39).trans (lO ok (i:=2) (x:=a2) (by rw[am];rfl));have aE:=(aG zy 40).trans (lO ok (i:=3) (x:=a3) (by rw[am];rfl));refine bn Tryz.func119 Tryz.ntmps119 λaZ Z=> ?_;simp[go_sem,fG,aI,aA,aE];refine du (λJ f bE=>∃k,k<=4/\J=4 - k/\f 0=.func (.yield l) #[] #[]/\f 6=.agg #[.int .u16 a0,.int .u16 a1,.int .u16 a2,.int .u16 a3]/\f 7=.int .i64 k/\cJ (dL p.a k) bE) 4
  ⟨0,by omega,rfl,by simp,by simp,by simp,bf⟩ ?_
 rintro bg bP _ f bE ⟨k,r,rfl,cR,hw,hi,F⟩;by_cases fs:k<4
 ·have ea:(k:Int)<4:=by omega
  have kz:∃x,p.a.getD k 0=x/\#[Value.int .u16 a0,Value.int .u16 a1,Value.int .u16 a2,Value.int .u16 a3][k]? =some (.int .u16 x):=by
   refine⟨_,rfl,?_⟩;rw[am]
   grind
  obtain⟨x,M,zS⟩:=kz;have mu:=λw=>Eo (P:=Tryz.prog) (kd:=.i64) Tryz.underlying42 Tryz.sizeOf39 Tryz.isAgg39 fs zS w;have eo:IntKind.i64.wrap ((k:Int)+1)=((k+1:Nat):Int):=by simp[IntKind.wrap_i64];omega
  have ts:IntKind.i64.wrap ((k:Int) / 2)=(k:Int) / 2:=by simp[IntKind.wrap_i64];omega
  by_cases iT:x=0
  ·subst iT;simp[go_sem,cR,hw,hi,ea,mu,eo];refine cH.intro (4 -(k+1)) (by omega) (bP _ _ _ ⟨k+1,by omega,rfl,by simp[cR],by simp[hw],by simp,?_⟩);rw[Dz,M,if_pos rfl];exact F
  ·have lF:((x:Int)==0)=false:=by simp;omega
   simp[go_sem,cR,hw,hi,ea,mu,eo,ts,bne,lF];have cI:(dL p.a k).length<(dL p.a 4).length:=by
    obtain⟨m,aH,aV⟩:=TO p.a (k:=k+1) (by omega);have H:=congrArg List.length aV;rw[Dz,M,if_neg iT,List.length_append,List.length_take]at H;simp at H;omega
   have ar:=hu (dL p.a k) k bE F cI;simp only[Nat.mod_eq_of_lt fs,ry,M]at ar;refine MQ _ _ _ ar ?_;rintro _ w' (⟨rfl,jt,_⟩|⟨rfl,AQ⟩)
   ·simp[go_sem,hi,eo];refine cH.intro (4 -(k+1)) (by omega) (bP _ _ _ ⟨k+1,by omega,rfl,by simp[cR],by simp[hw],by simp,?_⟩);rw[Dz,M,if_neg iT];exact jt
   ·simp[go_sem];refine Z _ _ (.inr ?_);obtain⟨m,aH,aV⟩:=TO p.a (k:=k+1) (by omega);refine⟨m,aH,?_⟩;rw[<-aV,Dz,M,if_neg iT];exact AQ
 ·obtain rfl:k=4:=by omega
  simp[go_sem,hi];exact Z _ _ (.inl F)
theorem aiu(w:World):(binOp .eql 101 (.slice none 0 0) (.slice none 0 0)).run Tryz.prog w=.ok (.bool true) w:=by kernel_rfl
theorem aiv(bp:Addr)(n c:Nat)(w:World):(binOp .eql 101 (.slice (some bp) n c) (.slice none 0 0)).run Tryz.prog w=.ok (.bool false) w:=by kernel_rfl
theorem au'{w:World}{u:Value}{n:Nat}{xs:List Value}(h:bD w u n xs)(M:0<xs.length):∃bp c,u=.slice (some bp) n c:=by
 obtain⟨ag,c,e,_,_,af⟩:=h
 grind
structure aac(cY:FuncId)(all:Bool):Prop where
 g':∀w,(callFunc cY #[]).run Tryz.prog w=.ok (.enter cY #[]) w
 ret:∀w,aP Tryz.prog cY #[] w λW w'=>W=.bool (!all)/\w'=w
theorem ava:aac 154 false:=⟨λw=>by kernel_rfl,λw=>by
 refine bn Tryz.func154 Tryz.ntmps154 λR Z=> ?_;simp[go_sem];exact Z _ _ ⟨rfl,rfl⟩⟩
theorem avb{w:World}{G:Nat}(ff:w.1.size=G)(fG aI aA aE bv bx co:Array Value)(t0 t1 dK t3 t4 t5 xU:TypeId):∃cF,((((((w.alloc (.cells fG t0)).alloc (.cells aI t1)).alloc (.cells aA dK)).alloc (.cells aE t3)).alloc (.cells bv t4)).alloc (.cells bx t5)).alloc (.cells co xU)=cF/\cF.1[G]? =some (.cells fG t0 (0,0))/\cF.1[G+1]? =some (.cells aI t1 (0,0))/\cF.1[G+2]? =some (.cells aA dK (0,0))/\cF.1[G+3]? =some (.cells aE t3 (0,0))/\cF.1[G+4]? =some (.cells bv t4 (0,0))/\cF.1[G+5]? =some (.cells bx t5 (0,0))/\cF.1[G+6]? =some (.cells co xU (0,0))/\cF.1.size=G+7/\D ak w cF:=by
 subst ff;refine⟨_,rfl,?_,?_,?_,?_,?_,?_,?_,by simp,((((((((D.refl ak w).alloc _).alloc _).alloc _).alloc _).alloc _).alloc _).alloc _)⟩
 ·rw[pY _ _ _ (by simp<;>omega),pY _ _ _ (by simp<;>omega),pY _ _ _ (by simp<;>omega),pY _ _ _ (by simp<;>omega),pY _ _ _ (by simp<;>omega),pY _ _ _ (by simp<;>omega),cl]
 ·simp_all
 ·simp_all
 ·simp_all
 ·simp_all
 ·simp_all
 simp_all
theorem avc(h:eg w m p n z s aL ag)(q:Pt)(ok:bN q)(r:ja w)(all:Bool){cY:FuncId}(KK:aac cY all)(MP:m≠3)(gJ:∀i,s.ep i<=1000000):
  aP Tryz.prog 199 #[.pointer (some ⟨m,0,none⟩),.agg (Y q),.func (.func cY) #[] #[]] w λW w'=>∃ca dr,W=.tuple #[ca,dr]/\KJ w.1.size (s.run n q (s.og n q all)).blk ca w'/\w'.ownsRow 0 346 2 dr (s.run n q (s.og n q all)).dT.length (Dy q (s.run n q (s.og n q all)).dT)/\fZ w.1.size dr/\eg w' m p n z {s with ep:=(s.run n q (s.og n q all)).aR} aL ag/\D (aj m) w w':=by
 refine bn Tryz.func199 Tryz.ntmps199 λaZ Z=> ?_;have cU:=bW ok;have cT:=dW ok;simp[go_sem,cU,cT];obtain⟨G,ff⟩:=az (w.1.size);obtain⟨cF,hi,lZ,ey,cZ,iq,jk,BM,OF,hn,lP⟩:=avb ff #[.pointer (some ⟨m,0,none⟩)] (Y q) #[.func (.func cY) #[] #[]] #[.slice none 0 0] #[.slice none 0 0] #[.slice none 0 0] #[.slice none 0 0] 36 44 25 101 342 101 342;rw[hi,ff];refine(Kl q cF).mono ?_;rintro _ eA ⟨rfl,lu⟩;have KL:=cl cF (.cells (Y q) 44);have BN:=(D.refl ak cF).alloc (.cells (Y q) 44);have Nn:eA.1.size=G+8:=by rw[lu];simp[hn]
 rw[<-lu]at BN KL;rw[hn]at KL⊢;clear lu;have np:=lP.trans BN;have eb:=h.ch np λ_ _ e=>e;simp[go_sem];obtain⟨cM,hw⟩:=az (G+1+1+1+1+1+1);obtain⟨cu,fD⟩:=az (G+1+1+1+1+1);obtain⟨dw,cW⟩:=az (G+1+1+1+1);obtain⟨cj,dt⟩:=az (G+1+1+1);obtain⟨cb,aW⟩:=az (G+1+1);obtain⟨cB,aK⟩:=az (G+1);rw[hw,fD,cW,dt,aW,aK];have zl:=BN.obj lZ id;have gM:=BN.obj ey id;have gN:=BN.obj cZ id;have iO:=BN.obj iq id;have pj:=BN.obj jk id;have uY:=BN.obj BM id;have aad:=BN.obj OF id;rw[show G+1=cB from aK]at gM;rw[show G+2=cb from aW]at gN;rw[show G+3=cj from dt]at iO;rw[show G+4=dw from cW]at pj;rw[show G+5=cu from fD]at uY;rw[show G+6=cM from hw]at aad;have eV:=h.gK;clear lZ ey cZ iq jk BM OF hi lP BN;have OG:∀k,k∈dL q.a 4->k%4=k:=λk r=>Nat.mod_eq_of_lt (Fa r).1;have zJ:∀{L:Nat} {N:World} {ca dr:Value},eA.1.size<=L->BL w N m p n z s aL ag q (.func (.func cY) #[] #[]) G cB cb cj dw cu cM (s.run n q (s.og n q all)) ca dr ca dr->N.1[L]? =some (.deferred (some []))->aZ (.tuple #[ca,dr]) (N.putObj L (.deferred none)):=λ{L N ca dr} dS bT bi=>by
  have ui:D (aj L) N (N.putObj L (.deferred none)):=(D.refl (aj L) N).putObj (.inl rfl) _;refine Z _ _ ⟨_,_,rfl,?_,ej bT.td ui λj F e=> ?_,bT.ov.mono (by omega),bT.dn.ch ui λj F e=> ?_,bT.ch.bJ ui λj F e=> ?_⟩
  ·have oW:=bT.rb
   cases nq:(s.run n q (s.og n q all)).blk with
   |none=>rw[nq]at oW;exact oW
   |some b=>
    rw[nq]at oW;obtain⟨gM,bp,gN,rfl,iO,pj,uY⟩:=oW;refine⟨gM,bp,gN,rfl,iO.ch ui λj F e=> ?_,by omega,Nat.lt_of_lt_of_le uY ui.size⟩;simp[Value.ownBlock]at F;simp only[aj]at e;subst F;obtain⟨Hu,aI,aq,_,_,vI⟩:=iO;obtain⟨a1,GZ,HQ⟩:=vI (by rw[eB,gM];omega)
    cases aq
    cases GZ
    obtain⟨rn,Nu⟩:∃u,(bm b)[0]? =some u:=⟨_,List.getElem?_eq_getElem (by rw[eB,gM];omega)⟩;have:=HQ 0 rn Nu;obtain⟨o,aB,OH⟩:=cells_of_cell this;rw[Mp,e,bi]at aB
    cases aB
    cases OH
  ·simp only[aj]at e;rcases bT.td.2 with⟨aS,_⟩|⟨g,cap,di,aS,_,E',_⟩
   ·rw[aS]at F;simp[Value.ownBlock]at F
   ·rw[aS]at F;simp[Value.ownBlock]at F
    grind
  ·simp only[aj]at e;have:=eV j F;omega
  ·simp only[aj]at e;omega
 obtain⟨bg,bP⟩:∃bg:List Nat->World->Prop,bg=λpre N=>∃ca dr,BL w N m p n z s aL ag q (.func (.func cY) #[] #[]) G cB cb cj dw cu cM (s.run n q (pre.map (·%4))) (.slice none 0 0) (.slice none 0 0) ca dr/\(all=false->∀k∈pre.map (·%4),s.ko n q k=none):=⟨_,rfl⟩;obtain⟨gB,Cx⟩:∃gB:Code->List Nat->World->Prop,gB=λc pre N=>c=.ret/\all=false/\∃ca dr HR x,pre=HR++[x]/\(∀k∈HR.map (·%4),s.ko n q k=none)/\(s.ko n q (x%4)).isSome=true/\BL w N m p n z s aL ag q (.func (.func cY) #[] #[]) G cB cb cj dw cu cM (s.run n q (pre.map (·%4))) ca dr ca dr:=⟨_,rfl⟩;refine ahJ (NM q (G+7) _ _ (λk=>k=m\/k=cu\/k=cM) eA ok KL) (D.refl _ _) rfl rfl (by kernel_rfl) bg gB
  (λx f' _=>f' 10=.int .i64 (x%4 / 2:Nat)/\f' 11=.int .u16 (cP q (x%4))/\f' 3=.pointer (some ⟨G,0,none⟩)/\f' 4=.pointer (some ⟨cB,0,none⟩)/\f' 5=.pointer (some ⟨cb,0,none⟩)/\f' 6=.pointer (some ⟨cj,0,none⟩)/\f' 7=.pointer (some ⟨dw,0,none⟩)/\f' 8=.pointer (some ⟨cu,0,none⟩)/\f' 9=.pointer (some ⟨cM,0,none⟩)) ?_ ?_ ?_ ?_ ?_ ?_ ?_ ?_
 ·rintro pre N bs aD ap;rw[bP]at aD⊢;obtain⟨ca,dr,bT,my⟩:=aD;exact⟨ca,dr,bT.sB ap (λk r=>by have:=eV k r;omega) (by omega),my⟩
 ·rintro c pre N bs aD ap;rw[Cx]at aD⊢;obtain⟨bf,am,ca,dr,HR,x,H,I,af,bT⟩:=aD;exact⟨bf,am,ca,dr,HR,x,H,I,af,bT.sB ap (λk r=>by have:=eV k r;omega) (by omega)⟩
 ·exact λ_ _ _ _ h _=>h
 ·rw[bP];exact⟨_,_,⟨eb,zl,gM,gN,iO,pj,uY,aad,rfl,World.ownsRow_nil _ _ _ _,λk r=>by simp[Value.ownBlock]at r,by omega,λk r=>by simp[Value.ownBlock]at r,np.mono λ_ _ e=>e.elim⟩,λ_ k r=>by simp at r⟩
 ·rintro pre x N aD;simp[go_sem];refine⟨D.refl _ _,aD,?_,?_⟩
  ·simp[ry]
  ·simp[ry,cP]
 ·rintro pre x f' N cI aD ⟨eE,gD,bV,cr,cN,f6,cg,bz,ef⟩;have wu:pre.length<4:=by
   have:(dL q.a 4).length<=4:=by unfold dL;exact Nat.le_trans (List.length_filter_le _ _) (by simp)
   omega
  rw[bP]at aD;obtain⟨ca,dr,bT,my⟩:=aD;obtain⟨sC,gl,iB⟩:∃ag c,dr=.slice ag (s.run n q (pre.map (·%4))).dT.length c:=by
   rcases bT.td.2 with⟨aS,bf⟩|⟨g,cap,di,aS,_⟩
   ·grind
   ·exact⟨_,_,aS⟩
  subst iB;obtain⟨k,KM⟩:=az (x%4);have fs:k<4:=by omega
  rw[KM]at eE gD;obtain⟨i,ea⟩:=az (k / 2);rw[ea]at eE;have aa:i<2:=by omega
  obtain⟨ae,yb⟩:=az (pre.map (·%4));have CS:ae.length<4:=by rw[<-yb,List.length_map];exact wu
  rw[yb]at bT my;obtain⟨aQ,dE⟩:=az ((s.run n q ae).dT.length);rw[dE]at bT;obtain⟨dr,aiw⟩:=az (Value.slice sC aQ gl);rw[aiw]at bT;have wp:(pre++[x]).map (·%4)=ae++[k]:=by rw[List.map_append,yb,List.map_cons,KM];rfl
  have gq:N.cell? ⟨G,0,none⟩=some (.pointer (some ⟨m,0,none⟩)):=aG bT.bj 0;have cx:=(D.refl ak N).alloc (.cells #[.int .i64 i,.int .u16 (cP q k)] 346);have pt:=cl N (.cells #[.int .i64 i,.int .u16 (cP q k)] 346);have oE:=λj=>aG pt j;have fz:=cx.obj bT.ba id;have rn:=cx.cell gq id;have OI:=ahM (bT.dn.ch cx λ_ _ e=>e) q ok ((r.ch bT.ch λe=>MP e.symm).ch cx id) k fs;rw[ea]at OI;simp[go_sem,eE,gD,bV,cr,rn,fz,cU,cT,oE];refine OI.mono ?_;rintro jf eZ ⟨ap,aA⟩;have eF:D ak N eZ:=cx.trans aA;have gF:BL w eZ m p n z s aL ag q (.func (.func cY) #[] #[]) G cB cb cj dw cu cM (s.run n q ae) (.slice none 0 0) (.slice none 0 0) ca dr:=
   ⟨bT.dn.ch eF λ_ _ e=>e,eF.obj bT.bj id,eF.obj bT.ba id,eF.obj bT.cC id,eF.obj bT.cm id,eF.obj bT.ci id,eF.obj bT.dj id,eF.obj bT.gx id,bT.rb.ch eF λ_ _ e=>e,ej bT.td eF λ_ _ e=>e,bT.ov,Nat.le_trans bT.jG eF.size,bT.sA,bT.ch.trans (eF.mono λ_ _ e=>e.elim)⟩
  have KN:=aA.obj pt id;have aH7:=λj=>aG KN j;have KO:=lH.nw eF;have ZI:({s with ep:=(s.run n q ae).aR}:ao).ko n q k=s.ko n q k:=rfl;rw[ZI]at ap;have HQ:eZ.cell? ⟨cu,0,none⟩=some ca:=aG gF.dj 0;have te:=ao.Kt n s q ae k;have bL:∀{bs:World} {bv' cv':Value},lH N bs->D (λk=>k=m\/k=cu\/k=cM\/G+8<=k) N bs->BL w bs m p n z s aL ag q (.func (.func cY) #[] #[]) G cB cb cj dw cu cM (s.run n q (ae++[k])) (.slice none 0 0) (.slice none 0 0) bv' cv'->(all=false->s.ko n q k=none)->(KeepsFrom eA.1.size N bs/\D (λk=>(k=m\/k=cu\/k=cM)\/eA.1.size<=k) N bs)/\bg (pre++[x]) bs:=λ{bs bv' cv'} a1 a2 a3 a4=>by
   refine⟨⟨a1.from a2.size _,a2.mono λj _ e=> ?_⟩,?_⟩
   ·grind
   ·rw[bP]
    grind
  cases sD:s.ko n q k with
  |some b=>
   rw[sD]at ap;obtain⟨u,rfl,V,an,avd,Oy⟩:=ap
   cases yd:(s.run n q ae).blk with
   |none=>
    have vf:ca=.slice none 0 0:=by
     have:=gF.rb;rw[yd]at this;exact this
    subst vf;obtain⟨bp,c,rfl⟩:=au' an (by rw[eB,V];omega);have ave:=dD gF.dj 0;have RU:eZ.cell? ⟨cb,0,none⟩=some (.func (.func cY) #[] #[]):=aG gF.cC 0;have avf:cb≠cu:=by omega
    have aE:D (aj cu) eZ (eZ.setCell ⟨cu,0,none⟩ (.slice (some bp) 512 c)):=(D.refl (aj cu) eZ).setCell (p:=⟨cu,0,none⟩) (.inl rfl) _;have bq:lH eZ (eZ.setCell ⟨cu,0,none⟩ (.slice (some bp) 512 c)):=lH.hI aE λk r _=>by simp only[aj]at r;subst r;exact⟨_,_,_,gF.dj⟩
    have Fz:(eZ.setCell ⟨cu,0,none⟩ (.slice (some bp) 512 c)).1[cu]? =some (.cells #[.slice (some bp) 512 c] 101 (0,0)):=by rw[eY,gF.dj,gp];rfl
    have el:s.run n q (ae++[k])={s.run n q ae with blk:=some b}:=by rw[te];unfold ao.step;rw[sD];simp[yd]
    have ei:=aE.cell RU (λe=>avf e);have mh:BL w (eZ.setCell ⟨cu,0,none⟩ (.slice (some bp) 512 c)) m p n z s aL ag q (.func (.func cY) #[] #[]) G cB cb cj dw cu cM (s.run n q (ae++[k])) (.slice none 0 0) (.slice none 0 0) (.slice (some bp) 512 c) dr:=by
     have ue:∀j,j≠cu->¬aj cu j:=λj h e=>h e;have aH8:=avd bp.block rfl;have cL:=bT.ch.size;have avg:=Oy bp.block rfl;have tb:=bT.jG;have GD:=cx.size;rw[el];refine⟨gF.dn.ch aE λj F e=> ?_,aE.obj gF.bj (ue _ (by omega)),aE.obj gF.ba (ue _ (by omega)),aE.obj gF.cC (ue _ (by omega)),aE.obj gF.cm (ue _ (by omega)),aE.obj gF.ci (ue _ (by omega)),Fz,aE.obj gF.gx (ue _ (by omega)),⟨V,bp,c,rfl,an.ch aE λj F e=> ?_,?_,Nat.lt_of_lt_of_le avg aE.size⟩,ej gF.td aE λj F e=> ?_,gF.ov,Nat.le_trans gF.jG aE.size,λj F e=> ?_,gF.ch.bJ aE λj F e=> ?_⟩
     ·grind
     ·simp only[aj]at e;simp[Value.ownBlock]at F;omega
     ·omega
     ·simp only[aj]at e;have:=gF.ov j F;omega
     ·simp[Value.ownBlock]at F;have:=oJ bT.td j e;omega
     ·simp only[aj]at e;omega
    simp[go_sem,bz,HQ,aiu,ave,cN,ei];revert aE bq Fz mh;generalize eZ.setCell ⟨cu,0,none⟩ (.slice (some bp) 512 c)=tt;intro aE bq Fz mh;have BO:=dD mh.cm 0;have OJ:=dD mh.ci 0;have avh:tt.cell? ⟨cu,0,none⟩=some (.slice (some bp) 512 c):=aG Fz 0;have avi:tt.cell? ⟨cM,0,none⟩=some dr:=aG mh.gx 0;have FA:=(KO.trans bq);have iU:D (aj cu) N tt:=(eF.mono λ_ _ e=>e.elim).trans aE
    cases all with
    |false=>
     rw[aix (h:=KK.g' tt)];refine(KK.ret tt).mono ?_;rintro _ OK ⟨rfl,aiy⟩;subst OK;simp[go_sem];refine cD [A 0,A 1,(2,some [1]),(3,some [])] ?_;have avj:tt.cell? ⟨cj,0,none⟩=some (.slice none 0 0):=aG mh.cm 0;have CK:=λv=>((D.refl (aj cj) tt).setCell (p:=⟨cj,0,none⟩) (.inl rfl) v).obj mh.ci (λe=>by simp only[aj]at e;omega);have avk:=λv=>aG (CK v) 0;have Hd:=λv=>dD (CK v) 0;subst aiw;simp[go_sem,f6,cg,bz,ef,avh,avi,BO,OJ,avj,avk,Hd];have bx:D (λj=>j=cj\/j=dw) tt (((tt.setCell ⟨cj,0,none⟩ (.slice (some bp) 512 c)).setCell ⟨dw,0,none⟩ (.slice sC aQ gl)).drew):=(((D.refl (λj=>j=cj\/j=dw) tt).setCell (p:=⟨cj,0,none⟩) (.inl (.inl rfl)) _).setCell (p:=⟨dw,0,none⟩) (.inl (.inr rfl)) _).drew;have HS:=((FA.setCell (i:=0) mh.cm (.slice (some bp) 512 c)).setCell (i:=0) (CK (.slice (some bp) 512 c)) (.slice sC aQ gl)).drew;have jE:∀j,j≠cj->j≠dw->¬(j=cj\/j=dw):=λj H I e=>e.elim H I;have z3:(((tt.setCell ⟨cj,0,none⟩ (.slice (some bp) 512 c)).setCell ⟨dw,0,none⟩ (.slice sC aQ gl)).drew).1[cj]? =some (.cells #[.slice (some bp) 512 c] 101 (0,0)):=by rw[ye,t_ _ _ _ _ (by simp only;omega),eY,mh.cm,gp];rfl
     have z4:(((tt.setCell ⟨cj,0,none⟩ (.slice (some bp) 512 c)).setCell ⟨dw,0,none⟩ (.slice sC aQ gl)).drew).1[dw]? =some (.cells #[.slice sC aQ gl] 342 (0,0)):=by rw[ye,eY,t_ _ _ _ _ (by simp only;omega),mh.ci,gp];rfl
     revert bx HS z3 z4;generalize((tt.setCell ⟨cj,0,none⟩ (.slice (some bp) 512 c)).setCell ⟨dw,0,none⟩ (.slice sC aQ gl)).drew=FB;intro bx HS z3 z4;have cL:=bT.jG;refine⟨HS.from (Nat.le_trans iU.size bx.size) _,?_⟩;rw[Cx];refine⟨rfl,rfl,.slice (some bp) 512 c,.slice sC aQ gl,pre,x,rfl,by rw[yb];exact my rfl,by rw[KM,sD];rfl,?_⟩;rw[wp];refine⟨mh.dn.ch bx λj F e=> ?_,bx.obj mh.bj (jE _ (by omega) (by omega)),bx.obj mh.ba (jE _ (by omega) (by omega)),bx.obj mh.cC (jE _ (by omega) (by omega)),z3,z4,bx.obj mh.dj (jE _ (by omega) (by omega)),bx.obj mh.gx (jE _ (by omega) (by omega)),mh.rb.ch bx λj F=>jE j (by omega) (by omega),ej mh.td bx λj F=> ?_,mh.ov,Nat.le_trans mh.jG bx.size,mh.sA,mh.ch.bJ bx λj F e=> ?_⟩
     ·have:=eV j F;rcases e with e|e<;>omega
     ·have:=mh.ov j F;exact jE j (by omega) (by omega)
     ·rcases e with e|e<;>omega
    |true=>
     rw[aix (h:=KK.g' tt)];refine(KK.ret tt).mono ?_;rintro _ OK ⟨rfl,aiy⟩;subst OK;simp[go_sem];exact bL FA (iU.mono λj _ e=>.inr (.inl e)) mh (λe=>by cases e)
   |some bj=>
    have vf:=gF.rb;rw[yd]at vf;obtain⟨ht,aH9,fG,rfl,vf⟩:=vf;have el:s.run n q (ae++[k])=s.run n q ae:=by rw[te];unfold ao.step;rw[sD];simp[yd]
    simp[go_sem,bz,HQ,aiv];refine bL KO (eF.mono λ_ _ e=>e.elim) (by rw[el];exact gF) (λam=> ?_);exfalso;have avl:∀l,(∀k∈l,s.ko n q k=none)->(s.run n q l).blk=none:=by
     refine TM (λ_=>rfl) λl k bG al=> ?_;rw[ao.Kt];unfold ao.step;rw[al k (by simp)];simp only;split
     ·exact bG λj F=>al j (by simp[F])
     ·exact bG λj F=>al j (by simp[F])
    rw[avl ae (my am)]at yd
    cases yd
  |none=>
   rw[sD]at ap;obtain⟨u,rfl⟩:=ap;have cR:eZ.cell? ⟨G,0,none⟩=some (.pointer (some ⟨m,0,none⟩)):=aG gF.bj 0;have dU:eZ.cell? ⟨m,i,none⟩=some (.pointer (some ⟨z.d i,0,none⟩)):=by
    rw[aG gF.dn.blk];rcases jo aa with rfl|rfl<;>rfl
   have pw:(i:Int)<2:=by omega
   simp[go_sem,bV,eE,cR,dU,aa,pw];refine((gF.dn.jv i aa).bS).mono ?_;rintro _ OK ⟨rfl,aiy⟩;subst OK
   cases Bo:(s.au i).bS with
   |true=>
    have el:s.run n q (ae++[k])=s.run n q ae:=by rw[te];unfold ao.step;rw[sD,ea,Bo];rfl
    simp[go_sem];exact bL KO (eF.mono λ_ _ e=>e.elim) (by rw[el];exact gF) (λ_=>sD)
   |false=>
    have el:s.run n q (ae++[k])={s.run n q ae with aR:=hM (s.run n q ae).aR i ((s.run n q ae).aR i+1),dT:=(s.run n q ae).dT++[k]}:=by rw[te];unfold ao.step;rw[sD,ea,Bo];rfl
    simp[go_sem];refine cD [A 0,A 1,A 2,A 3,A 4,A 5,A 6,A 7,A 8,A 9,A 10,A 11,(12,some [])] ?_;have aiz:=aaa n s q ae i;have RM:=gJ i;have kn:eZ.cell? ⟨m,3+i*2,none⟩=some (.int .i64 ((s.run n q ae).aR i)):=by rw[aG gF.dn.blk];exact au_ _ z aL aa
    have avm:=dD gF.dn.blk (3+i*2);have SJ:IntKind.i64.wrap (((s.run n q ae).aR i:Int)+1)=(((s.run n q ae).aR i+1:Nat):Int):=by rw[IntKind.wrap_i64];omega
    obtain⟨GW,avn⟩:=az ((s.run n q ae).aR i+1);rw[avn]at SJ el;simp[go_sem,bV,eE,cR,aa,pw,kn,avm,SJ];have iN:D (aj m) eZ (eZ.setCell ⟨m,3+i*2,none⟩ (.int .i64 GW)).drew:=((D.refl (aj m) eZ).setCell (p:=⟨m,3+i*2,none⟩) (.inl rfl) _).drew;have aae:eg (eZ.setCell ⟨m,3+i*2,none⟩ (.int .i64 GW)).drew m p n z {s with ep:=hM (s.run n q ae).aR i GW} aL ag:=by
     refine gF.dn.own iN ?_ rfl rfl rfl rfl rfl;rw[ye,eY,gF.dn.blk,gp,au9 _ z aL aa]
    obtain⟨vg,zv⟩:=az (N.1.size);rw[zv]at KN⊢;have py:∀j,w.1.size<=j->¬aj m j:=λj F e=>by simp only[aj]at e;have:=eV m (.inl (.inl rfl));omega
    have FA:=KO.trans (lH.hI iN λj F _=>by simp only[aj]at F;subst F;exact⟨_,_,_,gF.dn.blk⟩);have cL:=bT.jG;have Fz:=iN.obj gF.dj (py _ (by omega));have TP:=iN.obj gF.gx (py _ (by omega));have OL:=iN.obj KN (py _ (by omega));have xX:=iN.obj gF.bj (py _ (by omega));have om:=iN.obj gF.ba (py _ (by omega));have hL:=iN.obj gF.cC (py _ (by omega));have kC:=iN.obj gF.cm (py _ (by omega));have mv:=iN.obj gF.ci (py _ (by omega));have HT:KJ (G+8) (s.run n q ae).blk ca (eZ.setCell ⟨m,3+i*2,none⟩ (.int .i64 GW)).drew:=gF.rb.ch iN λj F=>py j (by omega);have OM:=ej gF.td iN λj F=>py j (by have:=gF.ov j F;omega);revert iN aae FA Fz TP OL xX om hL kC mv HT OM;generalize(eZ.setCell ⟨m,3+i*2,none⟩ (.int .i64 GW)).drew=tt;intro iN aae FA Fz TP OL xX om hL kC mv HT OM;have avo:=λj=>aG OL j;have XO:=aG TP 0;simp[go_sem,ef,avo,XO];have Dx:ry q.a k=[.int .i64 i,.int .u16 (cP q k)]:=by unfold ry cP;rw[show(k:Int) / 2=i by omega]
    have avp:aQ<=1000:=by have:=aab n s q ae;omega
    rw[dE]at OM;refine va au8 (us:=[.int .i64 i,.int .u16 (cP q k)]) OM rfl (by simp[Value.oneCell']) (by unfold maxLen;omega) (by omega) λcv' ON Bq nM FC=> ?_;have AR:fZ (G+8) cv':=avq gF.ov FC (by grind);obtain⟨fB,sE,OO,rfl,_,_,qI,_⟩:=zb Bq (by omega);have iP:∀j,j<G+8->¬dr.ownBlock=some j:=λj F e=>by have:=gF.ov j e;omega
    have TQ:=nM.obj TP (iP _ (by omega));have aaf:=aG TQ 0;have Bj:=dD TQ 0;have avr:=FA.trans (lH.hI nM λj F _=>by
     rcases OM.2 with⟨aS,_⟩|⟨g,cap,di,aS,_,E',_⟩
     ·rw[aS]at F;simp[Value.ownBlock]at F
     ·rw[aS]at F;simp[Value.ownBlock]at F;subst F;exact⟨_,_,_,E'⟩)
    simp[go_sem,ef,aaf,Bj];have bx:D (aj cM) ON (ON.setCell ⟨cM,0,none⟩ (.slice (some ⟨fB,0,none⟩) (aQ+1) sE)):=(D.refl (aj cM) ON).setCell (p:=⟨cM,0,none⟩) (.inl rfl) _;have JG:(ON.setCell ⟨cM,0,none⟩ (.slice (some ⟨fB,0,none⟩) (aQ+1) sE)).1[cM]? =some (.cells #[.slice (some ⟨fB,0,none⟩) (aQ+1) sE] 342 (0,0)):=by rw[eY,TQ,gp];rfl
    have HS:=avr.trans (lH.hI bx λj F _=>by simp only[aj]at F;subst F;exact⟨_,_,_,TQ⟩);revert bx JG HS;generalize ON.setCell ⟨cM,0,none⟩ (.slice (some ⟨fB,0,none⟩) (aQ+1) sE)=FB;intro bx JG HS;have n6:∀j,j≠cM->¬aj cM j:=λj h e=>h e;have aH_:=AR fB rfl;have aY:D (λj=>j=m\/j=cu\/j=cM\/G+8<=j) N FB:=(((eF.mono λ_ _ e=>e.elim).trans (iN.mono λj _ e=>.inl e)).trans (nM.mono λj _ e=>.inr (.inr (.inr (gF.ov j e))))).trans (bx.mono λj _ e=>.inr (.inr (.inl e)));refine bL (bv':=ca) (cv':=.slice (some ⟨fB,0,none⟩) (aQ+1) sE) HS aY ?_ (λ_=>sD);rw[el];have wt:∀j,fR z m p aL ag j->j<G:=λj F=>by have:=eV j F;omega
    refine⟨(aae.ch nM λj F=>iP j (by have:=wt j F;omega)).ch bx λj F=>n6 j (by have:=wt j F;omega),bx.obj (nM.obj xX (iP _ (by omega))) (n6 _ (by omega)),bx.obj (nM.obj om (iP _ (by omega))) (n6 _ (by omega)),bx.obj (nM.obj hL (iP _ (by omega))) (n6 _ (by omega)),bx.obj (nM.obj kC (iP _ (by omega))) (n6 _ (by omega)),bx.obj (nM.obj mv (iP _ (by omega))) (n6 _ (by omega)),bx.obj (nM.obj Fz (iP _ (by omega))) (n6 _ (by omega)),JG,?_,?_,AR,?_,λj F e=> ?_,?_⟩
    ·have oW:=HT
     cases nq:(s.run n q ae).blk with
     |none=>rw[nq]at oW;exact oW
     |some b=>
      rw[nq]at oW;obtain⟨gM,bp,gN,rfl,iO,pj,uY⟩:=oW;exact⟨gM,bp,gN,rfl,(iO.ch nM λj F=>gF.sA j F).ch bx λj F=>n6 j (by simp[Value.ownBlock]at F;omega),pj,Nat.lt_of_lt_of_le uY (Nat.le_trans nM.size bx.size)⟩
    ·have e:Dy q ((s.run n q ae).dT++[k])=Dy q (s.run n q ae).dT++[.int .i64 i,.int .u16 (cP q k)]:=by unfold Dy;rw[List.flatMap_append,List.flatMap_cons,List.flatMap_nil,Dx];rfl
     rw[e,List.length_append,dE];exact ej Bq bx λj F=>n6 j (by have:=AR j F;omega)
    ·have:=iN.size;have:=nM.size;have:=bx.size;have:=gF.jG;omega
    ·rcases FC with FC|FC
     ·rw[FC]at e;exact gF.sA j F e
     ·have H:=FC j e
      cases nq:(s.run n q ae).blk with
      |none=>
       rw[nq]at HT;rw[show ca=.slice none 0 0 from HT]at F;simp[Value.ownBlock]at F
      |some b=>
       rw[nq]at HT;obtain⟨_,bp,_,rfl,_,_,uY⟩:=HT;simp[Value.ownBlock]at F;omega
    ·exact((gF.ch.trans iN).bJ nM λj F e=>by have:=gF.ov j e;omega).bJ bx λj F e=>by simp only[aj]at e;omega
 ·rintro L N dS aD bi;rw[bP]at aD;obtain⟨ca,dr,bT,my⟩:=aD;have Bn:(dL q.a 4).map (·%4)=dL q.a 4:=by
   conv=>rhs;rw[<-List.map_id (dL q.a 4)]
   exact List.map_congr_left λk r=>by simpa using OG k r
  rw[Bn]at bT my;have iM:s.og n q all=dL q.a 4:=by
   unfold ao.og
   cases all with
   |true=>rfl
   |false=>exact s.ahH n q (my rfl)
  obtain⟨sC,gl,iB⟩:∃ag c,dr=.slice ag (s.run n q (dL q.a 4)).dT.length c:=by
   rcases bT.td.2 with⟨aS,bf⟩|⟨g,cap,di,aS,_⟩
   ·grind
   ·exact⟨_,_,aS⟩
  obtain⟨sk,wI,iS,vf⟩:∃ag l c,ca=.slice ag l c:=by
   have:=bT.rb
   cases nq:(s.run n q (dL q.a 4)).blk with
   |none=>rw[nq]at this;exact⟨_,_,_,this⟩
   |some b=>rw[nq]at this;obtain⟨_,bp,c,e,_⟩:=this;exact⟨_,_,_,e⟩
  have da:∀j,j<G+8->L≠j:=λj F=>by omega
  have ei:=λv=>((D.refl (aj cj) N).setCell (p:=⟨cj,0,none⟩) (.inl rfl) v).obj bT.ci (λe=>by simp only[aj]at e;omega);have aE:=aG bT.cm 0;have bv:=aG bT.ci 0;have bx:=aG bT.dj 0;have co:=aG bT.gx 0;have avs:=dD bT.cm 0;have avt:=dD bT.ci 0;have KP:=λv=>aG (ei v) 0;have Hd:=λv=>dD (ei v) 0;simp[go_sem];subst iB vf;refine cD [A 0,A 1,(2,some [1]),(3,some [])] ?_;obtain⟨aQ,dE⟩:=az ((s.run n q (dL q.a 4)).dT.length);rw[dE]at bT co;simp[go_sem,aE,bv,bx,co,avs,avt,KP,Hd];have ft:D (λj=>j=cj\/j=dw) N (((N.setCell ⟨cj,0,none⟩ (.slice sk wI iS)).setCell ⟨dw,0,none⟩ (.slice sC aQ gl)).drew):=(((D.refl (λj=>j=cj\/j=dw) N).setCell (p:=⟨cj,0,none⟩) (.inl (.inl rfl)) _).setCell (p:=⟨dw,0,none⟩) (.inl (.inr rfl)) _).drew;have jE:∀j,j≠cj->j≠dw->¬(j=cj\/j=dw):=λj H I e=>e.elim H I;have z3:(((N.setCell ⟨cj,0,none⟩ (.slice sk wI iS)).setCell ⟨dw,0,none⟩ (.slice sC aQ gl)).drew).1[cj]? =some (.cells #[.slice sk wI iS] 101 (0,0)):=by rw[ye,t_ _ _ _ _ (by simp only;omega),eY,bT.cm,gp];rfl
  have z4:(((N.setCell ⟨cj,0,none⟩ (.slice sk wI iS)).setCell ⟨dw,0,none⟩ (.slice sC aQ gl)).drew).1[dw]? =some (.cells #[.slice sC aQ gl] 342 (0,0)):=by rw[ye,eY,t_ _ _ _ _ (by simp only;omega),bT.ci,gp];rfl
  have zf:=ft.obj bi (jE L (by omega) (by omega));revert ft z3 z4 zf;generalize((N.setCell ⟨cj,0,none⟩ (.slice sk wI iS)).setCell ⟨dw,0,none⟩ (.slice sC aQ gl)).drew=FB;intro ft z3 z4 zf;have avu:BL w FB m p n z s aL ag q (.func (.func cY) #[] #[]) G cB cb cj dw cu cM (s.run n q (dL q.a 4)) (.slice sk wI iS) (.slice sC aQ gl) (.slice sk wI iS) (.slice sC aQ gl):=by
   refine⟨bT.dn.ch ft λj F e=> ?_,ft.obj bT.bj (jE _ (by omega) (by omega)),ft.obj bT.ba (jE _ (by omega) (by omega)),ft.obj bT.cC (jE _ (by omega) (by omega)),z3,z4,ft.obj bT.dj (jE _ (by omega) (by omega)),ft.obj bT.gx (jE _ (by omega) (by omega)),bT.rb.ch ft λj F=>jE j (by omega) (by omega),ej bT.td ft λj F=> ?_,bT.ov,Nat.le_trans bT.jG ft.size,bT.sA,bT.ch.bJ ft λj F e=> ?_⟩
   ·have:=eV j F;rcases e with e|e<;>omega
   ·have:=bT.ov j F;exact jE j (by omega) (by omega)
   ·rcases e with e|e<;>omega
  have aag:L≠cj:=by omega
  have aah:L≠dw:=by omega
  have wJ:(FB.putObj L (.deferred none)).cell? ⟨cj,0,none⟩=some (.slice sk wI iS):=by
   rw[aG (show(FB.putObj L (.deferred none)).1[cj]? =_ from(uU aag.symm).trans z3)];rfl
  have CK:(FB.putObj L (.deferred none)).cell? ⟨dw,0,none⟩=some (.slice sC aQ gl):=by
   rw[aG (show(FB.putObj L (.deferred none)).1[dw]? =_ from(uU aah.symm).trans z4)];rfl
  simp[go_sem,ze,zf,wJ,CK];exact zJ dS (by rw[iM];exact avu) zf
 ·rintro L c k N dS r aD bi;rw[Cx]at aD;obtain⟨rfl,rfl,ca,dr,HR,x,H,I,af,bT⟩:=aD;have cm:=aG bT.cm 0;have ci:=aG bT.ci 0;have aag:L≠cj:=by omega
  have aah:L≠dw:=by omega
  have wJ:(N.putObj L (.deferred none)).cell? ⟨cj,0,none⟩=some ca:=by
   rw[aG (show(N.putObj L (.deferred none)).1[cj]? =_ from(uU aag.symm).trans bT.cm)];rfl
  have CK:(N.putObj L (.deferred none)).cell? ⟨dw,0,none⟩=some dr:=by
   rw[aG (show(N.putObj L (.deferred none)).1[dw]? =_ from(uU aah.symm).trans bT.ci)];rfl
  simp[go_sem,ze,bi,cm,ci,wJ,CK];have avv:(dL q.a 4).take k=((dL q.a 4).take k).map (·%4):=by
   conv=>lhs;rw[<-List.map_id ((dL q.a 4).take k)]
   exact List.map_congr_left λj F=>by grind
  have xz:x%4=x:=OG x (List.mem_of_mem_take (i:=k) (by rw[H];simp));have je:∀j∈HR,s.ko n q j=none:=λj F=>by
   have:=I (j%4) (List.mem_map.2 ⟨j,F,rfl⟩);rwa[OG j (List.mem_of_mem_take (i:=k) (by rw[H];simp[F]))]at this
  rw[xz]at af;have iM:s.og n q false=(dL q.a 4).take k:=by
   unfold ao.og;simp only[Bool.false_eq_true,if_false];have e:dL q.a 4=HR++x::(dL q.a 4).drop k:=by
    conv=>lhs;rw[<-List.take_append_drop k (dL q.a 4),H]
    simp
   rw[H,e];exact s.ahI n q je af
  rw[<-avv]at bT;exact zJ dS (by rw[iM];exact bT) bi
end
end Go.Proofs.YtoohkhcpboldjaaGreatDoor
