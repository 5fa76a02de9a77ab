/- The maker makes all blocks, up to the onW on top. Conditions: the variables that are listed hold what the text lays; sizes. -/
import Derived.Test.YtoohkhcpboldjaaGreatDoorSpH
import Derived.Test.YtoohkhcpboldjaaGreatDoorMcF
set_option maxRecDepth 100000
set_option maxHeartbeats 8000000
set_option linter.unusedSimpArgs false
set_option linter.unusedVariables false
namespace Go.Proofs.YtoohkhcpboldjaaGreatDoor
open Go.RowKit Go.Kin Go.Maps
theorem YA{n:Nat}:∀(m:Nat) (xs:List (Fin n)),xs.Nodup->(∀a∈xs,a.val<m)->xs.length<=m
 |0,xs,_,h=>by
  cases xs with
  |nil=>simp
  |cons a xs=>have:=h a (by simp);omega
 |m+1,xs,av,h=>by
  by_cases aH:∃a∈xs,a.val=m
  ·obtain⟨a,am,xy⟩:=aH;have H:=YA m (xs.erase a) (av.erase a) λc T=>by
    grind
   grind
  ·have H:=YA m xs av λc T=>by
    grind
   omega
theorem ags{aR:gP->Option Value}{l:List (Nat×br)}(xM:∀o:gP,(aR o).isSome=true↔eK l o.val≠[])(al:∀x∈l,x.1<=255){xs:List gP}(eS:S32.xN aR xs):(∀a∈xs,a.val<64)/\(xs.Pairwise (λa b=>a<b)->xs.map (λa:gP=>a.val)=kN l):=by
 have kq:∀a∈xs,a.val<64:=λa am=>by
  have H:=(xM a).1 ((eS.2 a).1 am);obtain⟨x,M⟩:=List.exists_mem_of_ne_nil _ H;obtain⟨I,af⟩:=YB.1 M;have:=al x I;omega
 refine⟨kq,λah=>YC ?_ (YD l) λo=> ?_⟩
 ·grind
 ·rw[List.mem_map,Ny];constructor
  ·rintro⟨a,am,rfl⟩;exact⟨kq a am,(xM a).1 ((eS.2 a).1 am)⟩
  ·rintro⟨H,I⟩;exact⟨⟨o,by omega⟩,(eS.2 _).2 ((xM _).2 I),rfl⟩
theorem agt(w:World)(ag B C L:Obj):∃N,(((w.alloc ag).alloc B).alloc C).alloc L=N/\N.1[w.1.size]? =some ag/\N.1[w.1.size+1]? =some B/\N.1[w.1.size+2]? =some C/\N.1[w.1.size+3]? =some L/\N.1.size=w.1.size+4/\D ak w N:=by
 refine⟨_,rfl,?_,?_,?_,?_,by simp,((((D.refl ak w).alloc _).alloc _).alloc _).alloc _⟩
 ·rw[pY _ _ _ (by simp<;>omega),pY _ _ _ (by simp<;>omega),pY _ _ _ (by simp<;>omega),cl]
 ·simp_all
 ·simp_all
 ·simp
theorem asd{P:Program}{t e:TypeId}{z:Value}{size bytes g n c:Nat}(bl:Bg P t e z size bytes)(av:0<n)(GC:n<=c)(w:World):(Instr.sliceAt t (.slice (some ⟨g,0,none⟩) n c) none (some (.int .i64 n)) (some (.int .i64 n))).run P w=.ok (.slice (some ⟨g,0,none⟩) n n) w:=by
 obtain⟨i,aa,_,cL,_⟩:=info_parts bl.vR;have Jl:¬c<n:=by omega
 have bf:¬n=0:=by omega
 simp[Instr.sliceAt,Instr.slice,Instr.sliceBounds,Instr.sliceBound,asIntOf,run_underlying bl.nx,sizeOf,typeInfo,aa,Jl,bf,Addr.add]
theorem ase{ct:Type}{w:World}{ag:Option Addr}{c dg k:Nat}{g':ct->List Value}{ae:List ct}(h:fA w (.slice ag ae.length c) g' k ae)(H:ae.length<=dg)(I:dg<=maxLen):fA w (.slice ag ae.length dg) g' k ae:=by
 obtain⟨vh,aA,e,_,_,af⟩:=h;injection e with aK _ _;subst aK;exact⟨ag,dg,rfl,H,I,af⟩
section
variable{ay:Type}{bc:ay->h_}{m:ay->Nat}{rd:Src ay}{nw:ay->Pt->List UInt8->ay×Pt×Int}{bM:ay->Pt->ay}{dB:TypeId}{ca:Value}{s:ay}{w w':World}{O:Nat->Prop}
theorem asf(aw:vb bc m rd nw bM (.iface dB ca))(aH:9000<=m s)(aN:∀s,kk (bc s))(h:bc s w O)(p:Pt)(ok:bN p)(jO:Value)(l:List (Nat×br))(al:fA w jO qz 45 l)(hR:∀x∈l,kM x)(gc:∀j,jO.ownBlock=some j->¬O j/\j<w.1.size)(xv:l.length<=1000)(ck:hj w)(aF:ik bc O):
  aP Tryz.prog 123 #[.iface dB ca,.agg (Y p),jO] w λW w'=>W=.tuple #[.agg (Y (pZ rd nw bM s p l).2.1),.int .i64 (pZ rd nw bM s p l).2.2]/\bN (pZ rd nw bM s p l).2.1/\bc (pZ rd nw bM s p l).1 w' (ax O w w')/\D O w w':=by
 refine bn Tryz.func123 Tryz.ntmps123 λaZ Z=> ?_;have cU:=bW ok;have cT:=dW ok;have dN:=bW cE;have iz:=dW cE;have xq:=(aN s).lt h;have eO:∀j,w.1.size<=j->¬O j:=λj F e=>by have:=xq j e;omega
 have cI:=al.len Tryz.underlying220 3;obtain⟨W1,Ho,bj,ba,cC,cm,gd,aY⟩:=agt w (.cells (Y p) 44) (.cells (Y ad) 44) (.map #[] 0) (.cells #[.map (some (w.1.size+2))] 316);have C':∀(t:TypeId) (w:World),(Instr.makeMap t none).run Tryz.prog w=.ok (.map (some w.1.size)) (w.alloc (.map #[] 0)):=λ_ _=>rfl;have Bh:=bW cE;simp[go_sem,cU,cT,gm,gn,cI,C'];obtain⟨g,mG⟩:=az (w.1.size);rw[mG]at bj ba cC cm gd Ho⊢;rw[Ho];clear Ho;obtain⟨gq,cK,hr,asg,eF,cw⟩:W1.1[g]? =some (.cells (Y p) 44 (0,0))/\W1.1[g+1]? =some (.cells (Y ad) 44 (0,0))/\W1.1[g+2]? =some (.map #[] 0)/\W1.1[g+3]? =some (.cells #[.map (some (g+2))] 316 (0,0))/\D ak w W1/\W1.1.size=g+4:=⟨bj,ba,cC,cm,aY,gd⟩;clear bj ba cC cm aY gd;have yQ:=al.ch eF λ_ _ _ e=>e;have mX:=ck.ch eF λ_ _ e=>e;have cb:Hp (g+4) (g+2) (λ_=>none) [] W1:=⟨⟨_,⟨#[],0,hr,⟨by simp,MapKept.stamped_empty 0,by simp⟩,Nat.le_refl _,rfl⟩,λa=>rfl⟩,λo=>World.ownsRow_nil _ _ _ _,λo=>by simp[eK],λo k r=>by simp[k_,Value.ownBlock]at r,λo eX k r=>by simp[k_,Value.ownBlock]at r⟩;have aHz:∀k,Ju k->k<g:=λk r=>by have:=ck.lt k r;omega
 refine du (λJ f u=>∃i aR,J=l.length - i/\i<=l.length/\f 0=.iface dB ca/\f 2=jO/\f 4=.pointer (some ⟨g,0,none⟩)/\f 6=.pointer (some ⟨g+1,0,none⟩)/\f 8=.pointer (some ⟨g+3,0,none⟩)/\f 9=.func (.func 177) #[] #[.pointer (some ⟨g+3,0,none⟩)]/\
   f 24=jO/\f 25=.int .i64 l.length/\f 26=.int .i64 (i:Nat)/\ul none l=ul (EX l i) (l.drop i)/\(∀x∈l.take i,x.1<=255)/\Hp (g+4) (g+2) aR (l.take i) u/\D (aj (g+2)) W1 u) l.length
  ⟨0,_,rfl,Nat.zero_le _,by simp,by simp,by simp,by simp,by simp,by simp,by simp,by simp,by simp,rfl,by simp,by simpa using cb,D.refl _ _⟩ ?_
 rintro cJ bK _ f u ⟨i,aR,rfl,aa,f0,bh,cr,f6,bz,ef,f24,f25,f26,gg,EY,ff,aJ⟩;have A':=aJ.size;have EU:D ak w u:=eF.bJ aJ λk r e=>by simp only[aj]at e;omega
 have mH:=ck.ch EU λ_ _ e=>e;have an:=(aN s).ch h EU λ_ _ e=>e;have rn:=aJ.obj gq λe=>by simp only[aj]at e;omega
 have fz:=aJ.obj cK λe=>by simp only[aj]at e;omega
 have io:=aJ.obj asg λe=>by simp only[aj]at e;omega
 have zz:=al.ch EU λ_ _ _ e=>e;have bL:∀{N:World} {x:ay×Pt×Int} {Q:Nat->Prop},pZ rd nw bM s p l=x->bN x.2.1->bc x.1 N Q->¬Q (g+1)->(∀k,Q k->ax O w N k)->D O w N->aZ (.tuple #[.agg (Y x.2.1),.int .i64 x.2.2]) (N.setRow (g+1) (Y x.2.1)):=λ{N x Q} e dh a xH eP c=>by
  subst e;have EZ:=c.size;have dg:D (aj (g+1)) N (N.setRow (g+1) (Y (pZ rd nw bM s p l).2.1)):=(D.refl (aj (g+1)) N).setRow (.inl rfl) _;have AM:=dg.size;refine Z _ _ ⟨rfl,dh,(aN _).ex ((aN _).ch a dg λk r e=>by simp only[aj]at e;subst e;exact xH r) (λk r=>(eP k r).imp id λe=>⟨e.1,by omega⟩) (ax.lt xq (by omega)),?_⟩;exact c.bJ dg λk r e=>by simp only[aj]at e;omega
 clear Z;have dT:∀{N:World},ul none l=false->D ak u N->aZ (.tuple #[.agg (Y ad),.int .i64 1]) (N.setRow (g+1) (Y ad)):=λ{N} e c=>by
  have aW:pZ rd nw bM s p l=(s,ad,1):=by unfold pZ;grind
  exact bL aW cE ((aN s).ch an c λ_ _ e=>e) (eO _ (by omega)) (λk r=>.inl r) ((EU.trans c).mono λ_ _ e=>e.elim)
 by_cases aO:i<l.length
 ·have jm:(i:Int)<l.length:=by omega
  obtain⟨x,M⟩:∃x,l[i]? =some x:=⟨_,List.getElem?_eq_getElem aO⟩;have dh:=hR x (List.mem_of_getElem? M);have eU:=nG dh;have gs:=zu dh;have Db:=SL dh;have CX:=nG vc;have qG:=xJ (x:=x);have gO:IntKind.i64.wrap ((i:Int)+1)=((i+1:Nat):Int):=by rw[IntKind.wrap_i64];omega
  obtain⟨b,off,c,cs,bl,fr,aS,V,bf,H,I,af⟩:=agu zz hR M;have gu:off+i*45+45<=cs.size:=by omega
  have te:=ash l M;rw[show(if i=0 then none else(l[i - 1]?).map (·.1))=EX l i from rfl,show(if i+1=0 then none else(l[i+1 - 1]?).map (·.1))=EX l (i+1)from rfl]at te;rw[te]at gg;have tf:Nz l i x=(decide (1<=x.1/\x.1<=255)&&fI x.2&&(match EX l i with|none=>true|some z=>decide (z<x.1))):=rfl;have J':Nz l i x=false->ul none l=false:=λe=>by rw[gg,e];rfl
  have bx:=(D.refl ak u).alloc (.cells (dF x) 227);have dj:=cl u (.cells (dF x) 227);have j_:(u.alloc (.cells (dF x) 227)).1.size=u.1.size+1:=by simp
  obtain⟨bw,mz⟩:=az (u.alloc (.cells (dF x) 227));rw[mz]at bx dj j_;have agv:=f24;have YE:=bh;rw[aS]at agv YE;simp[go_sem,agv,f25,f26,jm,aO,V,af,gu,wd,we,qG,CX,eU,gs,bQ,mz];clear mz;obtain⟨vg,zv⟩:=az (u.1.size);rw[zv]at dj j_⊢;have oE:=(aG dj 0).trans (NA (x:=x));have pu:=mH.ch bx λ_ _ e=>e;refine cD [A 0,A 1,(2,some []),A 3,A 4,A 5,A 6,(7,some []),A 8,A 9,A 10,A 11,A 12,A 13,A 14,A 15,A 16,A 17,A 18,A 19,A 20,A 21,A 22,A 23,A 24] ?_;have YF:=bx.drew;have SH:bw.drew.1[vg]? =some (.cells (dF x) 227 (0,0)):=dj;have asi:bw.drew.cell? ⟨vg,0,none⟩=some (.int .u16 x.1):=oE;have NB:=pu.ch (D.refl ak bw).drew λ_ _ e=>e;have aHA:bw.drew.1.size=vg+1:=j_;generalize bw.drew=cd at*;simp[go_sem,asi];refine(agw x.1 dh.n cd).mono ?_;rintro _ cF ⟨rfl,hi⟩;subst hi;by_cases cB:1<=x.1/\x.1<=255
  case neg=>
   have e:=fz;have YG:=YF.obj fz id;simp[go_sem,cB,oz,f6,YG,dN,iz,bQ];exact dT (J' (by grind)) YF
  rw[decide_eq_true cB,Bool.true_and]at tf;simp[go_sem,cB,SH,eU,Db];refine(Rs x.2 cF dh.i NB.qt).mono ?_;rintro _ eA ⟨rfl,ev⟩;have Hq:=YF.trans ev;have oj:=ev.obj SH id;have xI:=Hq.obj fz id;have agx:=(aG oj 0).trans (NA (x:=x))
  cases agy:fI x.2 with
  |false=>
   simp[go_sem,oz,f6,xI,dN,iz,bQ];exact dT (J' (by rw[tf,agy];rfl)) Hq
  |true=>
  rw[agy,Bool.true_and]at tf;have NC:EX l i=none/\i=0\/∃y,0<i/\l[i - 1]? =some y/\EX l i=some y.1:=by
   by_cases bf:i=0
   ·exact .inl ⟨by unfold EX;rw[if_pos bf],bf⟩
   ·obtain⟨y,ar⟩:∃y,l[i - 1]? =some y:=⟨_,List.getElem?_eq_getElem (by omega)⟩;exact .inr ⟨y,by omega,ar,by unfold EX;rw[if_neg bf,ar];rfl⟩
  rcases NC with⟨oB,kO⟩|⟨y,kO,ar,YH⟩
  case' inl=>
   rw[oB]at tf;have tf:Nz l i x=true:=tf;have Dc:¬(0:Int)<i:=by omega
   have asj:¬0<i:=by omega
   simp[go_sem,Dc,asj,ef,oj,eU,gs]
  case' inr=>
   rw[YH]at tf;have tf:Nz l i x=decide (y.1<x.1):=tf;have Dc:(0:Int)<i:=by omega
   have ND:i - 1<l.length:=by omega
   have NE:IntKind.i64.wrap ((i:Int) - 1)=((i - 1:Nat):Int):=by rw[IntKind.wrap_i64];omega
   obtain⟨cC,aHB,aA,SM,agz,NF,rv,dk,agA,_⟩:=agu (zz.ch Hq λ_ _ _ e=>e) hR ar;rw[aS]at rv;injection rv with xO _ _;injection xO with xO;injection xO with Ka YI;subst Ka YI;by_cases xP:y.1<x.1
   case' neg=>
    have Hr:(x.1:Int)<=y.1:=by omega
    simp[go_sem,kO,Dc,NE,ND,YE,agA,agx,Hr,oz,f6,xI,dN,iz,bQ];exact dT (J' (by grind)) Hq
   have Hr:¬(x.1:Int)<=y.1:=by omega
   rw[decide_eq_true xP]at tf;simp[go_sem,kO,Dc,NE,ND,YE,agA,agx,Hr,ef,oj,eU,gs]
  all_goals
   have n':∀(x:List Value) (w:World),(callFunc 177 x.toArray).run Tryz.prog w=.ok (.enter 177 x.toArray) w:=λx w=>by simp[go_sem]
   rw[EK _ _ _ _ [.pointer (some ⟨g+3,0,none⟩)] _ (n' _ _)];have NG:=ev.size;have Kb:=ff.ch Hq id λ_ _ _ e=>e;refine(asl Kb (Hq.obj io id) (by omega) (by omega) (by omega) (by omega) dh (by rw[List.length_take];omega)).mono ?_;rintro v9 dC ⟨E_,agB,dX⟩;have jh:l.take i++[x]=l.take (i+1):=by rw[List.take_add_one,M];rfl
   rw[jh]at agB;simp[go_sem,f26,gO];refine cH.intro (l.length -(i+1)) (by omega) (bK _ _ _ ⟨i+1,E_,rfl,by omega,by simp[f0],by simp[bh],by simp[cr],by simp[f6],by simp[bz],by simp[ef],by simp[f24],by simp[f25],by simp,by rw[gg,tf];rfl,λz hz=> ?_,agB,(aJ.trans (Hq.mono λ_ _ e=>e.elim)).bJ dX λj F e=> ?_⟩)
   ·rw[<-jh]at hz;rcases List.mem_append.1 hz with hz|hz
    ·exact EY z hz
    ·rw[List.mem_singleton]at hz;rw[hz];exact cB.2
   ·rcases e with e|e
    ·exact e
    ·omega
 obtain rfl:i=l.length:=by omega
 rw[List.drop_of_length_le (Nat.le_refl _)]at gg;rw[List.take_of_length_le (Nat.le_refl _)]at ff EY;have gg:ul none l=true:=gg;clear dT aa aO;have jV:=aG io 0;simp[go_sem,f25,f26,bz,jV];refine(S32.YJ (g+2) u).mono ?_;rintro _ be ⟨rfl,cW⟩;subst cW;have bv:=(D.refl ak u).alloc (.cells #[.map (some (g+2))] 316);have ci:=cl u (.cells #[.map (some (g+2))] 316);obtain⟨eQ,GZ⟩:=az (u.1.size);simp[go_sem];rw[GZ]at ci⊢;generalize u.alloc (.cells #[.map (some (g+2))] 316)=be at*;have asm:∀xs,S32.xN aR xs->xs.length<=255:=λxs eS=>Nat.le_trans (YA 64 xs eS.1 (ags ff.kP EY eS).1) (by omega);refine(S32.YK (q:=eQ) u ff.map (by omega) asm be bv (aG ci 0)).mono ?_;rintro xa bw ⟨xs,eS,Nq,nk,bx,iR⟩;have pg:=bv.trans bx;have Bi:=pg.size;obtain⟨kq,Kc⟩:=ags ff.kP EY eS;have Kc:=Kc Nq;have lr:=agC l;rw[<-Kc,List.length_map]at lr;have NH:=ff.ch pg id λ_ _ _ e=>e;have v0:=pg.obj rn id;have gw:=pg.obj fz id;have v3:=pg.obj io id;have pu:=mH.ch pg λ_ _ e=>e;have bC:=(aN s).ch an pg λ_ _ e=>e;have lB:D ak w bw:=EU.trans pg;have asn:=nk.len Tryz.underlying194 3;have oO:pZ rd nw bM s p l=if(lY rd nw p l (kN l) s []).2.2≠0 then((lY rd nw p l (kN l) s []).1,ad,(lY rd nw p l (kN l) s []).2.2)else pq rd nw bM 0 (lY rd nw p l (kN l) s []).1 p (lY rd nw p l (kN l) s []).2.1:=by
  unfold pZ;rw[if_pos gg]
 have aso:∀x∈([]:List (Nat×Pt)),mF x:=by simp
 simp[go_sem,asn];have agD:∀{N:World} {x:ay×Pt×Int} {Q:Nat->Prop},pZ rd nw bM s p l=x->bN x.2.1->bc x.1 N Q->(∀k,Q k->ax O bw N k)->D O bw N->aZ (.tuple #[.agg (Y x.2.1),.int .i64 x.2.2]) (N.setRow (g+1) (Y x.2.1)):=λ{N x Q} e dh a eP c=>by
  have H:=c.size;have I:=lB.size;exact bL e dh a (λr=>(eP _ r).elim (eO _ (by omega)) λe=>by omega) (λk r=>(eP k r).imp id λe=>⟨by omega,e.2⟩) ((lB.mono λ_ _ e=>e.elim).trans c)
 refine du (λJ f u=>∃j s' b' gY jw,J=xs.length - j/\j<=xs.length/\f 0=.iface dB ca/\f 4=.pointer (some ⟨g,0,none⟩)/\f 6=.pointer (some ⟨g+1,0,none⟩)/\f 8=.pointer (some ⟨g+3,0,none⟩)/\f 12=gY/\f 63=xa/\f 64=.int .i64 xs.length/\f 65=.int .i64 (j:Nat)/\
   lY rd nw p l (kN l) s []=lY rd nw p l ((kN l).drop j) s' b'/\b'.length<=j/\(∀x∈b',mF x)/\u.ownsRow 0 229 42 gY b'.length (dv et b')/\(∀k,gY.ownBlock=some k->bw.1.size<=k/\¬jw k)/\
   bc s' u jw/\(∀k,jw k->ax O bw u k)/\D O bw u/\64*(xs.length - j)+4200<=m s') xs.length
  ⟨0,s,[],.slice none 0 0,O,rfl,Nat.zero_le _,by simp[f0],by simp[cr],by simp[f6],by simp[bz],by simp,by simp,by simp,by simp,rfl,by simp,aso,World.ownsRow_nil _ _ _ _,λk r=>by simp[Value.ownBlock]at r,bC,λk r=>.inl r,D.refl _ _,by omega⟩ ?_
 clear cJ bK f f0 bh cr f6 bz ef f24 f25 f26;rintro cJ bK _ f cS ⟨j,s',b',gY,jw,rfl,F,f0,cr,f6,bz,dA,Hs,Bj,zA,iD,aHC,SN,SO,Dd,GB,vi,xQ,asp⟩;have aHD:=xQ.size;have aHE:g<=bw.1.size:=by have:=lB.size;omega
 have De:∀k,g<=k->¬O k:=λk r=>eO k (by omega);have lZ:=xQ.obj v0 (De _ (Nat.le_refl _));have ey:=xQ.obj gw (De _ (by omega));have iq:=xQ.obj v3 (De _ (by omega));have iO:=aG iq 0;have agE:=aF.ck pu xQ ⟨_,GB⟩ λ_ _ e=>e;have NI:ik bc jw:=(aF.cq pu).mono vi;have asq:=(aN _).lt GB;by_cases aO:j<xs.length
 case neg=>
  obtain rfl:j=xs.length:=by omega
  rw[List.drop_of_length_le (by rw[<-Kc,List.length_map];omega),lY]at iD;rw[iD]at oO;simp only[ne_eq,not_true_eq_false,if_false]at oO;simp[go_sem,Bj,zA,f0,cr,dA,lZ,cU,cT];have CS:fA cS gY qA 42 b':=fA.fp SO λa am=>mC (SN a am);refine(af9 aw aN GB p ok 0 gY b' (by omega) CS SN (λk r=>⟨(Dd k r).2,vj SO k r⟩) agE NI (by decide)).mono ?_;obtain⟨⟨oh,uT,hw⟩,kp⟩:∃x,pq rd nw bM 0 s' p b'=x:=⟨_,rfl⟩;rw[kp]at oO⊢;rintro _ cd ⟨rfl,um,cG,co⟩;have wl:=co.size;have oM:=co.obj ey λe=>(vi _ e).elim (De _ (by omega)) λe=>by have:=lt_of_block gw;omega
  have zB:=bW um;have Kd:=dW um;simp only at zB Kd;simp[go_sem,f6,oM,zB,Kd,dN,bQ];refine agD oO um cG (λk r=> ?_) (xQ.bJ co λk r e=>(vi k e).elim id λe=>by omega);rcases r with r|r
  ·exact(vi k r).imp id λe=>⟨e.1,by omega⟩
  ·exact .inr ⟨by omega,r.2⟩
 have nl:(j:Int)<xs.length:=by omega
 obtain⟨a,am⟩:∃a,xs[j]? =some a:=⟨_,List.getElem?_eq_getElem aO⟩;have aHF:=kq a (List.mem_of_getElem? am);have sl:(kN l).drop j=a.val::(kN l).drop (j+1):=by
  have eG:j<(kN l).length:=by rw[<-Kc,List.length_map];exact aO
  rw[List.drop_eq_getElem_cons eG];congr 1;have e:(kN l)[j]? =some a.val:=by rw[<-Kc,List.getElem?_map,am];rfl
  rw[List.getElem?_eq_getElem eG]at e;exact Option.some.inj e
 rw[sl,lY]at iD;have kJ:IntKind.i64.wrap ((j:Int)+1)=((j+1:Nat):Int):=by rw[IntKind.wrap_i64];omega
 have asr:=nk.ch xQ λk r e=>De k (by have:=iR k r;have:=bv.size;omega) e;obtain⟨bp,mu,CF,_⟩:=asr.at S32.bO (by simp[S32.lC]) (i:=j) (u:=.int .u32 a.val) (by simp[S32.lC,am,se]);have YL:=NH.ch xQ (De _ (by omega)) λo k r e=>De k (by have:=(NH.fr o k r).1;omega) e;have ass:eK l a.val≠[]:=(NH.kP a).1 ((eS.2 a).1 (List.mem_of_getElem? am));have nb:0<(eK l a.val).length:=List.length_pos_iff.2 ass;have agF:∀x∈eK l a.val,kM x:=λx M=>hR x (YB.1 M).1;obtain⟨cq,cap,di,Bk,xR,aHG,E',agG,_⟩:=zb (YL.own a) nb;have iM:=YL.map.m_ Ke Tryz.underlying316 (z:=.slice none 0 0) (by kernel_rfl) a;have iM:(Instr.lookup 316 (.map (some (g+2))) (.int .u32 a.val) false).run Tryz.prog cS=.ok (.slice (some ⟨cq,0,none⟩) (eK l a.val).length cap) cS:=by rw[<-Bk];exact iM
 have Kf:=λw=>asd SP (g:=cq) nb xR w;have iw:fA cS (.slice (some ⟨cq,0,none⟩) (eK l a.val).length (eK l a.val).length) qz 45 (eK l a.val):=by
  have H:fA cS (k_ aR a) qz 45 (eK l a.val):=fA.fp (YL.own a) λx M=>nG (agF x M);rw[Bk]at H;exact ase H (Nat.le_refl _) (by omega)
 have zg:g+4<=cq:=(NH.fr a cq (by rw[Bk];rfl)).1;have aHH:cq<bw.1.size:=vj (NH.own a) cq (by rw[Bk];rfl);have ast:¬jw cq:=λe=>(vi _ e).elim (De _ (by omega)) λe=>by omega
 have mu:∀w',(Instr.indexAt 194 xa (.int .i64 j)).run Tryz.prog w'=.ok (.pointer (some bp)) w':=mu;simp[go_sem,Hs,Bj,zA,nl,mu,CF,bz,iO,iM];have sY:=λ(N:World) (O':Nat->Prop) (fu:bc s' N O') (T:D ak cS N) (qH:∀k,O' k->jw k)=>asu aw (by omega) aN fu p ok a.val (by omega) (.slice (some ⟨cq,0,none⟩) (eK l a.val).length (eK l a.val).length) (eK l a.val) (iw.ch T λ_ _ _ e=>e) agF (λk r=>by
   simp[Value.ownBlock]at r;have:=T.size;subst r;exact⟨λe=>ast (qH _ e),by omega⟩) (Nat.le_trans (agH l a.val) (by omega)) (agE.ch T λ_ _ e=>e) (NI.mono qH)
 have agI:=agJ aw s' p a.val (eK l a.val);obtain⟨⟨oh,tg,agK,hw⟩,eR⟩:∃x,la rd nw s' p a.val (eK l a.val)=x:=⟨_,rfl⟩;rw[eR]at iD agI;simp only at iD agI;simp only[eR]at sY;obtain⟨bg,bP⟩:∃bg:(Nat->Value)->World->Prop,bg=λf' N=>∃fB NJ,f' 0=.iface dB ca/\f' 4=.pointer (some ⟨g,0,none⟩)/\f' 6=.pointer (some ⟨g+1,0,none⟩)/\f' 8=.pointer (some ⟨g+3,0,none⟩)/\f' 12=gY/\f' 14=.int .u32 a.val/\f' 16=.pointer (some ⟨fB,0,none⟩)/\f' 17=.bool agK/\f' 18=.int .i64 hw/\f' 63=xa/\f' 64=.int .i64 xs.length/\f' 65=.int .i64 (j:Nat)/\
   bN tg/\N.1[fB]? =some (.cells (Y tg) 44 (0,0))/\bc oh N NJ/\(∀k,NJ k->ax O bw N k/\(jw k\/cS.1.size<=k))/\D O bw N/\N.ownsRow 0 229 42 gY b'.length (dv et b')/\cS.1.size<=N.1.size:=⟨_,rfl⟩
 have SQ:∀k,gY.ownBlock=some k->k<cS.1.size:=vj SO;refine SR bg [[A 0,A 1,A 2,A 3,A 4,A 5,A 6,A 7,A 8,(9,some []),A 10,A 11,A 12,A 13,(14,some [10,11,12,13]),(15,some [12,13]),A 16,A 17],
  [A 0,A 1,A 2,A 3,A 4,A 5,A 6,A 7,A 8,(14,some [0,1,2,3,4,5,6,7,8]),(9,some []),A 10,A 11,A 12,A 13,(15,some [12,13]),A 16,A 17]] (by kernel_rfl) (by kernel_rfl) ?_ ?_
 ·intro nn th;simp only[List.mem_cons,List.not_mem_nil,or_false]at th;have dU:D ak cS cS.drew:=(D.refl _ _).drew;have SU:cS.drew.1[g]? =some (.cells (Y p) 44 (0,0)):=lZ;have ru:bc s' cS.drew jw:=(aN _).ch GB dU λ_ _ e=>e;have Ht:D O bw cS.drew:=xQ.drew;have YM:cS.drew.ownsRow 0 229 42 gY b'.length (dv et b'):=ej SO dU λ_ _ e=>e;have asv:cS.drew.1.size=cS.1.size:=rfl;obtain⟨mI,agL⟩:=az (cS.drew);rw[agL]at dU SU ru Ht YM asv⊢;clear agL;rcases th with rfl|rfl
  ·simp[go_sem,f0,cr,SU,cU,cT,Kf];refine(sY mI jw ru dU λ_ e=>e).mono ?_;rintro _ cd ⟨rfl,um,cG,co⟩;have wl:=co.size;have zB:=bW um;have Kd:=dW um;have dz:=(D.refl ak cd).alloc (.cells (Y tg) 44);have ib:=cl cd (.cells (Y tg) 44);have hn:(cd.alloc (.cells (Y tg) 44)).1.size=cd.1.size+1:=by simp
   simp[go_sem,gm,gn,dN,zB,bQ];rw[bP];refine⟨cd.1.size,ax jw mI cd,by simp[f0],by simp[cr],by simp[f6],by simp[bz],by simp[dA],by simp,by simp,by simp,by simp,by simp[Hs],by simp[Bj],by simp[zA],um,ib,(aN _).ch cG dz λ_ _ e=>e,λk r=> ?_,?_,ej (ej YM co λk r=>(Dd k r).2) dz λ_ _ e=>e,by omega⟩
   ·rcases r with r|r
    ·exact⟨(vi k r).imp id λe=>⟨e.1,by omega⟩,.inl r⟩
    ·exact⟨.inr ⟨by omega,by omega⟩,.inr (by omega)⟩
   ·exact(Ht.bJ co λk r e=>(vi k e).elim id λe=>by omega).trans (dz.mono λ_ _ e=>e.elim)
  ·have dz:=(D.refl ak mI).alloc (.cells (Y ad) 44);have ib:=cl mI (.cells (Y ad) 44);have hn:(mI.alloc (.cells (Y ad) 44)).1.size=mI.1.size+1:=by simp
   have asw:=dz.obj SU id;simp[go_sem,f0,cr,SU,asw,cU,cT,Kf,gm,gn];refine(sY _ jw ((aN _).ch ru dz λ_ _ e=>e) (dU.trans dz) λ_ e=>e).mono ?_;rintro _ cd ⟨rfl,um,cG,co⟩;have wl:=co.size;have zB:=bW um;have Kd:=dW um;have xH:¬jw mI.1.size:=λe=>by have:=asq _ e;omega
   have agM:=co.obj ib xH;have ev:D (aj mI.1.size) cd (cd.setRow mI.1.size (Y tg)):=(D.refl (aj mI.1.size) cd).setRow (.inl rfl) _;have NG:=ev.size;have oj:(cd.setRow mI.1.size (Y tg)).1[mI.1.size]? =some (.cells (Y tg) 44 (0,0)):=by rw[gk,agM];rfl
   simp[go_sem,agM,dN,zB,bQ];rw[bP];refine⟨mI.1.size,ax jw (mI.alloc (.cells (Y ad) 44)) cd,by simp[f0],by simp[cr],by simp[f6],by simp[bz],by simp[dA],by simp,by simp,by simp,by simp,by simp[Hs],by simp[Bj],by simp[zA],um,oj,(aN _).ch cG ev λk r e=> ?_,λk r=> ?_,?_,ej (ej (ej YM dz λ_ _ e=>e) co λk r=>(Dd k r).2) ev λk r e=> ?_,by omega⟩
   ·simp only[aj]at e;subst e;exact r.elim xH λe=>by omega
   ·rcases r with r|r
    ·exact⟨(vi k r).imp id λe=>⟨e.1,by omega⟩,.inl r⟩
    ·exact⟨.inr ⟨by omega,by omega⟩,.inr (by omega)⟩
   ·exact(((Ht.trans (dz.mono λ_ _ e=>e.elim)).bJ co λk r e=>(vi k e).elim id λe=>by omega)).bJ ev λk r e=>by simp only[aj]at e;omega
   ·simp only[aj]at e;have:=SQ k r;omega
 rw[bP];clear bP bg sY f0 cr f6 bz dA Hs Bj zA;rintro f N ⟨fB,NJ,f0,cr,f6,bz,dA,f14,zC,lz,sm,Hs,Bj,zA,um,Kg,cG,Kh,co,YN,Yx⟩;have zB:=bW um;have Kd:=dW um;by_cases aV:hw=0
 case neg=>
  have mY:(hw==0)=false:=beq_false_of_ne aV;rw[if_pos aV]at iD;rw[iD]at oO;simp only[ne_eq,aV,not_false_eq_true,if_true]at oO;have oM:=co.obj gw (De _ (by omega));simp[go_sem,sm,aV,mY,bne,oz,f6,oM,dN,iz,bQ];exact agD oO cE cG (λk r=>(Kh k r).1) co
 rw[if_neg (by simp[aV])]at iD;subst aV
 cases agK with
 |false=>
  simp[go_sem,lz,sm,zA,kJ];exact cH.intro (xs.length -(j+1)) (by omega) (bK _ _ _ ⟨j+1,oh,b',gY,NJ,rfl,by omega,by simp[f0],by simp[cr],by simp[f6],by simp[bz],by simp[dA],by simp[Hs],by simp[Bj],by simp,by simpa using iD,by omega,SN,YN,λk r=>⟨(Dd k r).1,λe=>(Kh k e).2.elim (Dd k r).2 λe=>by have:=SQ k r;omega⟩,cG,λk r=>(Kh k r).1,co,by omega⟩)
 |true=>
  have oN:mF (a.val,tg):=⟨by show a.val<_;omega,um⟩;have ia:∀{w:World} {K:Value->World->Prop},hX Tryz.prog 229 [(0,.int .u32 a.val),(1,.agg (Y tg))] w K=K (.agg (et (a.val,tg))) w:=λ{w K}=>agN (x:=(a.val,tg)) oN;obtain⟨Hu,gv,aI,pK⟩:∃ag m c,gY=.slice ag m c:=by
   rcases YN.2 with⟨e,_⟩|⟨l_,cap,di,e,_⟩
   ·exact⟨_,_,_,e⟩
   ·exact⟨_,_,_,e⟩
  simp[↓yK,go_sem,lz,sm,f14,dA,zC,Kg,zB,Kd,ia];refine AH (Yy oN _) ?_;simp[go_sem,dA];refine va (us:=(et (a.val,tg)).toList) Nw YN (by rw[Array.length_toList,mC oN]) (CP (SF _)) (by unfold maxLen;omega) (by omega) λsn eA a' aX bq=> ?_;have lu:dv et (b'++[(a.val,tg)])=dv et b'++(et (a.val,tg)).toList:=by rw[xi,yE]
  have NG:=aX.size;simp[go_sem,zA,kJ];refine cH.intro (xs.length -(j+1)) (by omega) (bK _ _ _ ⟨j+1,oh,b'++[(a.val,tg)],sn,NJ,rfl,by omega,by simp[f0],by simp[cr],by simp[f6],by simp[bz],by simp,by simp[Hs],by simp[Bj],by simp,by simpa using iD,by rw[List.length_append,List.length_singleton];omega,λx M=> ?_,?_,λk r=> ?_,(aN _).ch cG aX λk r e=> ?_,λk r=>(Kh k r).1.imp id λe=>⟨e.1,by omega⟩,co.bJ aX λk r e=>by have:=(Dd k e).1;omega,by omega⟩)
  ·rcases List.mem_append.1 M with M|M
   ·exact SN x M
   ·rw[List.mem_singleton]at M;rw[M];exact oN
  ·rw[lu,List.length_append,List.length_singleton];exact a'
  ·rcases bq with e|e
   ·rw[e]at r;exact⟨(Dd k r).1,λe=>(Kh k e).2.elim (Dd k r).2 λe=>by have:=SQ k r;omega⟩
   ·have:=e k r;have:=co.size;exact⟨by omega,λe=>by have:=(aN _).lt cG k e;omega⟩
  ·have hl:=(Kh k r).2;rcases hl with hl|hl
   ·exact(Dd k e).2 hl
   ·have:=SQ k e;omega
end
end Go.Proofs.YtoohkhcpboldjaaGreatDoor
namespace Go.Proofs.YtoohkhcpboldjaaGreatDoor
open Go.RowKit Go.Kin
def un(L:fM)(num:em):List (Nat×List UInt8):=(List.range 64).filterMap λo=>(L.lf (num,Fin.ofNat _ o)).map λb=>(o,b)
theorem agO{L:fM}{num:em}{x:Nat×List UInt8}:x∈un L num↔x.1<64/\L.lf (num,Fin.ofNat _ x.1)=some x.2:=by
 unfold un;rw[List.mem_filterMap];constructor
 ·rintro⟨o,aB,h⟩;obtain⟨b,V,rfl⟩:=Option.map_eq_some_iff.1 h
  grind
 grind
theorem asx(L:fM)(num:em):(un L num).Pairwise λx y=>x.1<y.1:=by
 unfold un;rw[List.pairwise_filterMap];refine List.pairwise_lt_range.imp λ{a b} fE x M y ar=> ?_;obtain⟨_,_,rfl⟩:=Option.map_eq_some_iff.1 M;obtain⟨_,_,rfl⟩:=Option.map_eq_some_iff.1 ar;exact fE
theorem YO(L:fM)(num:em):(un L num).length<=64:=Nat.le_trans (List.length_filterMap_le _ _) (by simp)
theorem asy{L:fM}(ok:L.nB)(num:em):Yb L num (un L num):=by
 refine⟨asx L num,λx=> ?_⟩;rw[agO];constructor
 ·grind
 ·rintro⟨o,H,I⟩;have aB:o.val<64:=by
   have:=ok.lf num o _ I;simp only[oP,Bool.and_eq_true,decide_eq_true_eq]at this;exact this.2
  simp_all
def hJ(L:fM):no:=⟨λn=>L.bk (Fin.ofNat _ n),λn=>L.wiped (Fin.ofNat _ n),λn=>un L (Fin.ofNat _ n)⟩
theorem asz(num:em):(Fin.ofNat 65536 num.val:em)=num:=Fin.ext (by grind)
theorem YP{c:hT}{cp:dy->Nat}(ds:jM cp)(kind num:Nat):∀(C:List (Nat×List UInt8)) (t:dy) (b':List (Nat×Pt)),f_ cp t<=f_ cp (lW (ms c) kind num C t b').1+16*C.length/\(lW (ms c) kind num C t b').2.1.length<=b'.length+C.length
 |[],t,b'=>⟨Nat.le_add_right _ _,Nat.le_refl _⟩
 |(o,b)::C,t,b'=>by
  unfold lW;by_cases V:b=[]
  ·rw[if_pos V];obtain⟨H,I⟩:=YP (c:=c) ds kind num C t (b'++[(o,ad)])
   grind
  ·rw[if_neg V];have bf:f_ cp t<=f_ cp ((ms c).nw t (kL kind num o) b).1+16:=Nc ds c.n c.aT t (kL kind num o) b;split
   ·grind
   ·obtain⟨H,I⟩:=YP (c:=c) ds kind num C ((ms c).nw t (kL kind num o) b).1 (b'++[(o,((ms c).nw t (kL kind num o) b).2.1)])
    grind
section
variable{k m p o s_:Nat}{z:fe}{Ba:xF}{ee w w':World}{es X bo:Nat->Prop}{base hI:Value}{L:fM}{t:dy}{O:Nat->Prop}{cp:dy->Nat}{c:hT}
theorem agP(ds:jM cp)(e:rs ee es)(gy:c.aT<18446744073709551616)(av:c.n<=65536)(t:dy)(cO:Pt)(own:Option br)(wiped:Bool)(C:List (Nat×List UInt8))(xG:C.length<=64)(num:Nat):f_ cp t<=f_ cp (lV (ms c) cO own wiped C num t).1+6600:=by
 have aw:=EQ (k:=0) (m:=0) (p:=0) (z:=⟨λ_=>0,0,λ_=>0⟩) ds e gy av;have H:=afQ aw.rd t cO num;have uj:=Ya (hH c.n) t cO num;unfold lV;have tL:(ms c).rd=hH c.n:=rfl;have wk:(ms c).nw=hg c.n c.aT:=rfl;have xD:(ms c).bM=kK c.n:=rfl;rw[tL,wk,xD];obtain⟨⟨dK,cZ,aW⟩,ff⟩:∃y,jN (hH c.n) t cO num=y:=⟨_,rfl⟩;rw[ff]at H uj⊢;simp only at H uj⊢;split
 ·simp only;omega
 ·have I:f_ cp dK<=f_ cp (if wiped=true\/own.getD cZ=bA then sg (ms c) dK cZ.J else(dK,(),0)).1+1312:=by
   split
   ·exact afU ds e gy av dK cZ.J uj.J
   ·exact Nat.le_add_right _ _
  obtain⟨⟨t3,io,dt⟩,Bl⟩:∃y,(if wiped=true\/own.getD cZ=bA then sg (ms c) dK cZ.J else(dK,(),0))=y:=⟨_,rfl⟩;rw[Bl]at I⊢;simp only at I⊢;split
  ·simp only;omega
  ·split
   ·simp only;omega
   ·obtain⟨af,aU⟩:=YP (c:=c) ds (own.getD cZ).k num C t3 [];obtain⟨⟨t4,EJ,cW⟩,xS⟩:∃y,lW (ms c) (own.getD cZ).k num C t3 []=y:=⟨_,rfl⟩;rw[xS]at af aU⊢;simp only[List.length_nil]at af aU⊢;split
    ·simp only;omega
    ·have bC:=agQ aw num t4 (if wiped=true then ad else cZ.J) EJ;simp only;omega
theorem agR(ds:jM cp)(e:rs ee es)(gy:c.aT<18446744073709551616)(av:c.n<=65536)(t:dy)(q:Pt)(l:List (Nat×br)):f_ cp t<=f_ cp (pZ (hH c.n) (hg c.n c.aT) (kK c.n) t q l).1+8400:=by
 have aw:=EQ (k:=0) (m:=0) (p:=0) (z:=⟨λ_=>0,0,λ_=>0⟩) ds e gy av;have H:=agS aw q l (kN l) t [];have I:=agC l;have af:=agT (rd:=hH c.n) (nw:=hg c.n c.aT) q l (kN l) t [];have aU:=agQ aw 0 (lY (hH c.n) (hg c.n c.aT) q l (kN l) t []).1 q (lY (hH c.n) (hg c.n c.aT) q l (kN l) t []).2.1;rw[List.length_nil]at af;unfold pZ
 grind
theorem ga.aT{n aT:Nat}(h:ga k m p n z aT ee es t w O):w.cell? ⟨k,2,none⟩=some (.int .u64 aT):=by
 obtain⟨aL,ag,ed,H,_⟩:=h;exact aG H.blk 2
end
theorem agU{L:fM}{xs ys:List em}(H:Hv L xs)(I:Hv L ys):xs=ys:=by
 have key:∀{l l':List em},l.Pairwise (λx y=>x<y)->l'.Pairwise (λx y=>x<y)->(∀x,x∈l↔x∈l')->l=l':=by
  intro l
  induction l with
  |nil=>
   intro l' _ _ h
   cases l' with
   |nil=>rfl
   |cons y l'=>exact absurd ((h y).2 (by simp)) (by simp)
  |cons x l bG=>
   intro l' H I h
   cases l' with
   |nil=>grind
   |cons y l'=>
    rw[List.pairwise_cons]at H I;have vd:x=y:=by
     rcases List.mem_cons.1 ((h x).1 (by simp))with e|e
     ·exact e
     ·rcases List.mem_cons.1 ((h y).2 (by simp))with dM|dM
      ·exact dM.symm
      grind
    grind
 exact key H.1 I.1 λx=>(H.2 x).trans (I.2 x).symm
end Go.Proofs.YtoohkhcpboldjaaGreatDoor
