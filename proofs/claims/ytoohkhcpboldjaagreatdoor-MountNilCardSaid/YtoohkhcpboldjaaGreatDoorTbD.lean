/- Tables: all inodes and all blocks' pointers, walked, of any source. Conditions: the variables ptr.wide and tree.hole hold what the text lays. -/
import Derived.Test.YtoohkhcpboldjaaGreatDoorTrH
set_option maxRecDepth 100000
set_option maxHeartbeats 4000000
set_option linter.unusedSimpArgs false
set_option linter.unusedVariables false
namespace Go.Proofs.YtoohkhcpboldjaaGreatDoor
open Go.RowKit Go.Kin
section
variable{ay:Type}{bc:ay->h_}{m:ay->Nat}{rd:Src ay}{sv:Value}
theorem amb(aw:qu bc m rd sv)(off:Nat):∀(k:Nat) (s:ay) (p:Pt),m s<=m (oZ rd off k s p).1+16*k
 |0,s,p=>by unfold oZ;simp
 |k+1,s,p=>by
  have h:=AK aw s p;unfold oZ;split
  ·simp only;omega
  ·have I:=amb aw off k (cv rd s p).1 ((cv rd s p).2.1.getD (if k=1 then off / 8 else off%8) ad);omega
theorem amc(rd:Src ay)(off:Nat):∀(k:Nat) (s:ay) (p:Pt),bN p->bN (oZ rd off k s p).2.1
 |0,s,p,h=>by unfold oZ;exact h
 |k+1,s,p,h=>by
  have ok:=Ex rd s p;unfold oZ;split
  ·exact cE
  ·refine amc rd off k _ _ ?_;rw[List.getD_eq_getElem?_getD];generalize(if k=1 then off / 8 else off%8)=j;by_cases F:j<(cv rd s p).2.1.length
   ·rw[List.getElem?_eq_getElem F];exact ok.all _ (List.getElem_mem F)
   ·rw[List.getElem?_eq_none (by omega)];exact cE
theorem amd(rd:Src ay)(s:ay)(p:Pt)(off:Nat)(h:bN p):bN (dl rd s p off).2.1:=by
 unfold dl;split
 ·exact amc rd off 2 s p h
 ·exact cE
theorem Sm(aw:qu bc m rd sv)(s:ay)(p:Pt)(off:Nat):m s<=m (dl rd s p off).1+32:=by
 unfold dl;split
 ·exact amb aw off 2 s p
 ·simp
theorem ack(aw:qu bc m rd sv)(top:List Pt):∀(ae:List Nat) (s:ay) (df:List (Nat×Pt)) (ce:List Pt),m s<=m (kw rd top ae s df ce).1+16*ae.length
 |[],s,df,ce=>by unfold kw;simp
 |i::ae,s,df,ce=>by
  have h:=AK aw s (top.getD i ad);unfold kw;split
  ·have I:=ack aw top ae s df ce
   grind
  ·split
   ·grind
   ·have I:=ack aw top ae (cv rd s (top.getD i ad)).1 (df++qS i (cv rd s (top.getD i ad)).2.1) (ce++[top.getD i ad])
    grind
theorem afV(aw:qu bc m rd sv)(s:ay)(p:Pt):m s<=m (gU rd s p).1+144:=by
 have H:m s<=m (jP rd s p).1+144:=by
  have h:=AK aw s p;unfold jP;split
  ·simp
  ·split
   ·simp only;omega
   ·have I:=ack aw (cv rd s p).2.1 (List.range 8) (cv rd s p).1 [] [p]
    grind
 unfold gU
 grind
end
theorem agw(n:Nat)(av:n<65536)(w:World):aP Tryz.prog 162 #[.int .u16 n] w λW w'=>W=.bool (decide (1<=n/\n<=255))/\w'=w:=by
 refine bn Tryz.func162 Tryz.ntmps162 λaZ Z=> ?_;by_cases H:1<=n
 ·have lT:(1:Int)<=n:=by omega
  by_cases I:n<=255
  ·have je:(n:Int)<=255:=by omega
   simp[go_sem,H,lT,I,je];exact Z _ _ ⟨by simp[H,I],rfl⟩
  ·have je:¬(n:Int)<=255:=by omega
   simp[go_sem,H,lT,I,je];exact Z _ _ ⟨by simp[H,I],rfl⟩
 ·have lT:¬(1:Int)<=n:=by omega
  simp[go_sem,H,lT];exact Z _ _ ⟨by simp[H],rfl⟩
theorem acl(n:Nat)(av:n<65536)(w:World):aP Tryz.prog 163 #[.int .u16 n] w λW w'=>W=.tuple #[.int .u32 (n / 4:Nat),.int .i64 (n%4:Nat)]/\w'=w:=by
 refine bn Tryz.func163 Tryz.ntmps163 λaZ Z=> ?_;have aK:(n:Int).tdiv 4=((n / 4:Nat):Int):=by rw[Int.tdiv_eq_ediv_of_nonneg (by omega)];omega
 have aW:(n:Int).tmod 4=((n%4:Nat):Int):=by rw[Int.tmod_eq_emod_of_nonneg (by omega)];omega
 have ab:IntKind.u32.wrap (IntKind.u16.wrap ((n:Int) / 4))=((n / 4:Nat):Int):=by simp[IntKind.wrap,IntKind.bits,IntKind.signed];omega
 have ai:IntKind.i64.wrap (IntKind.u16.wrap ((n:Int)%4))=((n%4:Nat):Int):=by
  rw[show IntKind.u16.wrap ((n:Int)%4)=(n:Int)%4 by simp[IntKind.wrap,IntKind.bits,IntKind.signed];omega,IntKind.wrap_i64];omega
 have aC:IntKind.i64.wrap ((n:Int)%4)=((n%4:Nat):Int):=by
  rw[IntKind.wrap_i64];omega
 simp[go_sem,aK,aW,ab,ai,aC];exact Z _ _ ⟨by simp,rfl⟩
def jN{ay:Type}(rd:Src ay)(s:ay)(p:Pt)(n:Nat):ay×br×Int:=
 if¬(1<=n/\n<=255)then(s,bA,1)else if(dl rd s p (n / 4)).2.2≠0 then((dl rd s p (n / 4)).1,bA,(dl rd s p (n / 4)).2.2)
 else((fS rd (dl rd s p (n / 4)).1 (dl rd s p (n / 4)).2.1).1,(fS rd (dl rd s p (n / 4)).1 (dl rd s p (n / 4)).2.1).2.1.getD (n%4) bA,(fS rd (dl rd s p (n / 4)).1 (dl rd s p (n / 4)).2.1).2.2)
section
variable{ay:Type}{bc:ay->h_}{m:ay->Nat}{rd:Src ay}{dB:TypeId}{ca sv:Value}{s:ay}{w w':World}{O:Nat->Prop}
theorem Sn(aw:qu bc m rd sv)(s:ay)(p:Pt):m s<=m (fS rd s p).1+16:=by
 have h:=aw.step s p;unfold fS
 grind
theorem afW(aw:qu bc m rd (.iface dB ca))(aH:48<=m s)(aN:∀s,kk (bc s))(h:bc s w O)(p:Pt)(ok:bN p)(n:Nat)(av:n<65536)(ck:hj w)(aF:ik bc O):
  aP Tryz.prog 110 #[.iface dB ca,.agg (Y p),.int .u16 n] w λW w'=>W=.tuple #[.agg (bk (jN rd s p n).2.1),.int .i64 (jN rd s p n).2.2]/\bc (jN rd s p n).1 w' (ax O w w')/\D O w w':=by
 refine bn Tryz.func110 Tryz.ntmps110 λaZ Z=> ?_;have cU:=bW ok;have cT:=dW ok;have gc:=(aN s).lt h;have hz:=jr ls;have iz:=tO ls;have aY:=((D.refl ak w).alloc (.cells (Y p) 44)).alloc (.cells (bk bA) 113);have bj:=oa w (.cells (Y p) 44) (.cells (bk bA) 113);have ba:=ny w (.cells (Y p) 44) (.cells (bk bA) 113);have eJ:=ck.ch aY λ_ _ e=>e;have H:=(aN s).ch h aY λ_ _ e=>e;have gd:((w.alloc (.cells (Y p) 44)).alloc (.cells (bk bA) 113)).1.size=w.1.size+2:=by simp
 obtain⟨ab,de⟩:=az ((w.alloc (.cells (Y p) 44)).alloc (.cells (bk bA) 113));rw[de]at aY bj ba eJ H gd;simp[go_sem,cU,cT,tP,tQ,de];obtain⟨cM,tb⟩:=az (w.1.size+1);rw[tb]at ba⊢;clear de;have eO:∀j,w.1.size<=j->¬O j:=λj F e=>by have:=gc j e;omega
 have IG:¬O cM:=eO cM (by omega);have bL:∀{N:World} {x:ay×br×Int},jN rd s p n=x->bc x.1 N (ax O ab N)->D O ab N->aZ (.tuple #[.agg (bk x.2.1),.int .i64 x.2.2]) (N.setRow cM (bk x.2.1)):=λ{N x} e a c=>by
  subst e;have EZ:=c.size;have dg:D (aj cM) N (N.setRow cM (bk (jN rd s p n).2.1)):=(D.refl (aj cM) N).setRow (.inl rfl) _;have AM:=dg.size;refine Z _ _ ⟨rfl,(aN _).ex ((aN _).ch a dg λk r e=>by simp only[aj]at e;subst e;exact r.elim IG λe=>by omega) (λk r=>r.imp id λe=>⟨by omega,by omega⟩) (ax.lt gc (by omega)),?_⟩;exact((aY.mono λ_ _ e=>e.elim).trans c).bJ dg λk r e=>by simp only[aj]at e;omega
 have eG:∀k,O k->k<ab.1.size:=λk r=>by have:=gc k r;omega
 refine(agw n av ab).mono ?_;rintro _ ai ⟨rfl,bH⟩;subst ai;by_cases oc:1<=n/\n<=255
 case neg=>
  have e:jN rd s p n=(s,bA,1):=by unfold jN;rw[if_pos oc]
  simp[go_sem,oc,Er,ba,hz,iz,bQ];exact bL e ((aN _).ex H (λk r=>.inl r) (ax.lt eG (Nat.le_refl _))) (D.refl _ _)
 simp[go_sem,oc];refine(acl n av ab).mono ?_;rintro _ ai ⟨rfl,bH⟩;subst ai;simp[go_sem,bj,cU,cT];have Ar:=ame aw (by omega) aN H p ok (n / 4) (by omega) eJ aF;have uF:=amd rd s p (n / 4) ok;have fl:=Sm aw s p (n / 4);have ht:jN rd s p n=if(dl rd s p (n / 4)).2.2≠0 then((dl rd s p (n / 4)).1,bA,(dl rd s p (n / 4)).2.2)else((fS rd (dl rd s p (n / 4)).1 (dl rd s p (n / 4)).2.1).1,(fS rd (dl rd s p (n / 4)).1 (dl rd s p (n / 4)).2.1).2.1.getD (n%4) bA,(fS rd (dl rd s p (n / 4)).1 (dl rd s p (n / 4)).2.1).2.2):=by
  unfold jN;rw[if_neg (λe=>e oc)]
 obtain⟨⟨cw,fX,aW⟩,kp⟩:∃x,dl rd s p (n / 4)=x:=⟨_,rfl⟩;rw[kp]at Ar uF fl ht;simp only at Ar uF fl ht;have cW:((n / 4:Nat):Int)=(n:Int) / 4:=by omega
 rw[cW]at Ar;refine Ar.mono ?_;rintro _ ai ⟨rfl,I,aA⟩;have vJ:=bW uF;have Gi:=dW uF;have jg:=aA.size;have mX:=aF.ck eJ aA ⟨_,I⟩ λ_ _ e=>e;have i_:=aA.obj ba IG;have aE:=(D.refl ak ai).alloc (.cells (Y fX) 44);have cm:=cl ai (.cells (Y fX) 44);have ka:=mX.ch aE λ_ _ e=>e;have af:=(aN _).ch I aE λ_ _ e=>e;have iL:=aE.obj i_ id;have gL:(ai.alloc (.cells (Y fX) 44)).1.size=ai.1.size+1:=by simp
 have lq:=aA.trans (aE.mono (S':=O) λ_ _ e=>e.elim);obtain⟨aC,hk⟩:=az (ai.alloc (.cells (Y fX) 44));rw[hk]at aE cm ka af iL gL lq;have rJ:bc cw aC (ax O ab aC):=(aN _).ex af (λk r=>r.imp id λe=>⟨e.1,by omega⟩) (ax.lt eG (by omega));have so:=bW cE;by_cases aV:aW=0
 ·rw[if_neg (by omega)]at ht;subst aV;simp[go_sem,gm,gn,so,vJ,Gi,bQ,hk,cm];have rO:=acm aw (by omega) aN rJ fX uF ka (aF.cq eJ);have qj:=So rd cw fX;obtain⟨⟨hv,ie,fD⟩,eR⟩:∃x,fS rd cw fX=x:=⟨_,rfl⟩;rw[eR]at rO ht qj;simp only at rO ht qj;refine rO.mono ?_;rintro _ be ⟨rfl,aU,bv⟩;have BT:=bv.size;have n6:¬ax O ab aC cM:=λe=>e.elim IG λe=>by omega
  have lU:=bv.obj iL n6;have mi:=sR qj;have sX:=Cv qj;have IH:=sR uR;obtain⟨x,M,dh⟩:=qj.dn (k:=n%4) (by omega);have KT:=aoO qj M;have eU:=jr dh;have bx:=(D.refl ak be).alloc (.cells (dc ie) 279);have dj:=cl be (.cells (dc ie) 279);have qv:=bx.obj lU id;have bC:=(aN _).ch aU bx λ_ _ e=>e;have j_:(be.alloc (.cells (dc ie) 279)).1.size=be.1.size+1:=by simp
  have Br:D O ab (be.alloc (.cells (dc ie) 279)):=(lq.bJ bv λk r e=>e.elim id λe=>by omega).trans (bx.mono λ_ _ e=>e.elim);obtain⟨bw,mz⟩:=az (be.alloc (.cells (dc ie) 279));rw[mz]at bx dj qv bC j_ Br;have FN:((n%4:Nat):Int)=(n:Int)%4:=by omega
  have Ri:(n:Int)%4<4:=by omega
  have aCr:n%4<4:=by omega
  have acn:(0:Int)<=(n:Int)%4:=by omega
  have aco:((n:Int)%4).toNat=n%4:=by omega
  have dR:n%4*44+44<=176:=by omega
  have sD:ie.getD (n%4) bA=x:=by rw[List.getD_eq_getElem?_getD,M];rfl
  rw[sD]at ht;simp[go_sem,yG,yH,mi,sX,IH,bQ,mz,dj,qv,Ri,aCr,acn,aco,dR,KT,eU,hz];rw[tO dh];exact bL ht ((aN _).ex bC (λk r=>r.elim (λe=>e.imp id λe=>⟨e.1,by omega⟩) λe=>.inr ⟨by omega,by omega⟩) (ax.lt eG (by omega))) Br
 ·rw[if_pos aV]at ht;have mY:(aW==0)=false:=beq_false_of_ne aV;simp[go_sem,gm,gn,so,vJ,Gi,bQ,hk,iL,aV,mY,bne,Er,hz,iz];exact bL ht rJ lq
end
def qz(x:Nat×br):List Value:=.int .u16 x.1::(bk x.2).toList
def dF(x:Nat×br):Array Value:=(qz x).toArray
structure kM(x:Nat×br):Prop where
 n:x.1<65536
 i:gR x.2
section
variable{x:Nat×br}
theorem acp(ok:kM x):(qz x).length=45:=by
 have:=jr ok.i;simp[qz,this]
theorem nG(ok:kM x):(dF x).size=45:=acp ok
theorem zu(ok:kM x):(dF x).extract 0 45=dF x:=by rw[<-nG ok];simp
theorem NA:(dF x)[0]? =some (.int .u16 x.1):=by simp[dF,qz]
theorem SL(ok:kM x):(dF x).extract 1 45=bk x.2:=by
 have:=jr ok.i;apply Array.ext';simp[dF,qz,this];rw[List.take_of_length_le (by simp[this])]
theorem xJ:jT (dF x)=true:=yC (by
 intro u an;unfold qz at an;rcases List.mem_cons.1 an with rfl|an
 ·rfl
 ·have I:=WE x.2;unfold jT at I;rw[Array.all_eq_true']at I
  grind)
end
theorem vc:kM (0,bA):=⟨by decide,ls⟩
theorem wd:(Tryz.prog.info? 227).map (λi=>i.zero.isSome)=some true:=by kernel_rfl
theorem we:ln Tryz.prog 227=dF (0,bA):=by kernel_rfl
theorem SP:Bg Tryz.prog 220 227 (.agg (dF (0,bA))) 45 72:=⟨Tryz.underlying220,by kernel_rfl,nG vc,by decide⟩
theorem aCs(n:Nat):d' (dF (0,bA)) 0 #[.int .u16 n]=dF (n,bA):=by simp[d',dF,qz]
theorem aCt(n:Nat)(x:br)(ok:gR x):d' (dF (n,bA)) 1 (bk x)=dF (n,x):=by
 have H:=jr ok;have I:=jr ls;apply Array.ext';simp[d',dF,qz,H,I]
theorem aga(x:Nat×br)(ok:kM x){w:World}{K:Value->World->Prop}:hX Tryz.prog 227 [(0,.int .u16 x.1),(1,.agg (bk x.2))] w K=K (.agg (dF x)) w:=by
 refine lp Tryz.underlying227 wd (places:=#[(0,1),(1,44)]) (by simp[go_sem]) ?_;have hz:=nG vc;have I:=nG (x:=(x.1,bA)) ⟨ok.n,ls⟩;have aa:=jr ok.i;simp[iH,we,Value.cells,hz,tI,aCs,aCt,ok.i,aa,I]
theorem Zb{x:Nat×br}(ok:kM x)(w:World):(Instr.buildSlice 220 1 #[(0,.agg (dF x))]).run Tryz.prog w=.ok (.slice (some ⟨w.1.size,0,none⟩) 1 1) (w.alloc (.cells (dF x) 227)):=
 Rw (size:=45) (z:=.agg (dF (0,bA))) Tryz.underlying220 Tryz.sizeOf227 (by kernel_rfl) (nG ok) (by decide) (by decide) w
def ox(off:Nat)(ae:List br)(k:Nat):List (Nat×br):=(List.range k).filterMap λk=>if ae.getD k bA=bA then none else some ((off*4+k)%65536,ae.getD k bA)
theorem alY(off:Nat)(ae:List br)(k:Nat):ox off ae (k+1)=ox off ae k++if ae.getD k bA=bA then[]else[((off*4+k)%65536,ae.getD k bA)]:=by
 unfold ox;rw[List.range_succ,List.filterMap_append]
 grind
def BU{ay:Type}(rd:Src ay):List (Nat×Pt)->ay->List (Nat×br)->List Pt->ay×List (Nat×br)×List Pt×Int
 |[],s,kP,ps=>(s,kP,ps,0)
 |x::l,s,kP,ps=>if(fS rd s x.2).2.2≠0 then((fS rd s x.2).1,[],[],(fS rd s x.2).2.2)else BU rd l (fS rd s x.2).1 (kP++ox x.1 (fS rd s x.2).2.1 4) (ps++[x.2])
def vv{ay:Type}(rd:Src ay)(s:ay)(p:Pt):ay×List (Nat×br)×List Pt×Int:=
 if(gU rd s p).2.2.2≠0 then((gU rd s p).1,[],[],(gU rd s p).2.2.2)else BU rd (gU rd s p).2.1 (gU rd s p).1 [] (gU rd s p).2.2.1
theorem aCu{n:List Pt}(ok:hE n){i:Nat}(aa:i<8):(∀x∈qS i n,mF x)/\(qS i n).length<=8:=by
 refine⟨λx M=> ?_,Nat.le_trans (List.length_filterMap_le _ _) (by simp)⟩;obtain⟨k,r,e⟩:=List.mem_filterMap.1 M;rw[List.mem_range]at r;split at e
 ·cases e
 ·simp only[Option.some.injEq]at e;subst e;refine⟨by show 8*i+k<_;omega,?_⟩;show bN (n.getD k ad);rw[List.getD_eq_getElem?_getD];by_cases h:k<n.length
  ·rw[List.getElem?_eq_getElem h];exact ok.all _ (List.getElem_mem h)
  grind
section
variable{ay:Type}{bc:ay->h_}{m:ay->Nat}{rd:Src ay}{dB:TypeId}{ca sv:Value}{s:ay}{w w':World}{O:Nat->Prop}
theorem acq(rd:Src ay)(top:List Pt)(bd:hE top):∀(ae:List Nat) (s:ay) (df:List (Nat×Pt)) (ce:List Pt),(∀i∈ae,i<8)->(∀x∈df,mF x)->(∀p∈ce,bN p)->(∀x∈(kw rd top ae s df ce).2.1,mF x)/\(∀p∈(kw rd top ae s df ce).2.2.1,bN p)/\(kw rd top ae s df ce).2.1.length<=df.length+8*ae.length/\(kw rd top ae s df ce).2.2.1.length<=ce.length+ae.length
 |[],s,df,ce,_,H,I=>by unfold kw;grind
 |i::ae,s,df,ce,bT,H,I=>by
  have aa:i<8:=bT i (by simp);have Qp:∀j∈ae,j<8:=λj F=>bT j (by simp[F]);have ji:bN (top.getD i ad):=by
   rw[List.getD_eq_getElem?_getD];by_cases h:i<top.length
   ·rw[List.getElem?_eq_getElem h];exact bd.all _ (List.getElem_mem h)
   ·rw[List.getElem?_eq_none (by omega)];exact cE
  have je:∀p∈ce++[top.getD i ad],bN p:=λp ah=>by
   grind
  obtain⟨t1,dK⟩:=aCu (Ex rd s (top.getD i ad)) aa;unfold kw;split
  ·obtain⟨a,b,c,d⟩:=acq rd top bd ae s df ce Qp H I
   grind
  ·split
   ·grind
   ·obtain⟨a,b,c,d⟩:=acq rd top bd ae (cv rd s (top.getD i ad)).1 (df++qS i (cv rd s (top.getD i ad)).2.1) (ce++[top.getD i ad]) Qp (λx M=>(List.mem_append.1 M).elim (H x) (t1 x)) je
    grind
theorem XY(rd:Src ay)(s:ay)(p:Pt)(ok:bN p):(∀x∈(gU rd s p).2.1,mF x)/\(∀gW∈(gU rd s p).2.2.1,bN gW)/\(gU rd s p).2.1.length<=64/\(gU rd s p).2.2.1.length<=9:=by
 have bf:∀(e:Int),(∀x∈([]:List (Nat×Pt)),mF x)/\(∀gW∈([]:List Pt),bN gW)/\([]:List (Nat×Pt)).length<=64/\([]:List Pt).length<=9:=λ_=>⟨by simp,by simp,by simp,by simp⟩;have H:(∀x∈(jP rd s p).2.1,mF x)/\(∀gW∈(jP rd s p).2.2.1,bN gW)/\(jP rd s p).2.1.length<=64/\(jP rd s p).2.2.1.length<=9:=by
  unfold jP;split
  ·exact bf 0
  ·split
   ·grind
   ·obtain⟨a,b,c,d⟩:=acq rd (cv rd s p).2.1 (Ex rd s p) (List.range 8) (cv rd s p).1 [] [p] (λi aa=>by simpa using aa) (by simp) (λgW ah=>by grind)
    grind
 unfold gU
 grind
end
theorem Vl{w:World}{e dM s s' n fi:Nat}{v W:Value}{xs il:List Value}(h:w.ownsRow 0 e s v n xs)(h':w.ownsRow 0 dM s' W fi il)(aV:e≠dM):∀k,v.ownBlock=some k->W.ownBlock≠some k:=λk r eH=>by
 rcases h.2 with⟨rfl,_⟩|⟨g,cap,di,rfl,_,V,_⟩
 ·simp[Value.ownBlock]at r
 ·rcases h'.2 with⟨rfl,_⟩|⟨l_,UR,ak6,rfl,_,sf,_⟩
  ·simp[Value.ownBlock]at eH
  ·simp[Value.ownBlock]at r eH
   grind
theorem aCv{w:World}{e dM s n q:Nat}{v:Value}{xs:List Value}{C:Array Value}{fr:Nat×Nat}(h:w.ownsRow 0 e s v n xs)(V:w.1[q]? =some (.cells C dM fr))(aV:e≠dM):v.ownBlock≠some q:=λr=>by
 rcases h.2 with⟨rfl,_⟩|⟨g,cap,di,rfl,_,sf,_⟩
 ·simp[Value.ownBlock]at r
 ·simp[Value.ownBlock]at r
  grind
def aCw{ay:Type}(bc:ay->h_)(w:World)(O:Nat->Prop)(x:ay×List (Nat×br)×List Pt×Int)(W:Value)(w':World):Prop:=
 ∃nr hb O',W=.tuple #[nr,hb,.int .i64 x.2.2.2]/\w'.ownsRow 0 227 45 nr x.2.1.length (dv dF x.2.1)/\w'.ownsRow 0 44 41 hb x.2.2.1.length (dv Y x.2.2.1)/\bc x.1 w' O'/\(∀k,O' k->ax O w w' k)/\
  (∀k,nr.ownBlock=some k->¬O' k/\w.1.size<=k)/\(∀k,hb.ownBlock=some k->¬O' k/\w.1.size<=k)/\D O w w'
section
variable{ay:Type}{bc:ay->h_}{m:ay->Nat}{rd:Src ay}{dB:TypeId}{ca sv:Value}{s:ay}{w w':World}{O:Nat->Prop}
theorem awj(aw:qu bc m rd (.iface dB ca))(aH:1200<=m s)(aN:∀s,kk (bc s))(h:bc s w O)(p:Pt)(ok:bN p)(ck:hj w)(aF:ik bc O):
  aP Tryz.prog 97 #[.iface dB ca,.agg (Y p)] w (aCw bc w O (vv rd s p)):=by
 refine bn Tryz.func97 Tryz.ntmps97 λaZ Z=> ?_;have cU:=bW ok;have cT:=dW ok;have gc:=(aN s).lt h;have aY:=(D.refl ak w).alloc (.cells (Y p) 44);have bj:=cl w (.cells (Y p) 44);have eJ:=ck.ch aY λ_ _ e=>e;have H:=(aN s).ch h aY λ_ _ e=>e;have gd:(w.alloc (.cells (Y p) 44)).1.size=w.1.size+1:=by simp
 obtain⟨ab,de⟩:=az (w.alloc (.cells (Y p) 44));rw[de]at aY bj eJ H gd;simp[go_sem,cU,cT,de,bj];have wE:=XX aw (by omega) aN H p ok eJ aF;obtain⟨oN,ez,fo,xE⟩:=XY rd s p ok;have jH:=afV aw s p;have V:vv rd s p=if(gU rd s p).2.2.2≠0 then((gU rd s p).1,[],[],(gU rd s p).2.2.2)else BU rd (gU rd s p).2.1 (gU rd s p).1 [] (gU rd s p).2.2.1:=rfl
 obtain⟨⟨cw,ae,aQ,aW⟩,kp⟩:∃x,gU rd s p=x:=⟨_,rfl⟩;rw[kp]at wE oN ez fo xE jH V;simp only at wE oN ez fo xE jH V;refine wE.mono ?_;rintro _ ai ⟨gY,hb,iK,rfl,Ub,on,I,JP,Cd,fn,aA⟩;have jg:=aA.size;have amf:∀{e:Int} {N:World} {mK:Nat->Prop} {gL:ay},vv rd s p=(gL,[],[],e)->bc gL N mK->(∀k,mK k->ax O ab N k)->D O ab N->aZ (.tuple #[.slice none 0 0,.slice none 0 0,.int .i64 e]) N:=λ{e N mK gL} V af HG aE=>by
  rw[V]at Z;have:=aE.size;exact Z _ _ ⟨_,_,mK,rfl,World.ownsRow_nil _ _ _ _,World.ownsRow_nil _ _ _ _,af,λk r=>(HG k r).imp id λe=>⟨by omega,e.2⟩,λk r=>by simp[Value.ownBlock]at r,λk r=>by simp[Value.ownBlock]at r,(aY.mono λ_ _ e=>e.elim).trans aE⟩
 by_cases aV:aW=0
 case neg=>
  rw[if_pos aV]at V;have mY:(aW==0)=false:=beq_false_of_ne aV;simp[go_sem,aV,mY,bne];exact amf V I JP aA
 rw[if_neg (by omega)]at V;subst aV;have cI:=λw=>(fA.fp Ub λa am=>mC (oN a am)).len Tryz.underlying223 3 w;simp[go_sem,cI];refine du (λJ f u=>∃i s' kP ps nr hb jw,J=ae.length - i/\i<=ae.length/\f 0=.iface dB ca/\f 27=gY/\f 28=.int .i64 ae.length/\f 29=.int .i64 (i:Nat)/\f 8=hb/\f 10=nr/\
   BU rd ae cw [] aQ=BU rd (ae.drop i) s' kP ps/\kP.length<=4*i/\ps.length<=9+i/\(∀x∈kP,kM x)/\(∀p∈ps,bN p)/\
   u.ownsRow 0 229 42 gY ae.length (dv et ae)/\u.ownsRow 0 227 45 nr kP.length (dv dF kP)/\u.ownsRow 0 44 41 hb ps.length (dv Y ps)/\bc s' u jw/\(∀k,jw k->ax O ab u k)/\
   (∀k,gY.ownBlock=some k->¬jw k/\ab.1.size<=k)/\(∀k,nr.ownBlock=some k->¬jw k/\ab.1.size<=k)/\(∀k,hb.ownBlock=some k->¬jw k/\ab.1.size<=k)/\D O ab u/\16*(ae.length - i)<=m s') ae.length
  ⟨0,cw,[],aQ,.slice none 0 0,hb,iK,rfl,Nat.zero_le _,by simp,by simp,by simp,by simp,by simp,by simp,by simp,by simp,by simpa using xE,by simp,ez,Ub,World.ownsRow_nil _ _ _ _,on,I,JP,Cd,λk r=>by simp[Value.ownBlock]at r,fn,aA,by omega⟩ ?_
 rintro cJ bK _ f u ⟨i,s',kP,ps,nr,amg,jw,rfl,aa,f0,f27,f28,f29,bz,eE,iD,aCx,aJw,vw,ji,acr,acs,act,an,vi,acu,Qq,II,aJ,asp⟩;by_cases aO:i<ae.length
 case neg=>
  have jm:¬(i:Int)<ae.length:=by omega
  simp[go_sem,f28,f29,aO,jm,eE,bz];rw[List.drop_of_length_le (by omega),BU]at iD;rw[V,iD]at Z;have:=aJ.size;refine Z _ _ ⟨nr,amg,jw,rfl,acs,act,an,λk r=>(vi k r).imp id λe=>⟨by omega,e.2⟩,λk r=>⟨(Qq k r).1,by have:=(Qq k r).2;omega⟩,λk r=>⟨(II k r).1,by have:=(II k r).2;omega⟩,(aY.mono λ_ _ e=>e.elim).trans aJ⟩
 have jm:(i:Int)<ae.length:=by omega
 obtain⟨x,M⟩:∃x,ae[i]? =some x:=⟨_,List.getElem?_eq_getElem aO⟩;have dh:=oN x (List.mem_of_getElem? M);have sl:ae.drop i=x::ae.drop (i+1):=by
  rw[List.drop_eq_getElem_cons aO];congr 1;rw[List.getElem?_eq_getElem aO]at M;exact Option.some.inj M
 rw[sl,BU]at iD;obtain⟨fF,nF,iZ,JQ,JR,JS,pK,ia,ug,ew⟩:=(fA.fp acr λa am=>mC (oN a am)).CU (by decide) (λa am=>mC (oN a am)) M;subst pK;have eU:=mC dh;have gs:=Ni dh;have mD:=Sl dh;have dN:=mC ER;have uh:=bW dh.p;have gO:IntKind.i64.wrap ((i:Int)+1)=((i+1:Nat):Int):=by rw[IntKind.wrap_i64];omega
 have mH:=aF.ck eJ aJ ⟨_,an⟩ λ_ _ e=>e;have aE:=(D.refl ak u).alloc (.cells (et x) 229);have cm:=cl u (.cells (et x) 229);have gL:(u.alloc (.cells (et x) 229)).1.size=u.1.size+1:=by simp
 obtain⟨aC,hk⟩:=az (u.alloc (.cells (et x) 229));rw[hk]at aE cm gL;have ka:=mH.ch aE λ_ _ e=>e;have af:=(aN _).ch an aE λ_ _ e=>e;simp[go_sem,f27,f28,f29,aO,jm,ia,ug,ew,CV,Hf,Hg,dN,eU,gs,bQ,hk,cm,mD,f0];obtain⟨q,aq⟩:=az (u.1.size);rw[aq]at cm⊢;clear hk;have acv:∀k,jw k->k<q:=λk r=>by rw[<-aq];exact(aN _).lt an k r
 have rO:=acm aw (by omega) aN af x.2 dh.p ka ((aF.cq eJ).mono vi);have qj:=So rd s' x.2;have hG:=Sn aw s' x.2;obtain⟨⟨hv,ie,cW⟩,eR⟩:∃y,fS rd s' x.2=y:=⟨_,rfl⟩;rw[eR]at rO qj hG iD;simp only at rO qj hG iD;refine rO.mono ?_;rintro _ be ⟨rfl,aU,bv⟩;have aCy:=bv.size;have ci:=bv.obj cm λe=>by have:=acv q e;omega
 have mi:=sR qj;have sX:=Cv qj;have IH:=sR uR;have bx:=(D.refl ak be).alloc (.cells (dc ie) 279);have dj:=cl be (.cells (dc ie) 279);have j_:(be.alloc (.cells (dc ie) 279)).1.size=be.1.size+1:=by simp
 have HD:=bx.obj ci id;obtain⟨bw,mz⟩:=az (be.alloc (.cells (dc ie) 279));rw[mz]at bx dj j_ HD;have bC:=(aN _).ch aU bx λ_ _ e=>e;have ff:∀k,ax jw aC be k->ax O ab bw k:=λk r=>r.elim (λe=>(vi k e).imp id λe=>⟨e.1,by omega⟩) λe=>.inr ⟨by have:=aJ.size;omega,by omega⟩;have amh:D O ab bw:=((aJ.trans (aE.mono (S':=O) λ_ _ e=>e.elim)).bJ bv λk r e=>(vi k e).elim id λe=>by omega).trans (bx.mono λ_ _ e=>e.elim);by_cases aV:cW=0
 case neg=>
  have mY:(cW==0)=false:=beq_false_of_ne aV;rw[if_pos aV]at iD;simp[go_sem,yG,yH,mi,sX,IH,bQ,mz,aV,mY,bne];exact amf (V.trans iD) bC ff amh
 rw[if_neg (by omega)]at iD;subst aV;simp[↓yK,go_sem,yG,yH,mi,sX,IH,bQ,mz,HD,eU,mD,uh,bz];refine AH (ami dh.p _) ?_;simp[go_sem];have rh:∀{v:Value},(∀k,v.ownBlock=some k->¬jw k/\ab.1.size<=k)->∀k,v.ownBlock=some k->¬jw k:=λh k r=>(h k r).1;have acw:=ej (ej (ej act aE λ_ _ e=>e) bv (rh II)) bx λ_ _ e=>e;have amj:=ej (ej (ej acs aE λ_ _ e=>e) bv (rh Qq)) bx λ_ _ e=>e;have amk:=ej (ej (ej acr aE λ_ _ e=>e) bv (rh acu)) bx λ_ _ e=>e;have Vm:∀k,amg.ownBlock=some k->k<u.1.size:=vj act;have aCz:∀k,nr.ownBlock=some k->k<u.1.size:=vj acs;refine va (us:=(Y x.2).toList) aml acw (by rw[Array.length_toList,uh]) (CP (sN x.2)) (by unfold maxLen;omega) (by omega) λkD cd aCA co f6=> ?_;have hw:dv Y (ps++[x.2])=dv Y ps++(Y x.2).toList:=by rw[xi,yE]
 have amm:cd.ownsRow 0 44 41 kD (ps++[x.2]).length (dv Y (ps++[x.2])):=by
  rw[hw,List.length_append,List.length_singleton];exact aCA
 obtain⟨Qr,acx⟩:=az (ps++[x.2]);have fy:∀p∈Qr,bN p:=λp ah=>by
  rw[<-acx]at ah;rcases List.mem_append.1 ah with ah|ah
  ·exact ji p ah
  ·rw[List.mem_singleton]at ah;subst ah;exact dh.p
 have aJx:Qr.length=ps.length+1:=by rw[<-acx,List.length_append,List.length_singleton]
 rw[acx]at amm iD;have oh:=co.size;have aCB:=ej amj co λk r e=>Vl amj acw (by decide) k r e;have aCC:=ej amk co λk r e=>Vl amk acw (by decide) k r e;have cG:=(aN _).ch bC co λk r e=>r.elim (II k e).1 λdM=>by have:=Vm k e;omega
 have gx:=co.obj HD λe=>by have:=Vm q e;omega
 have aCD:=co.obj dj λe=>by have:=Vm _ e;omega
 have aCE:D O ab cd:=amh.bJ co λk r e=>by have:=(II k e).2;omega
 have aCF:∀k,kD.ownBlock=some k->¬ax jw aC be k/\ab.1.size<=k:=λk r=>by
  have:=aJ.size;rcases f6 with f6|f6
  ·rw[f6]at r;exact⟨λe=>e.elim (II k r).1 λe=>by have:=Vm k r;omega,(II k r).2⟩
  ·have:=f6 k r;exact⟨λe=>e.elim (λe=>by have:=acv k e;omega) λe=>by omega,by omega⟩
 have aCG:∀k,nr.ownBlock=some k->¬ax jw aC be k/\ab.1.size<=k:=λk r=>⟨λe=>e.elim (Qq k r).1 λe=>by have:=aCz k r;omega,(Qq k r).2⟩;have zz:∀k,(Value.slice (some ⟨fF,nF,none⟩) ae.length iZ).ownBlock=some k->k<u.1.size:=vj acr;have aCH:∀k,(Value.slice (some ⟨fF,nF,none⟩) ae.length iZ).ownBlock=some k->¬ax jw aC be k/\ab.1.size<=k:=λk r=>⟨λe=>e.elim (acu k r).1 λe=>by have:=zz k r;omega,(acu k r).2⟩;have xS:∀k,ax jw aC be k->ax O ab cd k:=λk r=>(ff k r).imp id λe=>⟨e.1,by omega⟩;simp[go_sem,aCD,mi,sX];refine du (λJ f cS=>∃k IJ,J=4 - k/\k<=4/\f 0=.iface dB ca/\f 27=.slice (some ⟨fF,nF,none⟩) ae.length iZ/\f 28=.int .i64 ae.length/\f 29=.int .i64 (i:Nat)/\f 8=kD/\f 10=IJ/\f 12=.pointer (some ⟨q,0,none⟩)/\f 48=.agg (dc ie)/\f 49=.int .i64 (k:Nat)/\
   cS.ownsRow 0 229 42 (.slice (some ⟨fF,nF,none⟩) ae.length iZ) ae.length (dv et ae)/\cS.ownsRow 0 227 45 IJ (kP++ox x.1 ie k).length (dv dF (kP++ox x.1 ie k))/\cS.ownsRow 0 44 41 kD Qr.length (dv Y Qr)/\
   bc hv cS (ax jw aC be)/\(∀k,IJ.ownBlock=some k->¬ax jw aC be k/\ab.1.size<=k)/\cS.1[q]? =some (.cells (et x) 229 (0,0))/\(∀z∈kP++ox x.1 ie k,kM z)/\(kP++ox x.1 ie k).length<=4*i+k/\D O ab cS/\cd.1.size<=cS.1.size) 4
  ⟨0,nr,rfl,by omega,by simp[f0],by simp[f27],by simp[f28],by simp[f29],by simp,by simp[eE],by simp,by simp,by simp,aCC,by simpa[ox]using aCB,amm,cG,aCG,gx,by simpa[ox]using vw,by simpa[ox]using aCx,aCE,Nat.le_refl _⟩ ?_
 rintro CO pV _ f cS ⟨k,IJ,rfl,r,f0,f27,f28,f29,bz,eE,dA,f48,f49,amn,amo,amp,fs,Qs,aCI,acy,aJy,amq,aJz⟩;by_cases Vn:k<4
 case neg=>
  have pC:k=4:=by omega
  subst pC;simp[go_sem,f49,f29,gO];refine cH.intro (ae.length -(i+1)) (by omega) (bK _ _ _ ⟨i+1,hv,kP++ox x.1 ie 4,Qr,IJ,kD,ax jw aC be,rfl,by omega,by simp[f0],by simp[f27],by simp[f28],by simp,by simp[bz],by simp[eE],iD,by omega,by omega,acy,fy,amn,amo,amp,fs,λk r=>(xS k r).imp id λe=>⟨e.1,by omega⟩,aCH,Qs,aCF,amq,by omega⟩)
 have ea:(k:Int)<4:=by omega
 obtain⟨y,ar,zF⟩:=qj.dn (k:=k) Vn;have tZ:ie.getD k bA=y:=by rw[List.getD_eq_getElem?_getD,ar];rfl
 have mu:=λw=>WG qj Vn ar w;have ET:=jr zF;have zn:=tO zF;have Bh:=jr ls;have eo:IntKind.i64.wrap ((k:Int)+1)=((k+1:Nat):Int):=by rw[IntKind.wrap_i64];omega
 have gI:=λw=>Rr w zF ls;have dz:=(D.refl ak cS).alloc (.cells (bk y) 113);have ib:=cl cS (.cells (bk y) 113);have hn:(cS.alloc (.cells (bk y) 113)).1.size=cS.1.size+1:=by simp
 have Gj:=dz.obj aCI id;obtain⟨cF,uf⟩:=az (cS.alloc (.cells (bk y) 113));rw[uf]at dz ib hn Gj;have acz:=ej amn dz λ_ _ e=>e;have Lz:=ej amo dz λ_ _ e=>e;have acA:=ej amp dz λ_ _ e=>e;have eD:=(aN _).ch fs dz λ_ _ e=>e;have amr:D O ab cF:=amq.trans (dz.mono λ_ _ e=>e.elim);have el:=alY x.1 ie k;rw[tZ]at el;by_cases OE:y=bA
 ·rw[if_pos OE,List.append_nil]at el;have AA:∀w,(Op.equalIn 10000 113 (.agg (bk y)) (.agg (bk bA))).run Tryz.prog w=.ok true w:=λw=>by rw[gI,decide_eq_true OE]
  simp[go_sem,f48,f49,ea,Vn,mu,tP,tQ,ET,zn,Bh,bQ,uf,ib,Er,AA,eo];refine cH.intro (4 -(k+1)) (by omega) (pV _ _ _ ⟨k+1,IJ,rfl,by omega,by simp[f0],by simp[f27],by simp[f28],by simp[f29],by simp[bz],by simp[eE],by simp[dA],by simp[f48],by simp[eo],acz,by rw[el];exact Lz,acA,eD,Qs,Gj,by rw[el];exact acy,by rw[el];omega,amr,by omega⟩)
 ·rw[if_neg OE]at el;have fG:=(aG Gj 0).trans (Vo x);have aK:IntKind.u16.wrap (IntKind.u16.wrap (IntKind.u16.wrap (x.1:Int)*4)+IntKind.u16.wrap (k:Int))=(((x.1*4+k)%65536:Nat):Int):=by
   simp[IntKind.wrap,IntKind.bits,IntKind.signed];omega
  have Vp:kM ((x.1*4+k)%65536,y):=⟨by show _%65536<_;omega,zF⟩;have uZ:∀{w:World} {K:Value->World->Prop},hX Tryz.prog 227 [(0,.int .u16 (((x.1*4+k)%65536:Nat):Int)),(1,.agg (bk y))] w K=K (.agg (dF ((x.1*4+k)%65536,y))) w:=λ{w K}=>aga _ Vp;simp[↓yK,go_sem,f48,f49,ea,Vn,mu,tP,tQ,ET,zn,Bh,bQ,uf,ib,Er,gI,OE,eE,dA,fG];rw[aK,uZ];simp[↓yK,go_sem];refine AH (Zb Vp _) ?_;simp[go_sem];refine va (us:=qz ((x.1*4+k)%65536,y)) SP Lz (acp Vp) (CP (xJ (x:=((x.1*4+k)%65536,y)))) (by unfold maxLen;omega) (by omega) λsn eA a' aX bq=> ?_;have lu:dv dF (kP++ox x.1 ie (k+1))=dv dF (kP++ox x.1 ie k)++qz ((x.1*4+k)%65536,y):=by
   rw[el,<-List.append_assoc,xi,yE];rfl
  have Cf:(kP++ox x.1 ie (k+1)).length=(kP++ox x.1 ie k).length+1:=by
   rw[el,<-List.append_assoc,List.length_append,List.length_singleton]
  have US:∀j,IJ.ownBlock=some j->j<cF.1.size:=vj Lz;have aCJ:∀j,ax jw aC be j->j<be.1.size:=λj F=>F.elim (λe=>by have:=acv j e;omega) λe=>e.2;have Nn:=aX.size;simp[go_sem,f49,eo];refine cH.intro (4 -(k+1)) (by omega) (pV _ _ _ ⟨k+1,sn,rfl,by omega,by simp[f0],by simp[f27],by simp[f28],by simp[f29],by simp[bz],by simp,by simp[dA],by simp[f48],by simp,ej acz aX λj F e=>Vl acz Lz (by decide) j F e,by rw[lu,Cf];exact a',ej acA aX λj F e=>Vl acA Lz (by decide) j F e,(aN _).ch eD aX λj F e=>(Qs j e).1 F,λj F=> ?_,aX.obj Gj λe=> ?_,?_,by rw[Cf];omega,amr.bJ aX λj F e=>by have:=(Qs j e).2;omega,by omega⟩)
  ·rcases bq with bq|bq
   ·rw[bq]at F;exact Qs j F
   ·have:=bq j F;exact⟨λe=>by have:=aCJ j e;omega,by have:=aJ.size;omega⟩
  ·exact aCv Lz Gj (by decide) e
  ·intro z hz;rw[el,<-List.append_assoc]at hz;rcases List.mem_append.1 hz with hz|hz
   ·exact acy z hz
   ·rw[List.mem_singleton]at hz;subst hz;exact Vp
end
end Go.Proofs.YtoohkhcpboldjaaGreatDoor
