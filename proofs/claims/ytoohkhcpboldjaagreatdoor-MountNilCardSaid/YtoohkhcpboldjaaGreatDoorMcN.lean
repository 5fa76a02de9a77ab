/- The maker of a commit's blocks is a store, in plain Lean: on calm disks under onW power. They speak of no program. No condition. -/
import Derived.Test.YtoohkhcpboldjaaGreatDoorMcL
set_option linter.unusedSimpArgs false
set_option linter.unusedVariables false
namespace Go.Proofs.YtoohkhcpboldjaaGreatDoor
open Go.RowKit Go.Kin
structure tq(L:bR):Prop where
 tY:L.tY=false
 fv:L.fv=none
 dT:∀a,L.dT a=false
 stuck:∀a,L.stuck a=false
def xZ(L:bR)(a:Nat):cX:=(oL L.bB a).getD (jJ L.m a)
theorem tq.m_{L:bR}(h:tq L)(n a:Nat):L.m_ n a=if L.bS=true\/n<=a then none else some (xZ L a):=by
 unfold bR.m_ xZ bR.Jz;rw[h.stuck,h.dT]
 grind
theorem tq.put{L:bR}(h:tq L){n a:Nat}(am:a<n)(b:cX):L.put n a b={L with bB:=L.bB++[(a,b)]}:=by
 unfold bR.put;rw[h.tY,h.fv]
 grind
theorem ahQ(l c:List (Nat×cX)){a:Nat}{b:cX}(h:∀x∈c,x.1=a->x.2=b):oL (l++c) a=if∃x∈c,x.1=a then some b else oL l a:=by
 induction l with
 |nil=>
  induction c with
  |nil=>simp[oL]
  |cons x c bG=>
   have bG:=bG λy ar=>h y (by simp[ar]);rw[List.nil_append]at bG⊢;obtain⟨p,q⟩:=x;show(match oL c a with|some z=>some z|none=>if p=a then some q else none)=_;rw[bG];by_cases H:∃x∈c,x.1=a
   ·simp_all
   ·rw[if_neg H];by_cases ah:p=a
    ·have aq:q=b:=h (p,q) (by simp) ah;have aD:∃x∈(p,q)::c,x.1=a:=⟨(p,q),by simp,ah⟩;rw[if_pos aD];simp[oL,ah,aq]
    grind
 |cons x l bG=>
  obtain⟨p,q⟩:=x;show(match oL (l++c) a with|some z=>some z|none=>if p=a then some q else none)=if _ then _ else(match oL l a with|some z=>some z|none=>if p=a then some q else none)
  rw[bG];by_cases H:∃x∈c,x.1=a
  ·rw[if_pos H,if_pos H]
  ·rw[if_neg H,if_neg H]
section
variable{n:Nat}{q:Pt}{b:cX}
structure aui(n:Nat)(q:Pt)(b:cX)(l:List Nat)(s:ao)(cR:Int)(J:ao×Int):Prop where
 use:J.1.use=s.use
 dV:J.1.dV=s.dV
 ep:J.1.ep=s.ep
 e_:J.1.e_=s.e_
 dx:J.1.dx=s.dx
 wA:∀i,tq (J.1.au i)
 bS:∀i,(J.1.au i).bS=(s.au i).bS
 m:∀i,(J.1.au i).m=(s.au i).m
 bB:∀i,∃c,(J.1.au i).bB=(s.au i).bB++c/\c.length<=l.length/\(∀x∈c,x.2=b/\∃k∈l,k / 2=i/\x.1=cP q k)/\(J.1.P.off=false->(s.au i).bS=false->∀k∈l,k / 2=i->(cP q k,b)∈c)
 off:J.1.P.off=false->s.P.off=false
 on:s.P=ek.on->J.1.P=ek.on
 dq:s.P.dq<=9223372036854775807->J.1.P.dq<=9223372036854775807
 e:J.2=cR\/J.2=0
 ok:s.P=ek.on->(∃k∈l,(s.au (k / 2)).bS=false)->J.2=0
 EG:(∀k∈l,(s.au (k / 2)).bS=true)->J.2=cR
theorem ahR(V:b.length=512):∀(l:List Nat) (s:ao) (cR:Int),(∀k∈l,cP q k<n)->(∀i,tq (s.au i))->aui n q b l s cR (l.foldl (ao.put n q b) (s,cR))
 |[],s,cR,_,T=>⟨rfl,rfl,rfl,rfl,rfl,T,λ_=>rfl,λ_=>rfl,λi=>⟨[],by simp,by simp,by simp,by simp⟩,id,id,id,.inl rfl,λ_ ⟨k,r,_⟩=>(by cases r),λ_=>rfl⟩
 |k::l,s,cR,al,T=>by
  have r:=al k (by simp);have one:∃bt aK,ao.put n q b (s,cR) k=(bt,aK)/\bt.use=s.use/\bt.dV=s.dV/\bt.ep=s.ep/\bt.e_=s.e_/\bt.dx=s.dx/\
    (∀i,bt.au i=s.au i\/(i=k / 2/\(s.au i).bS=false/\s.P.off=false/\bt.au i={s.au i with bB:=(s.au i).bB++[(cP q k,b)]}))/\
    (bt.P.off=false->s.P.off=false/\((s.au (k / 2)).bS=false->bt.au (k / 2)≠s.au (k / 2)))/\(s.P=ek.on->bt.P=ek.on)/\(s.P.dq<=9223372036854775807->bt.P.dq<=9223372036854775807)/\(aK=cR\/aK=0)/\(s.P=ek.on->(s.au (k / 2)).bS=false->aK=0)/\((s.au (k / 2)).bS=true->aK=cR):=by
   obtain⟨j,F⟩:=az (k / 2);have Tu:=T j;unfold ao.put ao.mf;simp only[F];refine⟨_,_,rfl,rfl,rfl,rfl,rfl,rfl,λi=> ?_,?_,?_,?_,?_,?_,?_⟩
   ·by_cases aa:i=j
    ·subst aa;simp only[zL];by_cases bH:(s.au i).lG n s.P (cP q k) b=.ok
     ·right;have am:(s.au i).fk s.P=true:=by
       unfold bR.lG at bH
       cases h:(s.au i).fk s.P with
       |true=>rfl
       |false=>rw[h]at bH;simp at bH
      unfold bR.fk at am;simp at am;refine⟨trivial,am.1,am.2,?_⟩;unfold bR.ha;rw[if_pos bH,Tu.put r]
     ·left;unfold bR.ha;rw[if_neg bH]
    ·left;simp only[vp _ _ aa]
   ·intro lg;have Tv:s.P.off=false:=by
     unfold bR.qP at lg;split at lg
     ·exact lg
     ·split at lg
      ·exact lg
      ·unfold ek.step at lg
       grind
    refine⟨Tv,λbi=> ?_⟩;simp only[zL];have am:(s.au j).fk s.P=true:=by unfold bR.fk;simp[bi,Tv]
    have bH:(s.au j).lG n s.P (cP q k) b=.ok:=by
     unfold bR.lG;rw[am];simp only[Bool.not_true,Bool.false_eq_true,if_false];rw[if_neg (by omega)];unfold bR.qP at lg;rw[am]at lg;simp only[Bool.not_true,Bool.false_eq_true,if_false]at lg;rw[if_neg (by omega)]at lg;unfold ek.step at lg;rw[Tv]at lg;simp only[Bool.false_eq_true,if_false]at lg;unfold ek.bI;rw[Tv];by_cases bU:s.P.dq=0
     ·grind
     ·simp[bU]
    unfold bR.ha;rw[if_pos bH,Tu.put r];intro e;have:=congrArg (λd=>d.bB.length) e;simp at this
   ·intro qG;unfold bR.qP;rw[qG];split
    ·rfl
    ·split
     ·rfl
     ·rfl
   ·intro bU;simp only;unfold bR.qP;split
    ·exact bU
    ·split
     ·exact bU
     ·unfold ek.step
      grind
   ·omega
   ·intro qG bi;rw[if_pos];unfold Oj bR.lG bR.fk;rw[qG,bi];have I:¬(n<=cP q k\/b.length≠512):=by omega
    rw[if_neg (by decide),if_neg I,if_pos (by decide)]
   ·intro bi;rw[if_neg];unfold Oj bR.lG bR.fk;rw[bi];simp
  obtain⟨bt,aK,bf,H,I,af,aU,bC,cG,eD,eb,tn,hl,jn,pz⟩:=one;have fY:∀i,tq (bt.au i):=λi=>by
   rcases cG i with e|⟨_,_,_,e⟩
   ·rw[e];exact T i
   ·rw[e];exact⟨(T i).tY,(T i).fv,(T i).dT,(T i).stuck⟩
  have nd:∀i,(bt.au i).bS=(s.au i).bS:=λi=>by
   grind
  have kH:∀i,(bt.au i).m=(s.au i).m:=λi=>by
   grind
  have bG:=ahR V l bt aK (λx M=>al x (by simp[M])) fY;rw[List.foldl_cons,bf];refine⟨bG.use.trans H,bG.dV.trans I,bG.ep.trans af,bG.e_.trans aU,bG.dx.trans bC,bG.wA,λi=>(bG.bS i).trans (nd i),λi=>(bG.m i).trans (kH i),λi=> ?_,λh=>(eD (bG.off h)).1,λh=>bG.on (eb h),λh=>bG.dq (tn h),?_,λqG nL=> ?_,λfq=>(bG.EG λx M=>(nd _).trans (fq x (by simp[M]))).trans (pz (fq k (by simp)))⟩
  ·obtain⟨c,aI,aA,aE,bv⟩:=bG.bB i;rcases cG i with e|⟨aHX,aHY,aHZ,e⟩
   ·refine⟨c,by rw[aI,e],by rw[List.length_cons];omega,λx M=> ?_,λaB bi lo eH ea=> ?_⟩
    ·grind
    ·rcases List.mem_cons.1 eH with rfl|eH
     ·have:=(eD (bG.off aB)).2 (by rw[ea];exact bi)
      grind
     grind
   grind
  ·rcases bG.e with e|e
   ·omega
   ·exact .inr e
  ·obtain⟨lo,eH,bi⟩:=nL;rcases List.mem_cons.1 eH with rfl|eH
   ·rcases bG.e with e|e
    ·exact e.trans (jn qG bi)
    ·exact e
   ·exact bG.ok (eb qG) ⟨lo,eH,by rw[nd];exact bi⟩
theorem Tw{s:ao}(aq:iX q=true){x y:Nat}(aw:q.a=[x,y,x,y])(M:x≠0)(T:∀i,tq (s.au i))(lg:s.P.off=false)(sj:¬((s.au 0).bS=true/\(s.au 1).bS=true))(oS:x<n)(bU:rC q b=true)
  (bd:∀i,i<2->(s.au i).bS=false->xZ (s.au i) x=b):s.mB n q false=(s,b,0):=by
 have bf:cP q 0=x:=by unfold cP;rw[aw];rfl
 have I:cP q 2=x:=by unfold cP;rw[aw];rfl
 have ZI:∀k,(k=0\/k=2)->(s.au (k / 2)).bS=false->s.ko n q k=some b:=λk r bi=>by
  have am:cP q k=x:=by rcases r with rfl|rfl;exact bf;exact I
  unfold ao.ko;rw[if_pos (by unfold bR.fk;simp[bi,lg]),am,(T _).m_,if_neg (by simp[bi];omega),bd (k / 2) (by omega) bi];simp[bU]
 have ahS:∀k,(s.au (k / 2)).bS=true->s.ko n q k=none:=λk bi=>by
  unfold ao.ko;rw[if_neg (by unfold bR.fk;simp[bi])]
 obtain⟨pre,k,post,e,Ky,r,Dt⟩:∃pre k post,dL q.a 4=pre++k::post/\(∀j∈pre,(s.au (j / 2)).bS=true)/\(k=0\/k=2)/\(s.au (k / 2)).bS=false:=by
  rw[aw,Tt M]
  cases Tx:(s.au 0).bS with
  |false=>exact⟨[],0,if y=0 then[2]else[1,2,3],by grind,by simp,.inl rfl,Tx⟩
  |true=>
   have nd:(s.au 1).bS=false:=by
    cases h:(s.au 1).bS with
    |false=>rfl
    |true=>exact absurd ⟨Tx,h⟩ sj
   refine⟨if y=0 then[0]else[0,1],2,if y=0 then[]else[3],by grind,λj F=> ?_,.inr rfl,nd⟩
   grind
 have aF:=ZI k r Dt;have Kf:s.qo n q (dL q.a 4)=pre++[k]:=by
  rw[e];exact ao.ahI n s q (λj F=>ahS j (Ky j F)) (by rw[aF];rfl)
 have yZ:s.run n q (pre++[k])=⟨s.ep,some b,[]⟩:=by
  rw[ao.Kt];have H:∀l:List Nat,(∀j∈l,(s.au (j / 2)).bS=true)->l.foldl (s.step n q) ⟨s.ep,none,[]⟩=⟨s.ep,none,[]⟩:=by
   intro l
   induction l with
   |nil=>intro _;rfl
   |cons j l bG=>
    intro al;have F:=al j (by simp);rw[List.foldl_cons];have:s.step n q ⟨s.ep,none,[]⟩ j=⟨s.ep,none,[]⟩:=by
     unfold ao.step;rw[ahS j F];simp[F]
    grind
  have I:s.run n q pre=⟨s.ep,none,[]⟩:=H pre Ky;rw[I];unfold ao.step;rw[aF];rfl
 unfold ao.mB ao.og
 simp_all
theorem auj{s:ao}(aq:iX q=true)(h:s.P.off=true\/((s.au 0).bS=true/\(s.au 1).bS=true)):∃aR,s.mB n q false=({s with ep:=aR},[],21):=by
 have aF:∀k∈dL q.a 4,s.ko n q k=none:=λk r=>by
  have fs:=(Fa r).1;have jX:k / 2=0\/k / 2=1:=by omega
  unfold ao.ko;rw[if_neg];unfold bR.fk
  grind
 have yZ:∀l:List Nat,(∀k∈l,s.ko n q k=none)->∀t:Ha,t.blk=none->(l.foldl (s.step n q) t).blk=none:=by
  intro l
  induction l with
  |nil=>intro _ t bd;exact bd
  |cons k l bG=>
   intro al t bd;rw[List.foldl_cons];refine bG (λx M=>al x (by simp[M])) _ ?_;unfold ao.step
   grind
 unfold ao.mB ao.og;rw[if_pos aq,if_neg (by decide),ao.ahH n s q aF];have:=yZ (dL q.a 4) aF ⟨s.ep,none,[]⟩ rfl;have e:(s.run n q (dL q.a 4)).blk=none:=this
 simp_all
end
structure dy where
 s:ao
 bI:List Pt
 fL:List Pt
structure hT where
 n:Nat
 aT:Nat
 dP:List Pt
 blk:Pt->cX
 bS:Nat->Bool
 ip:Bool
def bp(l:List Pt):List Nat:=l.flatMap pa
theorem wB(a b:List Pt):bp (a++b)=bp a++bp b:=List.flatMap_append
theorem Bz{l:List Pt}{a:Nat}:a∈bp l↔∃p∈l,a∈pa p:=List.mem_flatMap
def hH(n:Nat):Src dy:=λt p=>({t with s:=(t.s.mB n p false).1},(t.s.mB n p false).2.1,(t.s.mB n p false).2.2)
def sd(aT:Nat)(p:Pt)(b:cX)(a:List Nat):Pt:={p with b:=aT,a:=a,h:=sr {p with b:=aT,a:=a} b}
def hg(n aT:Nat)(t:dy)(p:Pt)(b:cX):dy×Pt×Int:=
 let f:=t.s.u' n (fm p.k)
 if f.2=[0,0,0,0]then({t with s:=f.1},ad,30)else
 let w:=f.1.ha n (sd aT p b f.2) b
 ({t with s:=w.1,bI:=t.bI++[sd aT p b f.2]},sd aT p b f.2,w.2)
def kK(n:Nat)(t:dy)(p:Pt):dy:={t with s:=(k' p).foldl (ao.jp n 1 2) t.s,fL:=if p=ad then t.fL else t.fL++[p]}
def p'(s:ao):Prop:=s.P.off=false/\¬((s.au 0).bS=true/\(s.au 1).bS=true)
def ku(s:ao)(p:Pt)(b:cX):Prop:=rC p b=true/\(p' s->∀i,i<2->(s.au i).bS=false->∀a∈pa p,xZ (s.au i) a=b)
def Ty(c:hT)(t:dy):Prop:=∀a,1<=a->a<c.n->a∈bp (c.dP++t.bI)
structure lI(c:hT)(t:dy):Prop where
 wA:∀i,tq (t.s.au i)
 bS:∀i,i<2->(t.s.au i).bS=c.bS i
 on:c.ip=false->t.s.P=ek.on
 dV:∀i,i<2->∀a,t.s.dV i a=false
 use:∀i,i<2->∀a,1<=a->a<c.n->t.s.use i a=if a∈bp (c.dP++t.bI)then(if a∈bp t.fL then 2 else 1)else 0
 bZ:(bp (c.dP++t.bI)).Nodup
 su:∀a∈bp (c.dP++t.bI),1<=a/\a<c.n
 fL:∀p∈t.fL,p∈c.dP++t.bI
 vr:∀p∈c.dP++t.bI,bN p/\wz p/\iX p=true
 gz:∀p∈c.dP,rC p (c.blk p)=true/\∀i,i<2->c.bS i=false->∀a∈pa p,jJ (t.s.au i).m a=c.blk p
 len:∀i,i<2->∀a,(jJ (t.s.au i).m a).length=512
 bB:∀i,i<2->∀e∈(t.s.au i).bB,(c.bS i=false->e.1∉bp c.dP)/\e.2.length=512
 wide:(∀p∈t.bI,(pa p).length=fm p.k)\/Ty c t
 n:c.n<=65536
structure rD(c:hT)(t:dy):Prop where
 bL:lI c t
 fh:∀p∈t.bI,∃b,ku t.s p b
 none:c.bS 0=true/\c.bS 1=true->t.bI=[]
def ms(c:hT):hp dy where
 rd:=hH c.n
 nw:=hg c.n c.aT
 bM:=kK c.n
 ok:=rD c
 bL:=lI c
 has:=λt p b=>p∈c.dP++t.bI/\ku t.s p b
 bI:=dy.bI
 fL:=dy.fL
 A_:=λt e=>(e=21/\(c.ip=true\/(c.bS 0=true/\c.bS 1=true)))\/(e=30/\Ty c t/\(c.bS 0=true/\c.bS 1=true->t.bI=[]))
section
variable{c:hT}{t:dy}
theorem lI.Tz(h:lI c t){p:Pt}(ah:p∈c.dP):ku t.s p (c.blk p):=by
 obtain⟨H,I⟩:=h.gz p ah;refine⟨H,λ_ i aa bi a am=> ?_⟩;unfold xZ;rw[RN λe aV aK=>(h.bB i aa e aV).1 (by rw[<-h.bS i aa];exact bi) (by rw[aK];exact Bz.2 ⟨p,ah,am⟩)];exact I i aa (by rw[<-h.bS i aa];exact bi) a am
theorem ahT{p:Pt}(aw:wz p):∃x,x∈pa p:=by
 obtain⟨x,y,e,M,_⟩:=aw;refine⟨x,?_⟩;rw[Fs e M];split<;>simp
theorem p'.ahU{s:ao}(h:¬p' s):s.P.off=true\/((s.au 0).bS=true/\(s.au 1).bS=true):=by
 unfold p' at h
 grind
theorem auk(h:rD c t){p:Pt}{b:cX}(ah:p∈c.dP++t.bI)(V:ku t.s p b):
  ((ms c).fb t (hH c.n t p).1 [] []/\(hH c.n t p).2=(b,0))\/(ms c).mg t 0 (hH c.n t p).1 (hH c.n t p).2.2:=by
 obtain⟨ok,⟨x,y,e,M,vd⟩,aH⟩:=h.bL.vr p ah;by_cases am:p' t.s
 ·have mD:x∈pa p:=by rw[Fs e M];split<;>simp
  have oS:=(h.bL.su x (Bz.2 ⟨p,ah,mD⟩)).2;have aD:=Tw (n:=c.n) aH e M h.bL.wA am.1 am.2 oS V.1 λi aa bi=>V.2 am i aa bi x mD;unfold hH;rw[aD];exact .inl ⟨hp.fb.refl h,rfl⟩
 ·obtain⟨aR,gJ⟩:=auj (n:=c.n) aH (p'.ahU am);unfold hH;rw[gJ];refine .inr ⟨by show(21:Int)≠0;decide,.inl ⟨rfl,?_⟩,?_,by show fU t.bI<=_;exact Nat.le_refl _⟩
  ·rcases p'.ahU am with H|H
   ·cases bU:c.ip with
    |true=>exact .inl rfl
    |false=>
     rw[h.bL.on bU]at H
     cases H
   ·exact .inr ⟨by rw[<-h.bL.bS 0 (by omega)];exact H.1,by rw[<-h.bL.bS 1 (by omega)];exact H.2⟩
  ·obtain⟨a_,bh,bV,cr,cN,f6,cg,bz,ef,eE,gD,dA,eW,f14⟩:=h.bL;exact⟨a_,bh,bV,cr,cN,f6,cg,bz,ef,eE,gD,dA,eW,f14⟩
theorem ku.same{s s':ao}{p:Pt}{b:cX}(h:ku s p b)(aK:s'.au=s.au)(aW:s'.P=s.P):ku s' p b:=by
 refine⟨h.1,λam i aa bi a cT=> ?_⟩;unfold p' at am;rw[aK]at bi⊢;exact h.2 ⟨by rw[<-aW];exact am.1,by rw[<-aK];exact am.2⟩ i aa bi a cT
theorem aul(h:rD c t){p:Pt}(ah:p∈c.dP++t.bI):(ms c).fb t (kK c.n t p) [] [p]:=by
 obtain⟨ok,aw,aH⟩:=h.bL.vr p ah;have hz:p≠ad:=λe=>by rw[e]at aH;exact absurd aH (by decide)
 obtain⟨S,an⟩:=EP (n:=c.n) (f:=1) (t:=2) (by decide) (k' p) t.s;obtain⟨a_,bh,bV,cr,cN,f6,cg,bz,ef,eE,gD,dA,eW,f14⟩:=h.bL;have e:kK c.n t p=⟨(k' p).foldl (ao.jp c.n 1 2) t.s,t.bI,t.fL++[p]⟩:=by
  unfold kK;rw[if_neg hz]
 rw[e];refine⟨⟨⟨by rw[S.au];exact a_,by rw[S.au];exact bh,by rw[S.P];exact bV,by rw[S.dV];exact cr,λi aa a a1 a2=> ?_,f6,cg,λq aq=> ?_,ef,by rw[S.au];exact eE,by rw[S.au];exact gD,by rw[S.au];exact dA,eW,f14⟩,λq aq=> ?_,h.none⟩,λq b aq=>⟨aq.1,aq.2.same S.au S.P⟩,by simp[ms],rfl⟩
 ·show _=if a∈bp (c.dP++t.bI)then(if a∈bp (t.fL++[p])then 2 else 1)else 0
  rw[an,cN i aa a a1 a2,wB t.fL];have ahV:=Ft aw i a;have BA:bp [p]=pa p:=by unfold bp;simp
  grind
 ·grind
 ·obtain⟨b,V⟩:=h.fh q aq;exact⟨b,V.same S.au S.P⟩
theorem aum{aT:Nat}{p:Pt}{b:cX}{x y:Nat}(M:1<=x)(vd:y≠x):wz (sd aT p b [x,y,x,y]):=⟨x,y,rfl,by omega,Ne.symm vd⟩
theorem ahW{p:Pt}(h:Du p):fm p.k=1\/fm p.k=2:=by
 have r:p.k=1\/p.k=2\/p.k=3\/p.k=4\/p.k=5:=by
  rcases h.2 with h|h<;>omega
 rcases r with e|e|e|e|e<;>rw[e]<;>decide
theorem aun{aT:Nat}{p:Pt}{b:cX}{x y:Nat}(h:Du p)(M:1<=x)(vd:y≠x)(bH:fm p.k=1->y=0):iX (sd aT p b [x,y,x,y])=true:=by
 rw[Kz (p:=sd aT p b [x,y,x,y]) (a0:=x) (a1:=y) (a2:=x) (a3:=y) (n:=fm p.k) rfl rfl];have aK:BB (sd aT p b [x,y,x,y])=true:=by
  show(if p.k=3 then(p.l==1||p.l==2)else p.l==0)=true;rcases h.2 with⟨r,al⟩|⟨_,_,r,al⟩
  ·grind
  ·rw[if_neg r,al];rfl
 have aW:(sd aT p b [x,y,x,y]).a.any (·!=0)=true:=by
  show[x,y,x,y].any (·!=0)=true;simp;omega
 have iT:¬x=0:=by omega
 rw[aK,aW];rcases ahW h with e|e
 ·rw[e,bH e];simp[BC,iT]
 ·rw[e];simp[BC,iT,Ne.symm vd]
theorem auo{aT:Nat}{p:Pt}{b:cX}{x y:Nat}(h:Du p)(V:aT<18446744073709551616)(M:x<65536)(ar:y<65536):bN (sd aT p b [x,y,x,y]):=
 ⟨h.1.k,h.1.l,h.1.o,h.1.f,V,JN _ _,rfl,by intro z hz;simp[sd]at hz;omega⟩
theorem aup{aT:Nat}{p:Pt}{b:cX}{a:List Nat}(al:b.length=512):rC (sd aT p b a) b=true:=by
 unfold rC;rw[decide_eq_true al,Bool.true_and,decide_eq_true_iff];rfl
theorem auq(gy:c.aT<18446744073709551616)(h:rD c t){p:Pt}{b:cX}(bd:Du p)(al:b.length=512):
  (∃q,hg c.n c.aT t p b=((hg c.n c.aT t p b).1,q,0)/\(ms c).fb t (hg c.n c.aT t p b).1 [q] []/\(ms c).has (hg c.n c.aT t p b).1 q b/\ZJ p q/\∀d,¬(ms c).has t q d)\/
  (ms c).mg t (fm p.k) (hg c.n c.aT t p b).1 (hg c.n c.aT t p b).2.2:=by
 obtain⟨a_,bh,bV,cr,cN,f6,cg,bz,ef,eE,gD,dA,eW,f14⟩:=id h.bL;have bH:=ahW bd;rcases aue (n:=c.n) (U:=λa=>if a∈bp (c.dP++t.bI)then(if a∈bp t.fL then 2 else 1)else 0) cN cr bH with⟨bt,x,y,aK,S,lF,oS,iT,ar,de,hd,an⟩|⟨aK,aur⟩
 ·have lr:x∉bp (c.dP++t.bI):=λe=>by
   grind
  have xP:y≠x:=by omega
  have Ep:y<65536:=by omega
  have HJ:y∉bp (c.dP++t.bI):=λe=>by
   grind
  obtain⟨q,aq⟩:=az (sd c.aT p b [x,y,x,y]);have zM:q.a=[x,y,x,y]:=by rw[<-aq];rfl
  have tN:wz q:=aq▸aum lF xP;have aus:iX q=true:=aq▸aun bd lF xP de;have aH0:bN q:=aq▸auo bd gy (by omega) Ep;have ahX:rC q b=true:=aq▸aup al;have ZK:ZJ p q:=by rw[<-aq];exact⟨rfl,rfl,rfl,rfl⟩
  have ZL:x≠0:=by omega
  have aut:pa q=if y=0 then[x]else[x,y]:=Fs zM ZL
  have auu:∀k∈dL q.a 4,cP q k<c.n:=λk r=>by
   have:(k / 2,cP q k)∈k' q:=List.mem_map.2 ⟨k,r,rfl⟩;have aH:=((Ft tN _ _).1 this).2
   grind
  have R:=ahR (n:=c.n) (q:=q) (b:=b) al (dL q.a 4) bt 21 auu (by rw[S.au];exact a_);obtain⟨J,ap⟩:=az ((dL q.a 4).foldl (ao.put c.n q b) (bt,21));rw[ap]at R;have g':hg c.n c.aT t p b=(⟨J.1,t.bI++[q],t.fL⟩,q,J.2):=by
   unfold hg;rw[aK];simp only;rw[if_neg (by simp;omega),aq];unfold ao.ha;rw[aus,ahX];simp only[Bool.and_self,if_true];rw[ap]
  rw[g'];have ahY:∀a,a∈bp (c.dP++(t.bI++[q]))↔a∈bp (c.dP++t.bI)\/a∈pa q:=λa=>by
   rw[<-List.append_assoc,wB,List.mem_append];have:bp [q]=pa q:=by unfold bp;simp
   rw[this]
  have auv:∀a,a∈pa q->a=x\/(a=y/\y≠0):=λa am=>by
   grind
  have ahZ:x∈pa q:=by rw[aut];split<;>simp
  have HK:∀a,a∈pa q->a∉bp (c.dP++t.bI):=λa am=>by
   grind
  have iw:∀a,a∈bp t.fL->a∈bp (c.dP++t.bI):=λa am=>by
   obtain⟨gW,BD,cT⟩:=Bz.1 am;exact Bz.2 ⟨gW,bz gW BD,cT⟩
  have KA:∀a,a∈bp c.dP->a∈bp (c.dP++t.bI):=λa am=>by rw[wB,List.mem_append];exact .inl am
  have auw:∀i,i<2->(J.1.au i).bS=c.bS i:=λi aa=>by rw[R.bS,S.au];exact bh i aa
  have HL:p' J.1->p' t.s:=λam=>by
   refine⟨by have:=R.off am.1;rw[S.P]at this;exact this,λe=>am.2 ?_⟩
   grind
  have WM:∀gW nV,gW∈c.dP++t.bI->ku t.s gW nV->ku J.1 gW nV:=λgW nV BD sf=>by
   refine⟨sf.1,λam i aa bi a cT=> ?_⟩;have AX:(t.s.au i).bS=false:=by rw[R.bS,S.au]at bi;exact bi
   rw[<-sf.2 (HL am) i aa AX a cT];obtain⟨gl,aI,_,aE,_⟩:=R.bB i;unfold xZ;rw[aI,R.m,S.au,ahQ _ _ (b:=b) λz hz _=>(aE z hz).1,if_neg];rintro⟨z,hz,e⟩;obtain⟨_,k,r,ea,aW⟩:=aE z hz;have:(k / 2,cP q k)∈k' q:=List.mem_map.2 ⟨k,r,rfl⟩;have aH:=((Ft tN _ _).1 this).2;exact HK _ aH (by rw[<-aW,e];exact Bz.2 ⟨gW,BD,cT⟩)
  have ah0:lI c ⟨J.1,t.bI++[q],t.fL⟩:=by
   refine⟨R.wA,auw,λbU=>R.on (by rw[S.P];exact bV bU),by rw[R.dV,S.dV];exact cr,λi aa a a1 a2=> ?_,?_,λa am=> ?_,λXP AY=> ?_,λXP AY=> ?_,λgW BD=> ?_,λi aa a=>by rw[R.m,S.au];exact gD i aa a,λi aa e aV=> ?_,?_,f14⟩
   ·rw[R.use,an i aa a a1 a2];simp only[ahY];by_cases sj:a∈bp (c.dP++t.bI)
    ·grind
    ·have aF:a∉bp t.fL:=λe=>sj (iw a e);simp only[sj,if_false,false_or,aF];by_cases xk:a∈pa q
     ·grind
     grind
   ·rw[<-List.append_assoc,wB];have BA:bp [q]=pa q:=by unfold bp;simp
    rw[BA];refine List.nodup_append.2 ⟨f6,?_,λa am b V e=>HK b V (by rw[<-e];exact am)⟩
    grind
   ·rcases(ahY a).1 am with am|am
    ·exact cg a am
    grind
   ·grind
   ·grind
   ·obtain⟨H,I⟩:=eE gW BD;refine⟨H,λi aa bi a am=> ?_⟩;rw[R.m,S.au];exact I i aa bi a am
   ·obtain⟨gl,aI,_,aE,_⟩:=R.bB i;rw[aI,S.au]at aV;rcases List.mem_append.1 aV with aV|aV
    ·exact dA i aa e aV
    ·obtain⟨aW,k,r,ea,dt⟩:=aE e aV;refine⟨λ_ cW=> ?_,by rw[aW];exact al⟩;have:(k / 2,cP q k)∈k' q:=List.mem_map.2 ⟨k,r,rfl⟩;have aH:=((Ft tN _ _).1 this).2
     grind
   ·have ah1:q.k=p.k:=ZK.1;rcases eW with eW|eW
    ·by_cases ah2:fm p.k=2/\y=0
     ·right;intro a a1 a2
      grind
     grind
    ·exact absurd (eW x lF oS) lr
  by_cases wC:J.2=0
  ·rw[wC];have jK:¬(c.bS 0=true/\c.bS 1=true):=λ⟨gq,cK⟩=>by
    have:=R.EG λk r=>by
     have fs:=(Fa r).1;have jX:k / 2=0\/k / 2=1:=by omega
     rw[S.au]
     grind
    omega
   have aux:ku J.1 q b:=by
    refine⟨ahX,λam i aa bi a cT=> ?_⟩;have AX:(bt.au i).bS=false:=by rw[R.bS]at bi;exact bi
    obtain⟨gl,aI,_,aE,bv⟩:=R.bB i;have NC:=(Ft tN i a).2 ⟨aa,cT⟩;obtain⟨k,r,e⟩:=List.mem_map.1 NC;have dM:=Prod.mk.inj e;have hR:=bv am.1 AX k r dM.1;unfold xZ;rw[aI,ahQ _ _ (b:=b) λz hz _=>(aE z hz).1,if_pos ⟨_,hR,dM.2⟩];rfl
   refine .inl ⟨q,rfl,⟨⟨ah0,λgW BD=> ?_,λe=>absurd e jK⟩,λgW nV sf=>⟨?_,WM gW nV sf.1 sf.2⟩,rfl,by simp[ms]⟩,⟨by simp,aux⟩,ZK,λd bi=> ?_⟩
   ·rcases List.mem_append.1 BD with BD|BD
    ·obtain⟨nV,sf⟩:=h.fh gW BD
     grind
    grind
   ·rw[<-List.append_assoc];exact List.mem_append.2 (.inl sf.1)
   ·exact lr (Bz.2 ⟨q,bi.1,ahZ⟩)
  ·refine .inr ⟨wC,.inl ⟨R.e.resolve_right wC,?_⟩,ah0,?_⟩
   ·cases bU:c.ip with
    |true=>exact .inl rfl
    |false=>
     right;refine Classical.byContradiction λav=>wC (R.ok (by rw[S.P];exact bV bU) ?_)
     cases Tx:c.bS 0 with
     |false=>
      refine⟨0,?_,by rw[S.au,show(0:Nat) / 2=0 from rfl,bh 0 (by omega)];exact Tx⟩;rw[zM,Tt ZL];split<;>simp
     |true=>
      refine⟨2,?_,?_⟩
      ·rw[zM,Tt ZL];split<;>simp
      ·rw[S.au,show(2:Nat) / 2=1 from rfl,bh 1 (by omega)]
       grind
   ·show fU (t.bI++[q])<=fU t.bI+fm p.k;rw[BE];have:fU [q]=fm p.k:=by
     unfold fU;rw[List.map_cons,ZK.1];rfl
    omega
 ·have g':hg c.n c.aT t p b=(t,ad,30):=by
   unfold hg;rw[aK];rfl
  rw[g'];refine .inr ⟨by show(30:Int)≠0;decide,.inr ⟨rfl,λa a1 a2=>Classical.byContradiction λav=>aur a a1 a2 (by simp[av]),h.none⟩,h.bL,Nat.le_add_right _ _⟩
theorem ah3(gy:c.aT<18446744073709551616):(ms c).Laws where
 bL:=λ_ h=>h.bL
 Y:=λs p b h V=>by
  obtain⟨H,I,af⟩:=h.bL.vr p V.1;exact⟨H,af,XU V.2.1⟩
 rd:=λs p b h V=>auk h V.1 V.2
 bM:=λs p b h V=>aul h V.1
 ZM:=λs h=>by
  have e:(ms c).bM s ad=s:=by
   show kK c.n s ad=s;unfold kK;rw[auh,if_pos rfl];rfl
  rw[e];exact hp.fb.refl h
 nw:=λs p b h bd al=>auq gy h bd al
end
end Go.Proofs.YtoohkhcpboldjaaGreatDoor
