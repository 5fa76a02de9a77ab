/- What a commit does where it ends: the deferred closure. Conditions: the variables that are listed hold what the text lays; sizes. -/
import Derived.Test.YtoohkhcpboldjaaGreatDoorSpcA
set_option maxRecDepth 100000
set_option maxHeartbeats 4000000
set_option linter.unusedSimpArgs false
set_option linter.unusedVariables false
namespace Go.Proofs.YtoohkhcpboldjaaGreatDoor
open Go.RowKit Go.Kin
section
variable{w w':World}{m p n i:Nat}{z:fe}{s:ao}{aL:Value}{ag:Nat->Nat->Prop}{O S:Nat->Prop}
def ao.rx(n ir:Nat)(s:ao)(mJ pd:Nat):ao:={s with use:=λi a=>if i<2/\(i<mJ\/(i=mJ/\a<pd))/\a<n/\s.use i a=2 then ir else s.use i a}
theorem asA(n ir:Nat)(s:ao):s.rx n ir 0 0=s:=by
 unfold ao.rx
 grind
theorem asB(n ir i:Nat)(s:ao):s.rx n ir i n=s.rx n ir (i+1) 0:=by
 unfold ao.rx
 grind
theorem asC(n ir:Nat)(s:ao):s.rx n ir 2 0=s.all n ir:=by
 unfold ao.rx ao.all
 grind
theorem asD{ir k:Nat}(s:ao)(aa:i<2)(r:k<n):(if(s.rx n ir i k).use i k=2 then(s.rx n ir i k).hf i k ir else s.rx n ir i k)=s.rx n ir i (k+1):=by
 have an:(s.rx n ir i k).use i k=s.use i k:=by
  unfold ao.rx;simp only;rw[if_neg];omega
 have M:∀(bt cw:ao),bt.au=cw.au->bt.P=cw.P->bt.use=cw.use->bt.dV=cw.dV->bt.ep=cw.ep->bt.e_=cw.e_->bt.dx=cw.dx->bt=cw:=by
  intro bt cw a b c d e f g
  cases bt;cases cw
  simp only at a b c d e f g;subst a;subst b;subst c;subst d;subst e;subst f;subst g;rfl
 rw[an];have key:∀j a,(s.rx n ir i (k+1)).use j a=if j=i/\a=k/\s.use i k=2 then ir else(s.rx n ir i k).use j a:=λj a=>by
  unfold ao.rx
  grind
 by_cases I:s.use i k=2
 ·rw[if_pos I];refine M _ _ rfl rfl ?_ rfl rfl rfl rfl;funext j a;rw[key,wm]
  grind
 ·rw[if_neg I];refine M _ _ rfl rfl ?_ rfl rfl rfl rfl
  grind
def jc(z:fe):Nat->Prop:=λk=>k=z.g 0\/k=z.g 1
theorem MX(z:fe)(aa:i<2):∀k,aj (z.g i) k->jc z k:=λk r=>by
 simp only[aj]at r;rcases jo aa with rfl|rfl
 ·exact .inl r
 ·exact .inr r
theorem agV(h:eg w m p n z s aL ag)(ir:Nat)(aHI:ir<2)(av:n<=65536):aP Tryz.prog 118 #[.pointer (some ⟨z.b_,0,none⟩),.int .i64 ir] w λW w'=>eg w' m p n z (s.all n ir) aL ag/\D (jc z) w w':=by
 refine bn Tryz.func118 Tryz.ntmps118 λaZ Z=> ?_;simp[go_sem];refine du (λJ f bE=>∃i,i<=2/\J=2 - i/\f 0=.pointer (some ⟨z.b_,0,none⟩)/\f 1=.int .i64 ir/\f 7=.int .i64 i/\eg bE m p n z (s.rx n ir i 0) aL ag/\D (jc z) w bE) 2
  ⟨0,by omega,rfl,by simp,by simp,by simp,by rw[asA];exact h,D.refl _ _⟩ ?_
 rintro cJ bK _ f bE ⟨i,pw,rfl,f0,a_,cg,dZ,T⟩;by_cases aa:i<2
 ·have Hw:(i:Int)<2:=by omega
  have gO:IntKind.i64.wrap ((i:Int)+1)=((i+1:Nat):Int):=by rw[IntKind.wrap_i64];omega
  simp[go_sem,f0,a_,cg,Hw];refine(NK dZ aa).mono ?_;rintro _ ab ⟨rfl,rfl⟩;have cI:=SV (z.g i) n;simp[go_sem,cI];refine du (λJ f bE=>∃k,k<=n/\J=n - k/\f 0=.pointer (some ⟨z.b_,0,none⟩)/\f 1=.int .i64 ir/\f 7=.int .i64 i/\f 5=.slice (some ⟨z.g i,0,none⟩) n n/\f 14=.int .i64 n/\f 15=.int .i64 k/\eg bE m p n z (s.rx n ir i k) aL ag/\D (jc z) w bE) n
   ⟨0,Nat.zero_le _,rfl,by simp[f0],by simp[a_],by simp[cg],by simp,by simp,by simp,dZ,T⟩ ?_
  clear f0 a_ cg dZ T f;rintro CO pV _ f bE ⟨k,r,rfl,f0,a_,cg,cN,f14,f15,dZ,T⟩;by_cases kQ:k<n
  ·have wn:(k:Int)<n:=by omega
   have eo:IntKind.i64.wrap ((k:Int)+1)=((k+1:Nat):Int):=by rw[IntKind.wrap_i64];omega
   simp[go_sem,f14,f15,wn,kQ];refine cD [A 0,A 2,A 3,A 4,(1,some [2,3,4]),(5,some [])] ?_;have dE:∀k,fR z m p aL ag k->¬ak k:=λ_ _ e=>e;have YQ:=dZ.ch (D.refl ak bE).drew dE;have Df:=T.drew;obtain⟨u,an⟩:=az (bE.drew);rw[an]at YQ Df⊢;simp[go_sem,f0,a_,cN,f15,wn,kQ];refine(SX 2 ir u).mono ?_;rintro _ fz ⟨rfl,t1,aI,bt⟩;have al:=YQ.cq aa;simp[go_sem,SY,kQ,cN];have n':∀(x:List Value) (w:World),(callFunc 171 x.toArray).run Tryz.prog w=.ok (.enter 171 x.toArray) w:=λx w=>by simp[go_sem]
   rw[EK _ _ _ _ [.pointer (some ⟨u.1.size,0,none⟩),.pointer (some ⟨u.1.size+1,0,none⟩)] _ (n' _ _)];refine(agW (YQ.ch aI dE) aa kQ t1 ⟨by omega,by omega⟩).mono ?_;rintro _ fw ⟨⟨b,rfl,_⟩,I,aA⟩;rw[asD s aa kQ]at I;simp[go_sem,f15,eo];exact cH.intro (n -(k+1)) (by omega) (pV _ _ _ ⟨k+1,by omega,rfl,by simpa using f0,by simpa using a_,by simpa using cg,by simpa using cN,by simpa using f14,by simp,I,(Df.trans (aI.mono λ_ _ e=>e.elim)).trans (aA.mono λk _ e=>MX z aa k e)⟩)
  ·obtain rfl:k=n:=by omega
   rw[asB]at dZ;simp[go_sem,f14,f15,cg,gO];exact cH.intro (2 -(i+1)) (by omega) (bK _ _ _ ⟨i+1,by omega,rfl,by simpa using f0,by simpa using a_,by simp,dZ,T⟩)
 ·obtain rfl:i=2:=by omega
  rw[asC]at dZ;simp[go_sem,cg];exact Z _ _ ⟨dZ,T⟩
theorem asE(h:eg w m p n z s aL ag)(av:n<=65536):aP Tryz.prog 66 #[.pointer (some ⟨z.b_,0,none⟩)] w λW w'=>W=.tuple #[]/\eg w' m p n z (s.all n 0) aL ag/\D (jc z) w w':=by
 refine bn Tryz.func66 Tryz.ntmps66 λaZ Z=> ?_;simp[go_sem];refine(agV h 0 (by omega) av).mono ?_;rintro v ab ⟨H,aI⟩;simp[go_sem];exact Z _ _ ⟨rfl,H,aI⟩
theorem asF(h:eg w m p n z s aL ag)(av:n<=65536):aP Tryz.prog 67 #[.pointer (some ⟨z.b_,0,none⟩)] w λW w'=>W=.tuple #[]/\eg w' m p n z (s.all n 1) aL ag/\D (jc z) w w':=by
 refine bn Tryz.func67 Tryz.ntmps67 λaZ Z=> ?_;simp[go_sem];refine(agV h 1 (by omega) av).mono ?_;rintro v ab ⟨H,aI⟩;simp[go_sem];exact Z _ _ ⟨rfl,H,aI⟩
def ao.eN(s:ao)(i x n:Nat):Nat:=(List.range n).countP λa=>decide (1<=a)&&decide (s.use i a=x)
def ao.zD(s:ao)(i n:Nat):Nat:=(List.range n).countP λa=>decide (1<=a)&&s.dV i a
theorem agX(s:ao)(i x k:Nat):s.eN i x (k+1)=s.eN i x k+if 1<=k/\s.use i k=x then 1 else 0:=by
 unfold ao.eN;rw[List.range_succ,List.countP_append]
 grind
theorem agY(s:ao)(i k:Nat):s.zD i (k+1)=s.zD i k+if 1<=k/\s.dV i k=true then 1 else 0:=by
 unfold ao.zD;rw[List.range_succ,List.countP_append]
 grind
theorem YR(s:ao)(i x n:Nat):s.eN i x n<=n:=Nat.le_trans List.countP_le_length (by simp)
theorem asG(s:ao)(i n:Nat):s.zD i n<=n:=Nat.le_trans List.countP_le_length (by simp)
def YS(s:ao)(i n:Nat):Value:=.agg #[.int .i64 (s.eN i 0 n),.int .i64 (s.eN i 1 n),.int .i64 (s.eN i 2 n),.int .i64 (s.zD i n)]
theorem asH(h:eg w m p n z s aL ag)(aa:i<2)(av:n<=65536)(an:∀a,1<=a->a<n->s.use i a<3):aP Tryz.prog 19 #[.pointer (some ⟨z.b_,0,none⟩),.int .i64 i] w λW w'=>W=YS s i n/\D ak w w':=by
 refine bn Tryz.func19 Tryz.ntmps19 λaZ Z=> ?_;have aY:=((D.refl ak w).alloc (.cells #[.int .i64 0,.int .i64 0,.int .i64 0,.int .i64 0] 58)).alloc (.cells #[.int .i64 0,.int .i64 0,.int .i64 0] 152);have bj:=oa w (.cells #[.int .i64 0,.int .i64 0,.int .i64 0,.int .i64 0] 58) (.cells #[.int .i64 0,.int .i64 0,.int .i64 0] 152);have ba:=ny w (.cells #[.int .i64 0,.int .i64 0,.int .i64 0,.int .i64 0] 58) (.cells #[.int .i64 0,.int .i64 0,.int .i64 0] 152);have dZ:=h.ch aY λ_ _ e=>e;simp[go_sem];obtain⟨ab,de⟩:=az ((w.alloc (.cells #[.int .i64 0,.int .i64 0,.int .i64 0,.int .i64 0] 58)).alloc (.cells #[.int .i64 0,.int .i64 0,.int .i64 0] 152));rw[de]at aY bj ba dZ⊢;obtain⟨q,aq⟩:=az (w.1.size);rw[aq]at bj ba⊢;refine(NK dZ aa).mono ?_;rintro _ ai ⟨rfl,rfl⟩;have cI:=SV (z.g i) n;have iw:=h.cq aa;simp[go_sem,cI];refine du (λJ f bE=>∃k,k<=n/\J=n - k/\f 4=.pointer (some ⟨q,0,none⟩)/\f 5=.pointer (some ⟨q+1,0,none⟩)/\f 6=.int .i64 (s.zD i k)/\f 7=.slice (some ⟨z.g i,0,none⟩) n n/\f 13=.int .i64 n/\f 14=.int .i64 k/\bE.1[q+1]? =some (.cells #[.int .i64 (s.eN i 0 k),.int .i64 (s.eN i 1 k),.int .i64 (s.eN i 2 k)] 152 (0,0))/\D (aj (q+1)) ai bE) n
  ⟨0,Nat.zero_le _,rfl,by simp,by simp,by simp[ao.zD],by simp,by simp,by simp,by simpa[ao.eN]using ba,D.refl _ _⟩ ?_
 rintro cJ bK _ f bE ⟨k,r,rfl,cr,cN,f6,cg,eW,f14,V,T⟩;have asI:=dZ.pl i aa;have qI:z.g i≠q+1:=by omega
 have agZ:=T.obj asI qI;by_cases kQ:k<n
 ·have wn:(k:Int)<n:=by omega
  have eo:IntKind.i64.wrap ((k:Int)+1)=((k+1:Nat):Int):=by rw[IntKind.wrap_i64];omega
  have aJ:bE.cell? ⟨z.g i,k*2,none⟩=some (.int .i64 (s.use i k)):=by rw[aG agZ];exact(Ki s i kQ).1
  have cs:bE.cell? ⟨z.g i,k*2+1,none⟩=some (.bool (s.dV i k)):=by rw[aG agZ];exact(Ki s i kQ).2
  by_cases kO:k=0
  ·subst kO;have YT:0<n:=kQ;have de:IntKind.i64.wrap 1=1:=by decide
   simp[go_sem,eW,f14,YT,de];refine cH.intro (n -(0+1)) (by omega) (bK _ _ _ ⟨1,by omega,by omega,by simpa using cr,by simpa using cN,by simpa[agY]using f6,by simpa using cg,by simpa using eW,by simp,?_,T⟩);simpa[agX]using V
  ·have wo:((k:Int)==0)=false:=beq_false_of_ne (by omega);have lZ:=aG V 0;have ey:=aG V 1;have cZ:=aG V 2;have Kj:=λj=>dD V j;have uO:=YR s i 0 k;have lm:=YR s i 1 k;have jD:=YR s i 2 k;have nT:=asG s i k;have rp:∀c:Nat,c<=k->IntKind.i64.wrap ((c:Int)+1)=((c+1:Nat):Int):=λc T=>by rw[IntKind.wrap_i64];omega
   have Bm:s.zD i (k+1)=if s.dV i k=true then s.zD i k+1 else s.zD i k:=by
    rw[agY];by_cases h:s.dV i k=true
    ·grind
    ·grind
   have NL:∀x,s.eN i x (k+1)=if s.use i k=x then s.eN i x k+1 else s.eN i x k:=λx=>by
    rw[agX];by_cases h:s.use i k=x
    ·grind
    grind
   have af:=an k (by omega) kQ;have bL:∀(x:Nat) (f':Nat->Value) (u:World),s.use i k=x->x<3->f' 4=.pointer (some ⟨q,0,none⟩)->f' 5=.pointer (some ⟨q+1,0,none⟩)->f' 6=.int .i64 (s.zD i (k+1))->f' 7=.slice (some ⟨z.g i,0,none⟩) n n->f' 13=.int .i64 n->f' 14=.int .i64 (k+1:Nat)->u=bE.setCell ⟨q+1,x,none⟩ (.int .i64 (s.eN i x k+1:Nat))->cJ (n -(k+1)) f' u:=λx f' u M qD dw cu cM kY Kk zE an=>by
    refine bK _ _ _ ⟨k+1,by omega,rfl,dw,cu,cM,kY,Kk,zE,?_,?_⟩
    ·rw[an,eY,V,gp,NL,NL,NL];have:x=0\/x=1\/x=2:=by omega
     rcases this with rfl|rfl|rfl<;>simp[M]
    ·rw[an];exact T.setCell (p:=⟨q+1,x,none⟩) (.inl rfl) _
   have ag0:s.use i k=0\/s.use i k=1\/s.use i k=2:=by omega
   cases aw:s.dV i k with
   |true=>
    rw[aw]at cs Bm;simp only[if_true]at Bm;rcases ag0 with e|e|e
    ·rw[e]at aJ;simp[go_sem,cN,f6,cg,eW,f14,wn,kQ,kO,wo,aJ,cs,lZ,Kj,rp _ uO,rp _ nT,qI,eo];exact cH.intro (n -(k+1)) (by omega) (bL 0 _ _ e (by omega) (by simpa using cr) (by simpa using cN) (by simp[Bm]) (by simpa using cg) (by simpa using eW) (by simp) (by simp))
    ·rw[e]at aJ;simp[go_sem,cN,f6,cg,eW,f14,wn,kQ,kO,wo,aJ,cs,ey,Kj,rp _ lm,rp _ nT,qI,eo];exact cH.intro (n -(k+1)) (by omega) (bL 1 _ _ e (by omega) (by simpa using cr) (by simpa using cN) (by simp[Bm]) (by simpa using cg) (by simpa using eW) (by simp) (by simp))
    ·rw[e]at aJ;simp[go_sem,cN,f6,cg,eW,f14,wn,kQ,kO,wo,aJ,cs,cZ,Kj,rp _ jD,rp _ nT,qI,eo];exact cH.intro (n -(k+1)) (by omega) (bL 2 _ _ e (by omega) (by simpa using cr) (by simpa using cN) (by simp[Bm]) (by simpa using cg) (by simpa using eW) (by simp) (by simp))
   |false=>
    rw[aw]at cs Bm;simp only[Bool.false_eq_true,if_false]at Bm;rcases ag0 with e|e|e
    ·rw[e]at aJ;simp[go_sem,cN,f6,cg,eW,f14,wn,kQ,kO,wo,aJ,cs,lZ,Kj,rp _ uO,qI,eo];exact cH.intro (n -(k+1)) (by omega) (bL 0 _ _ e (by omega) (by simpa using cr) (by simpa using cN) (by simp[Bm,f6]) (by simpa using cg) (by simpa using eW) (by simp) (by simp))
    ·rw[e]at aJ;simp[go_sem,cN,f6,cg,eW,f14,wn,kQ,kO,wo,aJ,cs,ey,Kj,rp _ lm,qI,eo];exact cH.intro (n -(k+1)) (by omega) (bL 1 _ _ e (by omega) (by simpa using cr) (by simpa using cN) (by simp[Bm,f6]) (by simpa using cg) (by simpa using eW) (by simp) (by simp))
    ·rw[e]at aJ;simp[go_sem,cN,f6,cg,eW,f14,wn,kQ,kO,wo,aJ,cs,cZ,Kj,rp _ jD,qI,eo];exact cH.intro (n -(k+1)) (by omega) (bL 2 _ _ e (by omega) (by simpa using cr) (by simpa using cN) (by simp[Bm,f6]) (by simpa using cg) (by simpa using eW) (by simp) (by simp))
 ·obtain rfl:k=n:=by omega
  have lZ:=aG V 0;have ey:=aG V 1;have cZ:=aG V 2;have ci:=T.obj bj (show¬aj (q+1) q by simp only[aj];omega);have pj:=λj=>aG ci j;have z4:=λj=>dD ci j;simp[go_sem,cr,cN,f6,eW,f14,lZ,ey,cZ,pj,z4,ci];have kn:D ak w bE:=aY.bJ T λj F e=>by simp only[aj]at e;omega
  exact Z _ _ ⟨rfl,(((kn.setCell (p:=⟨q,0,none⟩) (.inr (by simp only;omega)) _).setCell (p:=⟨q,1,none⟩) (.inr (by simp only;omega)) _).setCell (p:=⟨q,2,none⟩) (.inr (by simp only;omega)) _).setCell (p:=⟨q,3,none⟩) (.inr (by simp only;omega)) _⟩
end
def CR(m:Nat)(z:fe)(aT:Nat)(ed:Value):Array Value:=#[.pointer (some ⟨m,0,none⟩),.pointer (some ⟨z.b_,0,none⟩),.int .u64 aT,ed]
structure km(w:World)(k m p n:Nat)(z:fe)(aT:Nat)(t:dy)(aL:Value)(ag:Nat->Nat->Prop)(ed:Value):Prop where
 nE:eg w m p n z t.s aL ag
 blk:w.1[k]? =some (.cells (CR m z aT ed) 163 (0,0))
 fc:w.ownsRow 0 44 41 ed t.bI.length (dv Y t.bI)
 nD:∀q∈t.bI,bN q
 ni:¬fR z m p aL ag k
 iP:∀j,ed.ownBlock=some j->¬fR z m p aL ag j/\j≠k
def nh(k m p:Nat)(z:fe)(aL:Value)(ag:Nat->Nat->Prop)(ed:Value):Nat->Prop:=λj=>fR z m p aL ag j\/j=k\/ed.ownBlock=some j
section
variable{w w':World}{k m p n aT:Nat}{z:fe}{t:dy}{aL ed:Value}{ag:Nat->Nat->Prop}{S:Nat->Prop}
theorem km.ch(h:km w k m p n z aT t aL ag ed)(T:D S w w')(cf:∀j,nh k m p z aL ag ed j->¬S j):km w' k m p n z aT t aL ag ed:=
 ⟨h.nE.ch T λj F=>cf j (.inl F),T.obj h.blk (cf k (.inr (.inl rfl))),ej h.fc T λj F=>cf j (.inr (.inr F)),h.nD,h.ni,h.iP⟩
theorem km.lt(h:km w k m p n z aT t aL ag ed):∀j,nh k m p z aL ag ed j->j<w.1.size:=λj F=>by
 rcases F with F|rfl|F
 ·exact h.nE.gK j F
 ·exact lt_of_block h.blk
 ·exact oJ h.fc j F
theorem sc(z:fe)(m p:Nat)(aL:Value)(ag:Nat->Nat->Prop):∀j,jc z j->fR z m p aL ag j:=λj F=>by
 rcases F with rfl|rfl
 ·exact .inl (.inr (.inr (.inl rfl)))
 ·exact .inl (.inr (.inr (.inr (.inl rfl))))
theorem km.MY(h:km w k m p n z aT t aL ag ed){s':ao}(H:eg w' m p n z s' aL ag)(T:D (jc z) w w')(fL:List Pt):km w' k m p n z aT ⟨s',t.bI,fL⟩ aL ag ed:=
 ⟨H,T.obj h.blk λe=>h.ni (sc z m p aL ag k e),ej h.fc T λj F e=>(h.iP j F).1 (sc z m p aL ag j e),h.nD,h.ni,h.iP⟩
theorem ag1(q:Pt)(n f t:Nat)(s:ao):(k' q).foldl (ao.jp n f t) s=(dL q.a 4).foldl (λs k=>ao.jp n f t s (k / 2,cP q k)) s:=by
 unfold k';rw[List.foldl_map]
theorem afN(h:km w k m p n z aT t aL ag ed)(q:Pt)(ok:bN q):aP Tryz.prog 124 #[.pointer (some ⟨k,0,none⟩),.agg (Y q)] w λW w'=>W=.tuple #[]/\km w' k m p n z aT (kK n t q) aL ag ed/\D (jc z) w w':=by
 refine bn Tryz.func124 Tryz.ntmps124 λaZ Z=> ?_;have cU:=bW ok;have cT:=dW ok;have hz:=h.nE.cq (i:=0) (by omega);simp[go_sem,cU,cT];have aY:=((D.refl ak w).alloc (.cells #[.pointer (some ⟨k,0,none⟩)] 161)).alloc (.cells (Y q) 44);have bj:=oa w (.cells #[.pointer (some ⟨k,0,none⟩)] 161) (.cells (Y q) 44);have ba:=ny w (.cells #[.pointer (some ⟨k,0,none⟩)] 161) (.cells (Y q) 44);obtain⟨ab,de⟩:=az ((w.alloc (.cells #[.pointer (some ⟨k,0,none⟩)] 161)).alloc (.cells (Y q) 44));rw[de]at aY bj ba⊢;have H:=h.ch aY λ_ _ e=>e;refine(Kl q ab).mono ?_;rintro _ ai ⟨rfl,aW⟩;have cZ:=cl ab (.cells (Y q) 44);have aA:=(D.refl ak ab).alloc (.cells (Y q) 44);rw[<-aW]at cZ aA;have I:=H.ch aA λ_ _ e=>e;have jd:=aA.obj bj id;have al:=h.lt;have gE:=aY.size;have eF:=aY.trans aA;simp[go_sem];obtain⟨bg,bP⟩:∃bg:List Nat->World->Prop,bg=λpre N=>km N k m p n z aT ⟨(pre.map (·%4)).foldl (λs k=>ao.jp n 1 2 s (k / 2,cP q k)) t.s,t.bI,t.fL⟩ aL ag ed/\N.1[w.1.size]? =some (.cells #[.pointer (some ⟨k,0,none⟩)] 161 (0,0))/\D (jc z) w N:=⟨_,rfl⟩;refine Mv (NM q ab.1.size _ _ (jc z) ai ok cZ) (D.refl _ _) rfl rfl (by kernel_rfl) ?_ bg (λ_ _ _=>False)
  (λx f' _=>f' 4=.int .i64 (x%4 / 2:Nat)/\f' 5=.int .u16 (cP q (x%4))/\f' 2=.pointer (some ⟨w.1.size,0,none⟩)) ?_ ?_ ?_ ?_ ?_ ?_ ?_ ?_
 ·intro j F;exact I.nE.gK j (sc z m p aL ag j F)
 ·rintro pre N bs aD ap;rw[bP]at aD⊢;have eR:∀j,j<ab.1.size->¬ai.1.size<=j:=λj F e=>by have:=aA.size;omega
  exact⟨aD.1.ch ap.ch λj F=>eR j (by have:=al j F;omega),ap.blk aD.2.1,ap.tS aD.2.2 eF.size⟩
 ·exact λ_ _ _ _ h _=>h
 ·exact λ_ _ _ _ h _=>h
 ·rw[bP];exact⟨I,jd,eF.mono λ_ _ e=>e.elim⟩
 ·rintro pre x N aD;simp[go_sem];refine⟨D.refl _ _,aD,?_,?_⟩
  ·simp[ry]
  ·simp[ry,cP]
 ·rintro pre x f' N aD ⟨cr,cN,bh⟩;rw[bP]at aD;obtain⟨hh,V,T⟩:=aD;obtain⟨j,F⟩:=az (x%4);rw[F]at cr cN;have mA:j / 2<2:=by omega
  have gq:N.cell? ⟨w.1.size,0,none⟩=some (.pointer (some ⟨k,0,none⟩)):=aG V 0;have cK:N.cell? ⟨k,1,none⟩=some (.pointer (some ⟨z.b_,0,none⟩)):=aG hh.blk 1;simp[go_sem,cr,cN,bh,gq,cK];refine(asJ hh.nE mA (cP q j) (Km ok j)).mono ?_;rintro v eZ ⟨af,aE⟩;have oe:D (jc z) N eZ:=aE.mono λa _ e=>MX z mA a e;simp[go_sem];refine⟨oe,?_⟩;rw[bP];have wp:(pre++[x]).map (·%4)=pre.map (·%4)++[j]:=by rw[List.map_append,List.map_cons,F];rfl
  refine⟨?_,oe.obj V λe=> ?_,T.trans oe⟩
  ·rw[wp,List.foldl_append];exact hh.MY af oe t.fL
  ·have:=al _ (.inl (sc z m p aL ag _ e));omega
 ·rintro L N dS aD bi;rw[bP]at aD;obtain⟨hh,V,T⟩:=aD;have Bn:(dL q.a 4).map (·%4)=dL q.a 4:=by
   conv=>rhs;rw[<-List.map_id (dL q.a 4)]
   exact List.map_congr_left λk r=>by simpa using Nat.mod_eq_of_lt (Fa r).1
  rw[Bn,<-ag1]at hh;have ui:D (aj L) N (N.putObj L (.deferred none)):=(D.refl (aj L) N).putObj (.inl rfl) _;have ag2:∀a,a<ab.1.size->a≠L:=λa am e=>by have:=aA.size;omega
  have xT:=hh.ch ui λa am e=>ag2 a (by have:=al a am;omega) e;simp[go_sem,SZ,bi];refine Z _ _ ⟨rfl,?_,T.putObj (.inr (by have:=eF.size;omega)) _⟩;unfold kK;exact⟨xT.nE,xT.blk,xT.fc,xT.nD,xT.ni,xT.iP⟩
 ·exact λ_ _ _ _ _ _ h=>h.elim
end
theorem ao.asK(n:Nat)(l:List Pt)(q:Pt)(s:ao):s.vk n (l++[q])=(k' q).foldl (ao.jp n 1 0) (s.vk n l):=by
 unfold ao.vk;rw[List.foldl_append];rfl
section
variable{w w':World}{k m p n aT:Nat}{z:fe}{t:dy}{aL ed:Value}{ag:Nat->Nat->Prop}{S:Nat->Prop}
theorem asL(h:km w k m p n z aT t aL ag ed)(av:n<=65536){fx ma ti go qJ:Nat}{E:Int}{st:e'}(ok:gV st){ag3:Array Value}(Yj:ag3.size=83)
  (aV:w.1[fx]? =some (.cells #[.int .i64 E] 50 (0,0)))(aw:w.1[ma]? =some (.cells #[.pointer (some ⟨z.b_,0,none⟩)] 35 (0,0)))
  (el:w.1[ti]? =some (.cells (cz st) 46 (0,0)))(aB:w.1[go]? =some (.cells ag3 46 (0,0)))(r:w.1[qJ]? =some (.cells #[.pointer (some ⟨k,0,none⟩)] 161 (0,0)))
  (da:∀j,(j=fx\/j=ma\/j=ti\/j=go\/j=qJ)->¬nh k m p z aL ag ed j)(iD:go≠fx/\go≠ma/\go≠ti/\go≠qJ):
  CallsDIn Fence.wide 0 Tryz.prog 65 #[.pointer (some ⟨fx,0,none⟩),.pointer (some ⟨ma,0,none⟩),.pointer (some ⟨ti,0,none⟩),.pointer (some ⟨go,0,none⟩),.pointer (some ⟨qJ,0,none⟩)] .returning w λe cS w'=>cS=.returning/\∃v,e=.returned v/\
   ((E=0->km w' k m p n z aT ⟨t.s.all n 0,t.bI,t.fL⟩ aL ag ed/\D (jc z) w w')/\(E≠0->km w' k m p n z aT ⟨(t.s.all n 1).vk n t.bI,t.bI,t.fL⟩ aL ag ed/\w'.1[go]? =some (.cells (cz st) 46 (0,0))/\D (λj=>jc z j\/j=go) w w')):=by
 refine ao6 Tryz.func65 Tryz.ntmps65 rfl (by simp) λaZ Z=> ?_;have xC:w.cell? ⟨fx,0,none⟩=some (.int .i64 E):=aG aV 0;have cs:w.cell? ⟨ma,0,none⟩=some (.pointer (some ⟨z.b_,0,none⟩)):=aG aw 0;have mE:=iQ ok;have lw:=zr ok;have ag4:=h.lt;by_cases he:E=0
 ·subst he;simp[go_sem,xC,cs];refine(asE h.nE av).mono ?_;rintro _ ab ⟨rfl,H,aI⟩;simp[go_sem];exact Z _ _ ⟨λ_=>⟨h.MY H aI t.fL,aI⟩,λe=>absurd rfl e⟩
 ·have asM:(E==0)=false:=by simpa using he
  have ve:D (aj go) w (w.setRow go (cz st)):=(D.refl (aj go) w).setRow (g:=go) (.inl rfl) _;have NN:(w.setRow go (cz st)).1[go]? =some (.cells (cz st) 46 (0,0)):=by rw[gk,aB];rfl
  have H:=h.ch ve λj F e=>da go (by simp) (by simp only[aj]at e;rw[<-e];exact F);have YU:=ve.obj aw λe=>iD.2.1 (by simp only[aj]at e;exact e.symm);have ag5:=ve.obj r λe=>iD.2.2.2 (by simp only[aj]at e;exact e.symm);have ag6:=aG YU 0;obtain⟨ab,de⟩:=az (w.setRow go (cz st));rw[de]at ve NN H YU ag5 ag6;simp[go_sem,xC,cs,asM,el,mE,lw,aB,Yj,qK,bQ,de,ag6];refine(asF H.nE av).mono ?_;rintro _ ai ⟨rfl,I,aA⟩;have xT:=H.MY I aA t.fL;have NO:∀j,(j=fx\/j=ma\/j=ti\/j=go\/j=qJ)->¬jc z j:=λj F e=>da j F (.inl (sc z m p aL ag j e));have asN:=aA.obj YU (NO ma (by simp));have asO:=aA.obj ag5 (NO qJ (by simp));have asP:=aA.obj NN (NO go (by simp));have asQ:=aG asO 0;have asR:ai.cell? ⟨k,3,none⟩=some ed:=aG xT.blk 3;have St:fA ai ed (λx=>(Y x).toList) 41 t.bI:=fA.fp xT.fc λq aq=>bW (h.nD q aq);have cI:=St.len Tryz.underlying87 3;have eF:D (λj=>jc z j\/j=go) w ai:=(ve.mono λj _ e=>.inr e).trans (aA.mono λj _ e=>.inl e);simp[go_sem,asQ,asR,cI];refine ao' (λJ ms f u=>∃i,J=t.bI.length - i/\i<=t.bI.length/\f 1=.pointer (some ⟨ma,0,none⟩)/\f 19=ed/\f 20=.int .i64 t.bI.length/\f 21=.int .i64 (i:Nat)/\
    km u k m p n z aT ⟨(t.s.all n 1).vk n (t.bI.take i),t.bI,t.fL⟩ aL ag ed/\u.1[ma]? =some (.cells #[.pointer (some ⟨z.b_,0,none⟩)] 35 (0,0))/\u.1[go]? =some (.cells (cz st) 46 (0,0))/\
    D (λj=>jc z j\/j=go) w u/\(∀L∈ms,w.1.size<=L/\L<u.1.size/\u.1[L]? =some (.deferred (some [])))/\ms.Nodup) t.bI.length
   ⟨0,rfl,Nat.zero_le _,by simp,by simp,by simp,by simp,xT,asN,asP,eF,by simp,by simp⟩ ?_
  rintro cJ bK _ ms f u ⟨i,rfl,aa,a_,Kn,f20,f21,an,oO,S_,aJ,ph,jK⟩;by_cases aO:i<t.bI.length
  case neg=>
   have jm:¬(i:Int)<t.bI.length:=by omega
   have zq:i=t.bI.length:=by omega
   subst zq;rw[List.take_length]at an;simp[go_sem,f20,f21,SZ];refine aeq ms u (λL dS=>(ph L dS).2.2) jK λw' dg=> ?_;have ew:∀j,j<w.1.size->¬j∈ms:=λj F e=>by have:=(ph j e).1;omega
   exact Z _ _ ⟨λe=>absurd e he,λ_=>⟨an.ch dg λj F e=>ew j (ag4 j F) e,dg.obj S_ (ew go (lt_of_block aB)),aJ.bJ dg λj F e=>absurd e (ew j F)⟩⟩
  have jm:(i:Int)<t.bI.length:=by omega
  obtain⟨q,aq⟩:∃q,t.bI[i]? =some q:=⟨_,List.getElem?_eq_getElem aO⟩;have kV:=h.nD q (List.mem_of_getElem? aq);have Ta:fA u ed (λx=>(Y x).toList) 41 t.bI:=fA.fp an.fc λq aq=>bW (h.nD q aq);obtain⟨fF,nF,iZ,JQ,JR,JS,CT,ia,ug,ew⟩:=Ta.CU (by decide) (λa am=>bW (h.nD a am)) aq;have uh:=bW kV;have uc:=dW kV;have dN:=bW cE;have gO:IntKind.i64.wrap ((i:Int)+1)=((i+1:Nat):Int):=by
   obtain⟨_,_,_,lm,jD,_⟩:=Ta;unfold maxLen at jD;rw[IntKind.wrap_i64];omega
  have aE:=(D.refl ak u).alloc (.cells (Y q) 44);have cm:=cl u (.cells (Y q) 44);obtain⟨aC,hk⟩:=az (u.alloc (.cells (Y q) 44));rw[hk]at aE cm;have SK:=Kn;rw[CT]at SK;simp[go_sem,SK,f20,f21,aO,jm,ia,ug,ew,gm,gn,dN,uh,uc,bQ,hk,cm];have af:=an.ch aE λ_ _ e=>e;have Tb:=aE.obj oO id;have asS:=aE.obj S_ id;have gL:aC.1.size=u.1.size+1:=by rw[<-hk];simp
  refine(Kl q aC).mono ?_;rintro _ be ⟨rfl,cW⟩;have jk:=cl aC (.cells (Y q) 44);have bv:=(D.refl ak aC).alloc (.cells (Y q) 44);have hv:(aC.alloc (.cells (Y q) 44)).1.size=aC.1.size+1:=by simp
  rw[<-cW]at jk bv hv;have aU:=af.ch bv λ_ _ e=>e;have YV:=bv.obj Tb id;have asT:=bv.obj asS id;have AZ:=aU.lt;have A':=aJ.size;have ag7:D (λj=>jc z j\/j=go) w be:=aJ.trans ((aE.trans bv).mono λ_ _ e=>e.elim);simp[go_sem,a_];obtain⟨bg,bP⟩:∃bg:List Nat->World->Prop,bg=λpre N=>km N k m p n z aT ⟨(pre.map (·%4)).foldl (λs k=>ao.jp n 1 0 s (k / 2,cP q k)) ((t.s.all n 1).vk n (t.bI.take i)),t.bI,t.fL⟩ aL ag ed/\N.1[ma]? =some (.cells #[.pointer (some ⟨z.b_,0,none⟩)] 35 (0,0))/\N.1[go]? =some (.cells (cz st) 46 (0,0))/\
    D (λj=>jc z j\/j=go) w N/\(∀L∈ms,w.1.size<=L/\L<u.1.size/\N.1[L]? =some (.deferred (some []))):=⟨_,rfl⟩
  refine Mv (NM q aC.1.size _ _ (jc z) be kV jk) (D.refl _ _) rfl rfl (by kernel_rfl) ?_ bg (λ_ _ _=>False)
   (λx f' _=>f' 7=.int .i64 (x%4 / 2:Nat)/\f' 8=.int .u16 (cP q (x%4))/\f' 1=.pointer (some ⟨ma,0,none⟩)) ?_ ?_ ?_ ?_ ?_ ?_ ?_ ?_
  ·intro j F;exact aU.nE.gK j (sc z m p aL ag j F)
  ·rintro pre N bs aD ap;rw[bP]at aD⊢;obtain⟨a',aX,bq,ec,ft⟩:=aD;have eR:∀j,j<be.1.size->¬be.1.size<=j:=λj F e=>by omega
   exact⟨a'.ch ap.ch λj F=>eR j (AZ j F),ap.blk aX,ap.blk bq,ap.tS ec ag7.size,λL dS=>⟨(ft L dS).1,(ft L dS).2.1,ap.ch.obj (ft L dS).2.2 λe=>by have:=(ft L dS).2.1;omega⟩⟩
  ·exact λ_ _ _ _ h _=>h
  ·exact λ_ _ _ _ h _=>h
  ·rw[bP];exact⟨aU,YV,asT,ag7,λL dS=>⟨(ph L dS).1,(ph L dS).2.1,bv.obj (aE.obj (ph L dS).2.2 id) id⟩⟩
  ·rintro pre x N aD;simp[go_sem];refine⟨D.refl _ _,aD,?_,?_,?_⟩
   ·simp[ry]
   ·simp[ry,cP]
   ·exact a_
  ·rintro pre x f' N aD ⟨cg,bz,asU⟩;rw[bP]at aD;obtain⟨hh,V,YW,T,bi⟩:=aD;obtain⟨j,F⟩:=az (x%4);rw[F]at cg bz;have mA:j / 2<2:=by omega
   have gq:N.cell? ⟨ma,0,none⟩=some (.pointer (some ⟨z.b_,0,none⟩)):=aG V 0;simp[go_sem,cg,bz,asU,gq];refine(asV hh.nE mA (cP q j) (Km kV j)).mono ?_;rintro v eZ ⟨af,aE⟩;have oe:D (jc z) N eZ:=aE.mono λa _ e=>MX z mA a e;simp[go_sem];refine⟨oe,?_⟩;rw[bP];have wp:(pre++[x]).map (·%4)=pre.map (·%4)++[j]:=by rw[List.map_append,List.map_cons,F];rfl
   refine⟨?_,oe.obj V (NO ma (by simp)),oe.obj YW (NO go (by simp)),T.trans (oe.mono λ_ _ e=>.inl e),λL dS=>⟨(bi L dS).1,(bi L dS).2.1,oe.obj (bi L dS).2.2 λe=>by have:=ag4 _ (.inl (sc z m p aL ag _ e));have:=(bi L dS).1;omega⟩⟩;rw[wp,List.foldl_append];exact hh.MY af oe t.fL
  ·rintro L N dS aD bi;rw[bP]at aD;obtain⟨hh,V,YW,T,Bo⟩:=aD;have Bn:(dL q.a 4).map (·%4)=dL q.a 4:=by
    conv=>rhs;rw[<-List.map_id (dL q.a 4)]
    exact List.map_congr_left λk r=>by simpa using Nat.mod_eq_of_lt (Fa r).1
   rw[Bn,<-ag1,<-ao.asK]at hh;have jh:t.bI.take i++[q]=t.bI.take (i+1):=by rw[List.take_add_one,aq];rfl
   rw[jh]at hh;have asW:=lt_of_block bi;simp[go_sem,f21,gO];refine RE.intro (t.bI.length -(i+1)) (by omega) (bK _ _ _ _ ⟨i+1,rfl,by omega,by simp[a_],by simp[Kn],by simp[f20],by simp,hh,V,YW,T,λD' NP=> ?_,?_⟩)
   ·rcases List.mem_cons.1 NP with rfl|NP
    ·exact⟨by omega,asW,bi⟩
    ·exact⟨(Bo D' NP).1,lt_of_block (Bo D' NP).2.2,(Bo D' NP).2.2⟩
   ·rw[List.nodup_cons]
    grind
  ·exact λ_ _ _ _ _ _ h=>h.elim
end
end Go.Proofs.YtoohkhcpboldjaaGreatDoor
