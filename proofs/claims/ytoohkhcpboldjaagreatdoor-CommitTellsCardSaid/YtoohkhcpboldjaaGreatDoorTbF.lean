/- Tables: the items of each leaf, gathered in a map. No condition but that the values are of their types. -/
import Derived.Laws.Externs
import Derived.Test.YtoohkhcpboldjaaGreatDoorSpH
import Derived.Test.YtoohkhcpboldjaaGreatDoorStA
set_option maxRecDepth 100000
set_option maxHeartbeats 2000000
set_option linter.unusedSimpArgs false
set_option linter.unusedVariables false
namespace Go.Proofs.YtoohkhcpboldjaaGreatDoor
open Go.RowKit Go.Kin Go.Maps Tryz
def cV.w_(D:cV)(num:dp)(x:bF):cV:=if hY num 0&&fc x then{D with aZ:=λa=>if a=num then some x else D.aZ a}else D
def cV.kq(D:cV)(num:dp)(off:gn)(b:cW):cV:=if hY num off&&(decide (b.length=0)||decide (b.length=512))then{D with lf:=λa=>if a=(num,off)then some b else D.lf a}else D
def cV.rm(D:cV)(num:dp):cV:=if hY num 0 then{D with lf:=λa=>if a.1=num then none else D.lf a,wiped:=λa=>if a=num then true else D.wiped a}else D
theorem alB(dy:TypeId)(ce:N)(w:M):bc prog 15 #[.iface dy ce] w λv' w'=>∃o z,v'=.tuple #[az o,aa 0]/\jg w' o (.iface dy ce) (.pointer none) 0 cV.dv (λk=>w.1.size<=k/\k<w'.1.size) (λ_=>False) z/\H al w w':=by
 refine bz func15 ntmps15 λbk af=> ?_;have zw:∀(t:TypeId) (w:M),(Instr.makeMap t none).run prog w=.ok (.map (some w.1.size)) (w.alloc (.map #[] 0)):=λ_ _=>rfl;have aU:=(((H.refl al w).alloc (.map #[] 0)).alloc (.map #[] 0)).alloc (.map #[] 0);have CG:=(((iv.bX w prog 39 nn).ch ((H.refl al _).alloc (.map #[] 0)) λe=>e).ch ((H.refl al _).alloc (.map #[] 0)) λe=>e);have gD:=((iv.bX (w.alloc (.map #[] 0)) prog 187 pg).ch ((H.refl al _).alloc (.map #[] 0)) λe=>e);have gc:=iv.bX ((w.alloc (.map #[] 0)).alloc (.map #[] 0)) prog 39 nn;have aA:(((w.alloc (.map #[] 0)).alloc (.map #[] 0)).alloc (.map #[] 0)).1.size=w.1.size+1+1+1:=by simp
 have J:(w.alloc (.map #[] 0)).1.size=w.1.size+1:=by simp
 have T:((w.alloc (.map #[] 0)).alloc (.map #[] 0)).1.size=w.1.size+1+1:=by simp
 rw[J]at gD;rw[T]at gc;simp[go_sem,zw];revert aU CG gD gc aA;generalize((w.alloc (.map #[] 0)).alloc (.map #[] 0)).alloc (.map #[] 0)=ai;obtain⟨q,au⟩:=aD (w.1.size);rw[au];intro aU CG gD gc aA;have dD:=cr ai (.cells #[.iface dy ce,.pointer none,.map (some q),.map (some (q+1)),.map (some (q+1+1))] 144);have jN:=(H.refl al ai).alloc (.cells #[.iface dy ce,.pointer none,.map (some q),.map (some (q+1)),.map (some (q+1+1))] 144);have kg:(ai.alloc (.cells #[.iface dy ce,.pointer none,.map (some q),.map (some (q+1)),.map (some (q+1+1))] 144)).1.size=q+4:=by simp[aA]
 rw[aA]at dD;generalize ai.alloc (.cells #[.iface dy ce,.pointer none,.map (some q),.map (some (q+1)),.map (some (q+1+1))] 144)=an at*;refine af _ _ ⟨q+1+1+1,⟨q,q+1,q+1+1⟩,rfl,⟨dD,CG.ch jN id,by simp[cV.dv],⟨_,gD.ch jN id,λa=>⟨λ_=>rfl,by simp[cV.dv]⟩⟩,by simp[cV.dv],gc.ch jN id,by simp[cV.dv],?_,⟨by simp only;omega,by simp only;omega,by simp only;omega,by simp only;omega,by simp only;omega,by simp only;omega⟩,λ_ e=>e.elim,?_⟩,aU.trans jN⟩
 ·grind
 grind
section
variable {w w':M}{S:Nat->Prop}{o n:Nat}{base fZ:N}{D:cV}{X bw Y':Nat->Prop}{z:zE}
theorem jg.mono(h:jg w o base fZ n D X bw z){m:Nat}(aC:n<=m):jg w o base fZ m D X bw z:=by
 obtain⟨oh,J,T⟩:=h.lf;exact⟨h.blk,h.aZ.mono aC,h.Hc,⟨oh,J.mono aC,T⟩,h.KL,h.uT.mono aC,h.QT,h.x,h.ne,h.pM,h.lt⟩
theorem jg.ul(h:jg w o base fZ n D X bw z){m:Nat}(aC:n<=m)(Z:H (aj z.vU) w w'){f:dp->Option bF}(bP:iv w' prog 39 nn z.vU m λa=>(f a).map KK)(ok:∀a x,f a=some x->fu x):jg w' o base fZ m {D with aZ:=f} X bw z:=by
 have qp:∀k,bw k->¬aj z.vU k:=λk r e=>by simp only[aj]at e;subst e;exact h.pM _ r (h.x _ (.inr (.inl rfl)))
 obtain⟨oh,J,T⟩:=h.lf;refine⟨Z.obj h.blk h.ne.2.2.2.1,bP,ok,⟨oh,(J.ch Z λe=>h.ne.1 e.symm).mono aC,λa=>⟨(T a).1,λb ab=> ?_⟩⟩,h.KL,(h.uT.ch Z λe=>h.ne.2.1 e.symm).mono aC,h.QT,h.x,h.ne,h.pM,λk r=>gQ (h.lt k r) Z.size⟩;obtain⟨v,ag,aP,bH⟩:=(T a).2 b ab;exact⟨v,ag,aP.ch Z λk r=>qp k (bH k r),bH⟩
theorem jg.aMt(h:jg w o base fZ n D X bw z){m:Nat}(aC:n<=m)(Z:H (aj z.xe) w w'){f:dp->Bool}(bP:iv w' prog 39 nn z.xe m λa=>if f a then some (.bool true)else none)(ok:∀a,f a=true->hY a 0=true):jg w' o base fZ m {D with wiped:=f} X bw z:=by
 have qp:∀k,bw k->¬aj z.xe k:=λk r e=>by simp only[aj]at e;subst e;exact h.pM _ r (h.x _ (.inr (.inr (.inr rfl))))
 obtain⟨oh,J,T⟩:=h.lf;refine⟨Z.obj h.blk h.ne.2.2.2.2.2,(h.aZ.ch Z h.ne.2.1).mono aC,h.Hc,⟨oh,(J.ch Z h.ne.2.2.1).mono aC,λa=>⟨(T a).1,λb ab=> ?_⟩⟩,h.KL,bP,ok,h.x,h.ne,h.pM,λk r=>gQ (h.lt k r) Z.size⟩;obtain⟨v,ag,aP,bH⟩:=(T a).2 b ab;exact⟨v,ag,aP.ch Z λk r=>qp k (bH k r),bH⟩
theorem jg.auE(h:jg w o base fZ n D X bw z){m:Nat}(aC:n<=m)(Z:H (aj z.eC) w w'){f:dp×gn->Option cW}{oh:dp×gn->Option N}(bP:iv w' prog 187 pg z.eC m oh)
  (aM:∀a,(f a=none->oh a=none)/\∀b,f a=some b->∃v,oh a=some v/\bC w' v b.length (br b)/\∀k,v.ownBlock=some k->Y' k)(ok:∀a b,f a=some b->b.length<=512)(ar:∀k,Y' k->¬X k/\k<w'.1.size):jg w' o base fZ m {D with lf:=f} X Y' z:=by
 exact⟨Z.obj h.blk h.ne.2.2.2.2.1,(h.aZ.ch Z h.ne.1).mono aC,h.Hc,⟨oh,bP,aM⟩,ok,(h.uT.ch Z λe=>h.ne.2.2.1 e.symm).mono aC,h.QT,h.x,h.ne,λk r=>(ar k r).1,λk r=>r.elim (λe=>gQ (h.lt k (.inl e)) Z.size) λe=>(ar k e).2⟩
theorem aEZ(h:jg w o base fZ n D X bw z)(num:dp)(aq:n<=1000000):bc prog 61 #[az o,.int .u16 num.val] w λv' w'=>v'=aa (if hY num 0 then 0 else 1)/\jg w' o base fZ (n+1) (D.rm num) X bw z/\H X w w':=by
 refine bz func61 ntmps61 λbk af=> ?_;have dD:=cr w (.cells #[.int .u16 num.val] 39);have aU:=(H.refl al w).alloc (.cells #[.int .u16 num.val] 39);simp[go_sem];obtain⟨q,au⟩:=aD (w.1.size);rw[au]at dD⊢;generalize w.alloc (.cells #[.int .u16 num.val] 39)=ai at*;have J:=h.ch aU (λ_ _ e=>e) λ_ _ e=>e;have pP:=λi=>aG dD i;have aMu:∀k,X k\/bw k->k<q:=λk r=>by have:=h.lt k r;omega
 have nQ:=ahI o num 0 ai;have ajB:((0:gn).val:Int)=0:=rfl;rw[ajB]at nQ;refine nQ.mono ?_;rintro _ an ⟨rfl,ii⟩;subst an
 cases fs:hY num 0 with
 |false=>
  simp[go_sem];have e:D.rm num=D:=by unfold cV.rm;rw[fs,aQ (by decide)]
  exact af _ _ ⟨by rw[fs];rfl,by rw[e];exact J.mono (by omega),aU.mono λ_ _ e=>e.elim⟩
 |true=>
  have aI:ai.cell? (bl o 3)=some (.map (some z.eC)):=aG J.blk 3;obtain⟨oh,hn,b_⟩:=J.lf;simp[go_sem,aI];refine(aHP z.eC q n num oh ai hn (pP 0) (λe=>by have:=aMu z.eC (.inl (h.x _ (.inr (.inr (.inl rfl)))));omega)).mono ?_;rintro _ aJ ⟨rfl,aMv,hQ⟩;have zH:X z.eC:=h.x _ (.inr (.inr (.inl rfl)));have agH:X z.xe:=h.x _ (.inr (.inr (.inr rfl)));have ag:=J.auE (f:=λa=>if a.1=num then none else D.lf a) (Y':=bw) (c_ n) hQ aMv (λa=> ?_) (λa b ab=> ?_) λk r=>⟨h.pM k r,gQ (J.lt k (.inr r)) hQ.size⟩
  ·have aMw:=hQ.cell (pP 0) λe=>by simp only[aj]at e;grind
   have bo:aJ.cell? (bl o 4)=some (.map (some z.xe)):=aG ag.blk 4;have Wt:=ag.ch (H.refl al aJ).drew (λ_ _ e=>e) λ_ _ e=>e;obtain⟨bD,oS,rF,bE,_⟩:=Wt.uT.put FG underlying135 (by unfold maxLen;omega) num (.bool true);have oS:(Instr.mapUpdate 135 (.map (some z.xe)) (.int .u16 num.val) (.bool true)).run prog aJ.drew=.ok () bD:=oS;simp[go_sem];refine cT [F 0,F 1,F 2,F 3,F 4,(5,some [])] ?_;simp[go_sem,bo,aMw,oS];have e:D.rm num={D with lf:=λa=>if a.1=num then none else D.lf a,wiped:=λa=>if a=num then true else D.wiped a}:=by unfold cV.rm;rw[fs,be rfl]
   refine af _ _ ⟨by rw[fs];rfl,?_,((aU.mono λ_ _ e=>e.elim).trans (hQ.mono λk _ e=>by simp only[aj]at e;subst e;exact zH)).trans ((H.hR (H.mono bE (λk _ e=>by simp only[aj]at e;subst e;exact agH))))⟩;rw[e];refine Wt.aMt (f:=λa=>if a=num then true else D.wiped a) (XN n) bE ?_ λa ao=> ?_
   ·grind
   ·split at ao
    ·grind
    ·exact h.QT a ao
  ·by_cases ao:a.1=num
   ·simp[ao]
   ·simp only[aQ ao];refine⟨(b_ a).1,λb ab=> ?_⟩;obtain⟨v,es,cX,iq⟩:=(b_ a).2 b ab;exact⟨v,es,cX.ch hQ λk r e=>by simp only[aj]at e;subst e;exact h.pM _ (iq _ r) zH,iq⟩
  ·split at ab
   ·cases ab
   ·exact h.KL a b ab
theorem aqi(h:jg w o base fZ n D X bw z)(num:dp)(x:bF)(cG:fu x)(bM:mb w)(aq:n<=1000000):bc prog 51 #[az o,.int .u16 num.val,.agg (aZ x)] w λv' w'=>v'=aa (if hY num 0&&fc x then 0 else 1)/\jg w' o base fZ (n+1) (D.w_ num x) X bw z/\H X w w':=by
 refine bz func51 ntmps51 λbk af=> ?_;have aA:=hA cG;have Fk:=tj cG;have dD:=cr w (.cells (aZ x) 113);have aU:=(H.refl al w).alloc (.cells (aZ x) 113);simp[go_sem];obtain⟨q,au⟩:=aD (w.1.size);rw[au]at dD⊢;generalize w.alloc (.cells (aZ x) 113)=ai at*;have J:=h.ch aU (λ_ _ e=>e) λ_ _ e=>e;have auF:H X w ai:=aU.mono λ_ _ e=>e.elim;have nQ:=ahI o num 0 ai;have ajB:((0:gn).val:Int)=0:=rfl;rw[ajB]at nQ;refine nQ.mono ?_;rintro _ an ⟨rfl,ii⟩;subst an
 cases fs:hY num 0 with
 |false=>
  simp[go_sem];have e:D.w_ num x=D:=by unfold cV.w_;grind
  exact af _ _ ⟨by rw[fs];rfl,by rw[e];exact J.mono (by omega),auF⟩
 |true=>
  simp[go_sem,dD,aA,Fk];refine(XT x ai cG (bM.ch aU id)).mono ?_;rintro _ aJ ⟨rfl,aI⟩;have ag:=J.ch aI (λ_ _ e=>e) λ_ _ e=>e;have auG:H X w aJ:=auF.trans (aI.mono λ_ _ e=>e.elim)
  cases aC:fc x with
  |false=>
   simp[go_sem];have e:D.w_ num x=D:=by unfold cV.w_;grind
   exact af _ _ ⟨by rw[fs,aC];rfl,by rw[e];exact ag.mono (by omega),auG⟩
  |true=>
   have cK:=aI.obj dD id;have aK:aJ.cell? (bl o 2)=some (.map (some z.vU)):=aG ag.blk 2;have Wt:=ag.ch (H.refl al aJ).drew (λ_ _ e=>e) λ_ _ e=>e;obtain⟨bD,oS,rF,bE,_⟩:=Wt.aZ.put FG underlying141 (by unfold maxLen;omega) num (.agg (aZ x));have oS:(Instr.mapUpdate 141 (.map (some z.vU)) (.int .u16 num.val) (.agg (aZ x))).run prog aJ.drew=.ok () bD:=oS;have MS:aJ.drew.1[q]? =some (.cells (aZ x) 113 (0,0)):=cK;simp[go_sem];refine cT [F 0,F 1,F 2,F 3,F 4,F 5,(6,some [])] ?_;simp[go_sem,aK,cK,MS,aA,Fk,oS];have e:D.w_ num x={D with aZ:=λa=>if a=num then some x else D.aZ a}:=by unfold cV.w_;grind
   refine af _ _ ⟨by rw[fs,aC];rfl,?_,auG.trans (H.hR (H.mono bE (λk _ e=>by simp only[aj]at e;subst e;exact h.x _ (.inr (.inl rfl)))))⟩;rw[e];refine Wt.ul (XN n) bE ?_ λa y ar=> ?_
   ·have aR:(λa=>(if a=num then some x else D.aZ a).map KK)=λa=>if a=num then some (.agg (aZ x))else(D.aZ a).map KK:=by
     funext a;by_cases ao:a=num<;>simp[ao,KK]
    rw[aR];exact rF
   ·split at ar
    ·cases ar;exact cG
    ·exact h.Hc a y ar
theorem aqp(h:jg w o base fZ n D X bw z)(num:dp)(off:gn)(b:cW)(v:N)(aM:bC w v b.length (br b))(ab:b.length<=1000000)(aq:n<=1000000):bc prog 60 #[az o,.int .u16 num.val,.int .u32 off.val,v] w λv' w'=>v'=aa (if hY num off&&(decide (b.length=0)||decide (b.length=512))then 0 else 1)/\jg w' o base fZ (n+1) (D.kq num off b) X (λk=>bw k\/(w.1.size<=k/\k<w'.1.size)) z/\H X w w':=by
 refine bz func60 ntmps60 λbk af=> ?_;have cu:=aM.len underlying101 3;have hp:jg w o base fZ (n+1) D X (λk=>bw k\/(w.1.size<=k/\k<w.1.size)) z:=by
  have J:=h.mono (XN n);obtain⟨oh,T,ag⟩:=J.lf;refine⟨J.blk,J.aZ,J.Hc,⟨oh,T,λa=>⟨(ag a).1,λb ab=> ?_⟩⟩,J.KL,J.uT,J.QT,J.x,J.ne,λk r=>r.elim (J.pM k) λe=>by omega,λk r=> ?_⟩
  ·grind
  ·rcases r with r|r|r
   ·exact J.lt k (.inl r)
   ·exact J.lt k (.inr r)
   ·exact r.2
 simp[go_sem];refine(ahI o num off w).mono ?_;rintro _ ai ⟨rfl,dx⟩;subst ai
 cases fs:hY num off with
 |false=>
  simp[go_sem];have e:D.kq num off b=D:=by unfold cV.kq;grind
  exact af _ _ ⟨by rw[fs];rfl,by rw[e];exact hp,H.refl _ _⟩
 |true=>
  by_cases Kf:b.length=0\/b.length=512
  case neg=>
   have n0:((b.length:Int)==0)=false:=hv (by omega);have xY:((b.length:Int)==512)=false:=hv (by omega);have e:D.kq num off b=D:=by
    unfold cV.kq;rw[aQ];intro Z;rw[ot,Sk,LD,LD]at Z;exact Kf Z.2
   simp[go_sem,cu,bne,n0,xY];exact af _ _ ⟨by grind,by rw[e];exact hp,H.refl _ _⟩
  have auH:(if hY num off&&(decide (b.length=0)||decide (b.length=512))then(0:Int)else 1)=0:=by
   rw[be];rw[fs,Gf,Sk,LD,LD];exact Kf
  have e:D.kq num off b={D with lf:=λa=>if a=(num,off)then some b else D.lf a}:=by
   unfold cV.kq;rw[be];rw[fs,Gf,Sk,LD,LD];exact Kf
  rw[e]at af;have bU:∀hk an,an.ownsRow 0 5 1 hk b.length (br b)->H al w.drew an->gr w.1.size hk->∀{A:Option Addr} {c:Nat},hk=.slice A b.length c->∃bD,(Instr.mapUpdate 142 (.map (some z.eC)) (.agg #[.int .u16 num.val,.int .u32 off.val]) (.slice A b.length c)).run prog an=.ok () bD/\jg bD o base fZ (n+1) {D with lf:=λa=>if a=(num,off)then some b else D.lf a} X (λk=>bw k\/(w.1.size<=k/\k<bD.1.size)) z/\H X w bD:=by
   intro hk an hr aK bg A c ky;subst ky;have aK:H al w an:=H.hR aK;have T:=h.ch aK (λ_ _ e=>e) λ_ _ e=>e;obtain⟨oh,hn,b_⟩:=T.lf;obtain⟨bD,oS,rF,bE,kV⟩:=hn.put KJ underlying142 (by unfold maxLen;omega) (num,off) (.slice A b.length c);have zH:X z.eC:=h.x _ (.inr (.inr (.inl rfl)));have aO:=nK hr;have Br:=h.lt z.eC (.inl zH);refine⟨bD,oS,T.auE (XN n) bE rF (λa=> ?_) (λa x W=> ?_) λk r=> ?_,(aK.mono λ_ _ e=>e.elim).trans (bE.mono λk _ e=>by simp only[aj]at e;subst e;exact zH)⟩
   ·by_cases ao:a=(num,off)
    ·subst ao;simp only[if_true];refine⟨λe=>(by cases e),λx W=> ?_⟩
     cases W
     exact⟨_,rfl,(bC.fF hr).ch bE λk r e=>by simp only[aj]at e;have:=bg k r;omega,λk r=>.inr ⟨bg k r,by rw[kV];exact aO k r⟩⟩
    ·simp only[aQ ao];refine⟨(b_ a).1,λx W=> ?_⟩;obtain⟨v,es,cX,iq⟩:=(b_ a).2 x W;exact⟨v,es,cX.ch bE λk r e=>by simp only[aj]at e;subst e;exact h.pM _ (iq _ r) zH,λk r=>.inl (iq k r)⟩
   ·split at W
    ·grind
    ·exact h.KL a x W
   ·rcases r with r|r
    ·exact⟨h.pM k r,gQ (T.lt k (.inr r)) bE.size⟩
    ·exact⟨λe=>by have:=h.lt k (.inl e);omega,r.2⟩
  have aI:w.cell? (bl o 3)=some (.map (some z.eC)):=aG h.blk 3;have go:∀{Qi:N->M->Prop},(∀hk an,an.ownsRow 0 5 1 hk b.length (br b)->H al w.drew an->gr w.1.size hk->Qi hk an)->bc prog 104 #[v] w.drew Qi:=λ{Qi} r=>by
   refine(GN v b.length b w.drew (by omega) rfl aM).mono ?_;rintro hk an ⟨a1,a2,a3⟩;exact r hk an a1 a2 a3
  rcases Kf with bi|bH
  ·have n0:(b.length:Int)=0:=by omega
   simp[go_sem,cu,n0,bi];refine cT [F 0,F 1,F 2,F 3,F 4,F 5,F 6,F 7,(8,some [0,1,2,3,4,5,6]),(9,some [])] ?_;simp[go_sem,aI];refine go λhk an hr aK bg=> ?_;obtain⟨vA,bh,ky⟩:∃A c,hk=.slice A b.length c:=by
    obtain⟨A,c,e,_⟩:=bC.fF hr;exact⟨A,c,e⟩
   obtain⟨bD,oS,bH,fJ⟩:=bU hk an hr aK bg ky;subst ky;have Ck:an.cell? (bl o 3)=some (.map (some z.eC)):=(H.hR aK).cell aI id;simp[go_sem,Ck,oS];exact af _ _ ⟨by rw[auH],bH,fJ⟩
  ·have xY:(b.length:Int)=512:=by omega
   simp[go_sem,cu,xY];refine cT [F 0,F 1,F 2,F 3,F 4,F 5,F 6,F 7,(8,some [0,1,2,3,4,5,6]),(9,some [])] ?_;simp[go_sem,aI];refine go λhk an hr aK bg=> ?_;obtain⟨vA,bh,ky⟩:∃A c,hk=.slice A b.length c:=by
    obtain⟨A,c,e,_⟩:=bC.fF hr;exact⟨A,c,e⟩
   obtain⟨bD,oS,bH,fJ⟩:=bU hk an hr aK bg ky;subst ky;have Ck:an.cell? (bl o 3)=some (.map (some z.eC)):=(H.hR aK).cell aI id;simp[go_sem,Ck,oS];exact af _ _ ⟨by rw[auH],bH,fJ⟩
end
end Go.Proofs.YtoohkhcpboldjaaGreatDoor
namespace Go.Kin
open Go Go.RowKit Go.Maps
open Go.WideElems (Fit rd rg pl rd_key rd_val rg_of)
section
variable {P:Program}{k:TypeId}{jF:Type}{ez:jF->N}{w w':M}{t e:TypeId}{b n:Nat}{a':jF->Option N}
theorem iv.clone(h:iv w P k ez b n a')(t:TypeId):
  ∃o:Obj,(Extern.MapsClone.clone #[.iface t (.map (some b))]).run P w=.ok (.iface t (.map (some w.1.size))) (w.alloc o)/\iv (w.alloc o) P k ez w.1.size n a':=by
 obtain⟨D,h,T⟩:=h;obtain⟨ha,mD,ab,aMx,aA,dX⟩:=h;refine⟨.map ha mD,?_,D,⟨ha,mD,(MapKept.heap_alloc w _).1,aMx,aA,dX⟩,T⟩;have e:Extern.MapsClone.clone #[.iface t (.map (some b))]=(getObj b>>=λo=>match o with
   |.map aMy mD=>(newObj (.map aMy mD)>>=λn=>pure (.iface t (.map (some n))))
   |_=>stuck "maps.clone: a map expected"):=rfl
 rw[e];simp[MapKept.run_getObj_map ab,Result.andThen,go_sem]
theorem aMz(w:M)(t k e:TypeId)(p:Option Nat)(h:P.underlying t=some (.map k e)):(binOp .eql t (.map p) (.map none)).run P w=.ok (.bool p.isNone) w:=by
 have J:∀d,(Op.equalIn (d+1) t (.map p) (.map none)).run P w=.ok p.isNone w:=λd=>by cases p<;>simp[Op.equalIn,run_underlying h]
 simp only[binOp];simp[show Op.equal t (.map p) (.map none)=Op.equalIn (9999+1) t (.map p) (.map none)from rfl,J 9999]
theorem aMA{f:FuncId}{args:List N}{v:N}{w':M}{K:N->M->Prop}(h:(callFunc f args.toArray).run P w=.ok (.value v) w')(r:K v w'):An P (.func (.func f) #[] #[]) args w K:=by
 unfold An;simp[Deferred.ofValue,invoke,h];exact r
theorem aMB(t aMC k e:TypeId)(v:N)(w:M)(h:P.underlying t=some (.map k e)):(Instr.typeAssert (.iface t v) aMC t false).run P w=.ok v w:=by
 simp[Instr.typeAssert,run_underlying h,go_sem,Result.andThen]
theorem aMD{cw:Operand->N}{d:Option Tmp}{x:Operand}{a b bV:TypeId}{ok:Bool}{pos:String}{eW:Array Edge}{g:Option (Nat×Bool)}{v:N}{w':M}{K:N->M->Prop}(h:(Instr.typeAssert (cw x) a b ok).run P w=.ok v w')(r:K v w'):ed P cw ⟨d,.typeAssert x a b ok,bV,pos,eW,g⟩ w K:=by
 refine aME (w':=w') (v:=v) ?_ r;simp[execOp,h]
end
end Go.Kin
namespace Go.Proofs.YtoohkhcpboldjaaGreatDoor
open Go.RowKit Go.Kin Go.Maps Tryz
structure cV.fL(D:cV):Prop where
 aZ:∀a x,D.aZ a=some x->hY a 0=true
 lf:∀a o b,D.lf (a,o)=some b->hY a o=true
 wiped:∀a,D.wiped a=true->hY a 0=true
theorem cV.fL.dv:cV.dv.fL:=⟨λ_ _ h=>(by cases h),λ_ _ _ h=>(by cases h),λ_ h=>(by cases h)⟩
theorem arX{a:dp}{o:gn}(h:hY a o=true):hY a 0=true:=by
 unfold hY at*
 grind
def cV.any(D:cV)(a:dp):Prop:=D.wiped a=true\/(D.aZ a).isSome=true\/∃o,(D.lf (a,o)).isSome=true
theorem cV.fL.any{D:cV}(h:D.fL){a:dp}(ao:D.any a):hY a 0=true:=by
 rcases ao with ao|ao|⟨o,ao⟩
 ·exact h.wiped a ao
 ·obtain⟨x,W⟩:=IG.1 ao;exact h.aZ a x W
 ·obtain⟨x,W⟩:=IG.1 ao;exact arX (h.lf a o x W)
theorem ajC{n:Nat}:∀(m:Nat) (xs:List (Fin n)),xs.Nodup->(∀a∈xs,1<=a.val/\a.val<=m)->xs.length<=m
 |0,xs,_,h=>by
  cases xs with
  |nil=>simp
  |cons a xs=>have:=h a (by simp);omega
 |m+1,xs,aq,h=>by
  by_cases aC:∃a∈xs,a.val=m+1
  ·obtain⟨a,ao,Bd⟩:=aC;have J:=ajC m (xs.erase a) (aq.erase a) λc Z=>by
    grind
   grind
  ·have:=ajC m xs aq λc Z=>by
    grind
   omega
section
variable {w w':M}{S:Nat->Prop}{o n:Nat}{base fZ:N}{D:cV}{X bw:Nat->Prop}{z:zE}
theorem aMF{a':dp->Option N}{b:Nat}(h:iv w prog 39 nn b n a'):bc prog 79 #[.map (some b)] w λv' w'=>v'=.map (some w.1.size)/\iv w' prog 39 nn w.1.size n a'/\H al w w'/\w'.1.size=w.1.size+1:=by
 refine bz func79 ntmps79 λbk af=> ?_;have au:=aMz w 135 _ _ (some b) underlying135;have aMG:∀w,(Instr.makeInterface 135 (.map (some b))).run prog w=.ok (.iface 135 (.map (some b))) w:=λw=>by kernel_rfl
 obtain⟨ji,Z,aC⟩:=h.clone 135;have Vs:(callFunc 137 #[.iface 135 (.map (some b))]).run prog w=.ok (.value (.iface 135 (.map (some w.1.size)))) (w.alloc ji):=by
  rw[run_callFunc_extern func137 (by kernel_rfl) (by kernel_rfl) (by kernel_rfl) (e:=Extern.MapsClone.clone) (by kernel_rfl),Z];rfl
 simp[go_sem,au,aMG];refine aMA Vs ?_;have HK:=aMB 135 20 _ _ (.map (some w.1.size)) (w.alloc ji) underlying135;simp[go_sem];refine aMD HK ?_;simp[go_sem];exact af _ _ ⟨rfl,aC,(H.refl al w).alloc _,by simp⟩
def ya(D:cV)(xs:List dp):Prop:=xs.Pairwise (λa b=>a<b)/\∀a,a∈xs↔D.any a
def uc(P:dp->Bool):dp->Option N:=λa=>if P a then some (.bool true)else none
theorem aMH(P:dp->Bool)(a:dp):(uc P a).isSome=P a:=by
 unfold uc
 cases P a<;>rfl
theorem adG(h:jg w o base fZ n D X bw z)(ok:D.fL)(aq:n<=30000):bc prog 27 #[az o] w λv' w'=>∃xs,ya D xs/\bC w' v' xs.length (S16.jh xs)/\H al w w'/\gr w.1.size v':=by
 refine bz func27 ntmps27 λbk af=> ?_;have bo:w.cell? (bl o 4)=some (.map (some z.xe)):=aG h.blk 4;simp[go_sem,bo];refine(aMF h.uT).mono ?_;rintro _ ai ⟨rfl,lO,aY,bK⟩;obtain⟨m,aC⟩:=aD (w.1.size);rw[aC]at lO bK⊢;have J:=h.ch aY (λ_ _ e=>e) λ_ _ e=>e;have aO:∀k,X k\/bw k->k<m:=λk r=>by have:=h.lt k r;omega
 have aK:ai.cell? (bl o 2)=some (.map (some z.vU)):=aG J.blk 2;obtain⟨an,eM,ax,aH,zZ,so,cR⟩:=J.aZ.range FG underlying141;obtain⟨V,yt⟩:=aD (ai.1.size);rw[yt]at ax aH;simp[go_sem,aK,ax];have hq:=aO z.vU (.inl (h.x _ (.inr (.inl rfl))));obtain⟨bq,bW⟩:∃bq:(Nat->N)->M->Prop,bq=λf u=>f 0=az o/\f 3=.map (some m)/\iv u prog 39 nn m (n+n) (uc λa=>D.wiped a||(D.aZ a).isSome)/\H al w u/\m<u.1.size:=⟨_,rfl⟩;refine zR bq ?_ ?_
 ·refine di (λt f u=>∃left c,f 0=az o/\f 3=.map (some m)/\f 17=az V/\pu u prog 39 nn z.vU V n (λa=>(D.aZ a).map KK) left t/\iv u prog 39 nn m c (uc λa=>D.wiped a||((D.aZ a).isSome&& !left a))/\c+t<=n+n/\H al w u/\m<u.1.size) eM
   ⟨_,n,by simp,by simp,by simp,aH,?_,by omega,aY.trans so,by omega⟩ ?_
  ·have e:(uc λa=>D.wiped a||((D.aZ a).isSome&& !((D.aZ a).map KK).isSome))=λa=>if D.wiped a then some (.bool true)else none:=by
    funext a;unfold uc
    grind
   rw[e];exact lO.ch so id
  rintro cQ bJ t f u ⟨left,c,f0,bR,lJ,yu,xo,Jr,aS,ajD⟩;have aMI:V≠m:=by omega
  rcases yu.next FG 0 with⟨ak,pw⟩|⟨a,v,u2,el,ak,HS,pw,xf,BH,BJ,_,BI⟩
  ·simp[go_sem,lJ,pw];rw[bW];refine⟨by simp[f0],by simp[bR],?_,aS,ajD⟩;have e:(uc λa=>D.wiped a||((D.aZ a).isSome&& !left a))=uc λa=>D.wiped a||(D.aZ a).isSome:=by
    funext a;unfold uc;simp[ak a]
   rw[e]at xo;exact xo.mono (by omega)
  ·have ajE:=xo.ch BJ λe=>aMI (by simp only[aj]at e;exact e.symm);obtain⟨sg,oS,rF,bE,_⟩:=ajE.put FG underlying135 (by unfold maxLen;omega) a (.bool true);have oS:(Instr.mapUpdate 135 (.map (some m)) (.int .u16 a.val) (.bool true)).run prog u2=.ok () sg:=oS;simp[go_sem,lJ,bR,pw,BI,nn,oS];have Nq:=xf.ch bE (λe=>by simp only[aj]at e;omega) (λe=>by simp only[aj]at e;omega);refine ct.intro el BH (bJ _ _ _ ⟨_,c+1,by simp[f0],by simp[bR],by simp[lJ],Nq,?_,by omega,(aS.bZ BJ λj I e=>by simp only[aj]at e;omega).bZ bE λj I e=>by simp only[aj]at e;omega,gQ ajD (dK BJ.size bE.size)⟩);have e:(uc λc=>D.wiped c||((D.aZ c).isSome&& !(left c&&decide (c≠a))))=λc=>if c=a then some (.bool true)else uc (λa=>D.wiped a||((D.aZ a).isSome&& !left a)) c:=by
    funext c;unfold uc;by_cases GM:c=a
    ·subst GM
     cases aN:D.aZ c with
     |none=>rw[aN]at HS;cases HS
     |some x=>simp[aN]
    ·simp[GM]
   rw[e];exact rF
 rw[bW];clear bW bq lO ax aH so;rintro f u ⟨f0,bR,xo,aS,ajD⟩;have ap:=h.ch aS (λ_ _ e=>e) λ_ _ e=>e;have aI:u.cell? (bl o 3)=some (.map (some z.eC)):=aG ap.blk 3;obtain⟨oh,hn,b_⟩:=ap.lf;obtain⟨an,eM,ax,aH,zZ,so,cR⟩:=hn.range KJ underlying142;obtain⟨V,yt⟩:=aD (u.1.size);rw[yt]at ax aH;have iQ:=aO z.eC (.inl (h.x _ (.inr (.inr (.inl rfl)))));simp[go_sem,f0,aI,ax];have YE:∀a,(oh a).isSome=(D.lf a).isSome:=λa=>by
  cases aN:D.lf a with
  |none=>
   rw[(b_ a).1 aN];rfl
  |some b=>
   grind
 obtain⟨bq,bW⟩:∃bq:(Nat->N)->M->Prop,bq=λf u=>∃P:dp->Bool,f 3=.map (some m)/\iv u prog 39 nn m (n+n+n) (uc P)/\(∀a,P a=true↔D.any a)/\H al w u:=⟨_,rfl⟩;refine zR bq ?_ ?_
 ·refine di (λt f u=>∃(left:dp×gn->Bool) (c:Nat) (P:dp->Bool),f 3=.map (some m)/\f 28=az V/\pu u prog 187 pg z.eC V n oh left t/\iv u prog 39 nn m c (uc P)/\(∀a,P a=true↔(D.wiped a=true\/(D.aZ a).isSome=true\/∃o,(D.lf (a,o)).isSome=true/\left (a,o)=false))/\c+t<=n+n+n/\H al w u) eM
   ⟨_,n+n,_,by simp[bR],by simp,aH,xo.ch so id,λa=> ?_,by omega,aS.trans so⟩ ?_
  ·grind
  clear f0 bR xo;rintro cQ bJ t f cq ⟨left,c,P,bR,f28,yu,xo,fg,Jr,Bu⟩;rcases yu.next KJ 0 with⟨ak,pw⟩|⟨a,v,u2,el,ak,HS,pw,xf,BH,BJ,_,BI⟩
  ·simp[go_sem,f28,pw];rw[bW];refine⟨P,by simp[bR],xo.mono (by omega),λa=> ?_,Bu⟩;rw[fg a];simp[cV.any,ak]
  ·have ajE:=xo.ch BJ λe=>by simp only[aj]at e;omega
   have aU:=(H.refl al u2).alloc (.cells #[.int .u16 a.1.val,.int .u32 a.2.val] 187);have dD:=cr u2 (.cells #[.int .u16 a.1.val,.int .u32 a.2.val] 187);obtain⟨q,au⟩:=aD (u2.1.size);rw[au]at dD;have ajF:=ajE.ch aU id;obtain⟨sg,oS,rF,bE,_⟩:=ajF.put FG underlying135 (by unfold maxLen;omega) a.1 (.bool true);have oS:(Instr.mapUpdate 135 (.map (some m)) (.int .u16 a.1.val) (.bool true)).run prog (u2.alloc (.cells #[.int .u16 a.1.val,.int .u32 a.2.val] 187))=.ok () sg:=oS;have pP:=λi=>aG dD i;simp[go_sem,f28,bR,pw,BI,pg,au,pP,oS];have Nq:=(xf.ch aU id id).ch bE (λe=>by simp only[aj]at e;omega) (λe=>by simp only[aj]at e;omega);refine ct.intro el BH (bJ _ _ _ ⟨_,c+1,λc=>if c=a.1 then true else P c,by simp[bR],by simp[f28],Nq,?_,λc=> ?_,by omega,((Bu.bZ BJ λj I e=>by simp only[aj]at e;have:=aS.size;omega).trans aU).bZ bE λj I e=>by simp only[aj]at e;omega⟩)
   ·have e:(uc λc=>if c=a.1 then true else P c)=λc=>if c=a.1 then some (.bool true)else uc P c:=by
     funext c;unfold uc
     grind
    rw[e];exact rF
   grind
 rw[bW];clear bW bq ax aH hn b_ YE;rintro f jl ⟨P,bR,ajF,fg,uU⟩;simp[go_sem,bR];refine(S16.afA m jl).mono ?_;rintro _ rE ⟨rfl,ajG⟩;subst rE;have aU:=(H.refl al jl).alloc (.cells #[.map (some m)] 135);have dD:=cr jl (.cells #[.map (some m)] 135);simp[go_sem];obtain⟨q,au⟩:=aD (jl.1.size);rw[au]at dD⊢;generalize jl.alloc (.cells #[.map (some m)] 135)=rE at*;have fW:∀xs,S16.Bs (uc P) xs->∀a,a∈xs↔D.any a:=λxs W a=>by rw[W.2 a,aMH,fg a]
 have aA:=S16.afB (q:=q) jl ajF (by omega) (λxs W=>ajC 255 xs W.1 λa ao=>by
  have:=ok.any ((fW xs W a).1 ao);unfold hY at this
  grind) rE aU (aG dD 0)
 refine aA.mono ?_;rintro v sg ⟨xs,W,TN,lx,bE,kc⟩;simp[go_sem];exact af _ _ ⟨xs,⟨TN,fW xs W⟩,lx,(uU.trans aU).trans bE,kc.mono (uU.trans aU).size⟩
end
variable {o n:Nat}{base fZ:N}{D:cV}{X bw:Nat->Prop}{z:zE}
theorem aAX{w:M}(h:jg w o base fZ n D X bw z)(num:dp):bc prog 173 #[az o,.int .u16 num.val] w λv' w'=>v'=.bool (D.wiped num)/\w'=w:=by
 refine bz func173 ntmps173 λbk af=> ?_;have bo:w.cell? (bl o 4)=some (.map (some z.xe)):=aG h.blk 4;have bM:(Instr.lookup 135 (.map (some z.xe)) (.int .u16 num.val) false).run prog w=_:=h.uT.oI FG underlying135 (aej w) num
 cases wN:D.wiped num with
 |true=>
  rw[wN]at bM;simp at bM;simp[go_sem,bo,bM];exact af _ _ ⟨by rw[wN],rfl⟩
 |false=>
  rw[wN]at bM;simp at bM;simp[go_sem,bo,bM];exact af _ _ ⟨by rw[wN],rfl⟩
def mn(a':gn->Option N)(o:gn):N:=(a' o).getD (.slice none 0 0)
structure MH(B b:Nat)(a':gn->Option N)(l:List (Nat×bF))(w:M):Prop where
 map:iv w prog 40 uz b l.length a'
 own:∀o:gn,w.ownsRow 0 227 45 (mn a' o) (fj l o.val).length (ei e_ (fj l o.val))
 Ub:∀o:gn,(a' o).isSome=true↔fj l o.val≠[]
 fr:∀(o:gn) k,(mn a' o).ownBlock=some k->B<=k/\k≠b
 inj:∀(o gg:gn) k,(mn a' o).ownBlock=some k->(mn a' gg).ownBlock=some k->o=gg
theorem aMJ{w:M}{e n:Nat}{v:N}{xs:List N}(h:w.ownsRow 0 e 45 v n xs):∃A c,v=.slice A n c:=by
 rcases h.2 with⟨rfl,bi⟩|⟨g,cap,dF,rfl,_⟩
 ·grind
 ·exact⟨_,_,rfl⟩
section
variable {B b:Nat}{a':gn->Option N}{l:List (Nat×bF)}{w w':M}
theorem MH.ch{S:Nat->Prop}(h:MH B b a' l w)(Z:H S w w')(ab:¬S b)(aq:∀(o:gn) k,(mn a' o).ownBlock=some k->¬S k):MH B b a' l w':=
 ⟨h.map.ch Z ab,λo=>gu (h.own o) Z λk r=>aq o k r,h.Ub,h.fr,h.inj⟩
theorem aBZ{q:Nat}(h:MH B b a' l w)(au:w.1[q]? =some (.cells #[.map (some b)] 316 (0,0)))(aTx:q<B)(aTy:b<B)(To:q≠b)(gY:B<=w.1.size){x:Nat×bF}(ok:pT x)(aq:l.length<=1000000):
  bc prog 177 #[.agg (e_ x),az q] w λ_ w'=>∃JS,MH B b JS (l++[x]) w'/\H (λk=>k=b\/B<=k) w w':=by
 refine bz func177 ntmps177 λbk af=> ?_;have eF:=rP ok;have fN:=Hf ok;have jJ:=TX (x:=x);have aU:=(H.refl al w).alloc (.cells (e_ x) 227);have dD:=cr w (.cells (e_ x) 227);obtain⟨g,aH⟩:=aD (w.1.size);have gZ:(w.alloc (.cells (e_ x) 227)).1.size=g+1:=by rw[<-aH];simp
 obtain⟨ai,dx⟩:=aD (w.alloc (.cells (e_ x) 227));rw[dx]at aU dD gZ;rw[aH]at dD;have gs:=(aG dD 0).trans jJ;simp[go_sem,eF,fN,dx,aH,gs];clear dx;refine(ajq x.1 ok.n ai).mono ?_;rintro _ an ⟨rfl,ii⟩;subst an;obtain⟨o,av⟩:∃o:gn,o.val=x.1 / 4:=⟨⟨x.1 / 4,by have:=ok.n;omega⟩,rfl⟩;rw[<-av];simp[go_sem];refine cT [F 0,F 1,F 2,F 3,F 4,F 5,(6,some [0,1,2,3,4]),(7,some [0,1]),(8,some [])] ?_;have NO:=aU.drew;have auI:ai.drew.1[g]? =some (.cells (e_ x) 227 (0,0)):=dD;have auJ:ai.drew.1.size=g+1:=gZ;clear aU dD gZ gs;obtain⟨aJ,ik⟩:=aD (ai.drew);rw[ik]at NO auI auJ⊢;clear ik;have J:=h.ch NO id λ_ _ _ e=>e;have hf:=NO.obj au id;have auK:=aG hf 0;obtain⟨A,c,aM⟩:=aMJ (J.own o);have jM:=J.map.oI PW underlying316 (z:=.slice none 0 0) (by kernel_rfl) o;have jM:(Instr.lookup 316 (.map (some b)) (.int .u32 o.val) false).run prog aJ=.ok (.slice A (fj l o.val).length c) aJ:=by rw[<-aM];exact jM
 have aK:=(H.refl al aJ).alloc (.cells (e_ x) 227);have cR:(aJ.alloc (.cells (e_ x) 227)).1.size=g+2:=by simp[auJ]
 have T:=J.ch aK id λ_ _ _ e=>e;have eI:=aK.obj hf id;have aMK:=aG eI 0;have ajH:=T.map.oI PW underlying316 (z:=.slice none 0 0) (by kernel_rfl) o;have ajH:(Instr.lookup 316 (.map (some b)) (.int .u32 o.val) false).run prog (aJ.alloc (.cells (e_ x) 227))=.ok (.slice A (fj l o.val).length c) (aJ.alloc (.cells (e_ x) 227)):=by rw[<-aM];exact ajH
 have aaQ:=J.own o;have auL:=J.fr o;have aTz:=J.inj o;rw[aM]at aaQ auL;simp[↓Eh,go_sem,auK,jM,auI,eF,fN];refine Ei (aoU ok _) ?_;simp[go_sem,auK,aMK,ajH];have iQ:(fj l o.val).length<=1000000:=dK (aot l o.val) aq;refine wJ (us:=uC x) afD aaQ (auw ok) (GX (ER (x:=x))) (by unfold maxLen;omega) (by omega) λrS ec bn bh bA=> ?_;have PT:=bh.size;have Df:∀k,(Value.slice A (fj l o.val).length c).ownBlock=some k->B<=k/\k≠b:=auL;have ue:=bh.obj hf λe=>by have:=(Df q e).1;omega
 have aML:=aG ue 0;have yF:=J.map.ch bh λe=>(Df b e).2 rfl;obtain⟨db,oS,FZ,dV,rG⟩:=yF.put PW underlying316 (by unfold maxLen;omega) o rS;have oS:(Instr.mapUpdate 316 (.map (some b)) (.int .u32 o.val) rS).run prog ec=.ok () db:=oS;simp[go_sem,aML,oS];have aTA:b<ec.1.size:=yF.lt;have bB:∀k,rS.ownBlock=some k->B<=k/\k≠b:=λk r=>by
  rcases bA with e|e
  ·grind
  ·have:=e k r;omega
 have auM:ei e_ (fj (l++[x]) o.val)=ei e_ (fj l o.val)++uC x/\(fj (l++[x]) o.val).length=(fj l o.val).length+1:=by
  rw[atC,be av.symm,AG,Cg];exact⟨rfl,by simp⟩
 have hs:∀gg:gn,gg≠o->mn (λa=>if a=o then some rS else a' a) gg=mn a' gg/\fj (l++[x]) gg.val=fj l gg.val:=λgg dn=>by
  refine⟨by unfold mn;simp only;rw[aQ dn],?_⟩;rw[atC,aQ (λe=>dn (Gg (by omega))),va]
 have dv:mn (λa=>if a=o then some rS else a' a) o=rS:=by unfold mn;simp
 have aMM:∀k,rS.ownBlock=some k->¬aj b k:=λk r e=>(bB k r).2 e;refine af _ _ ⟨λa=>if a=o then some rS else a' a,⟨?_,λgg=> ?_,λgg=> ?_,λgg k r=> ?_,λnL hr k abo auN=> ?_⟩,?_⟩
 ·grind
 ·by_cases e:gg=o
  ·subst e;rw[dv,auM.1,auM.2];exact gu bn dV aMM
  ·rw[(hs gg e).1,(hs gg e).2];refine gu (gu (J.own gg) bh λk r aR=> ?_) dV λk r aR=>(h.fr gg k r).2 aR
   grind
 ·by_cases e:gg=o
  ·grind
  ·rw[aQ e,(hs gg e).2];exact h.Ub gg
 ·by_cases e:gg=o
  ·grind
  ·rw[(hs gg e).1]at r;exact h.fr gg k r
 ·have key:∀gg:gn,gg≠o->∀k,(mn a' gg).ownBlock=some k->rS.ownBlock≠some k:=λgg dn k r aR=>by
   rcases bA with dB|dB
   ·grind
   ·have aP:=dB k aR;have bH:=Gv (J.own gg) k r;omega
  by_cases aL:nL=o
  ·grind
  ·rw[(hs nL aL).1]at abo;by_cases aR:hr=o
   ·grind
   ·rw[(hs hr aR).1]at auN;exact h.inj _ _ _ abo auN
 ·exact((NO.mono (S':=λk=>k=b\/B<=k) λ_ _ e=>e.elim).bZ bh λj I e=>.inr (Df j e).1).bZ dV λj I e=>.inl e
end
def JN(l:List (Nat×bF))(i:Nat):Option Nat:=if i=0 then none else(l[i - 1]?).map (·.1)
theorem aog{w:M}{v:N}{l:List (Nat×bF)}(ak:fC w v uC 45 l)(fo:∀x∈l,pT x){i:Nat}{x:Nat×bF}(W:l[i]? =some x):
  ∃b off c cs bv fr,v=.slice (some ⟨b,off,none⟩) l.length c/\w.1[b]? =some (.cells cs bv fr)/\w.cell? (bl b (off+i*45))=some (.int .u16 x.1)/\cs.extract (off+i*45+1) (off+i*45+1+44)=aZ x.2/\off+i*45+1+44<=cs.size/\cs.extract (off+i*45) (off+i*45+45)=e_ x:=by
 have asK:fC w v (λa=>(e_ a).toList) 45 l:=ak;obtain⟨b,off,c,cs,bv,fr,aM,ab,aV,Z⟩:=asK.OX (by decide) (λa ao=>rP (fo a ao)) W;have cG:=fo x (ib W);refine⟨b,off,c,cs,bv,fr,aM,ab,?_,?_,by omega,aV⟩
 ·rw[aG ab];have bi:=TX (x:=x)
  grind
 ·have J:=afw cG
  grind
end Go.Proofs.YtoohkhcpboldjaaGreatDoor
