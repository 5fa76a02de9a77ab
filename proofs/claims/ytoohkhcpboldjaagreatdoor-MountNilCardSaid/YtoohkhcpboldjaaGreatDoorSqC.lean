/- Whole numbers sorted: the partitions. No condition. -/
import Derived.Test.YtoohkhcpboldjaaGreatDoorSqD
set_option maxRecDepth 100000
set_option maxHeartbeats 16000000
set_option linter.unusedSimpArgs false
set_option linter.unusedVariables false
namespace Go.Proofs.YtoohkhcpboldjaaGreatDoor.SS
open Go.RowKit Go.Kin Go.Maps Go.Sort
variable{bb:Bool}
section
variable{w u:World}{blk aQ i j:Nat}{d au:Array (E bb)}{x y:(E bb)}
theorem ale(h:dm (c' _) w blk d)(a b qT cap:Nat)(xk:a<=qT)(aA':qT<b)(V:b<=d.size)(cL:d.size<=255):
  aP Tryz.prog (alf d) #[dI blk d.size cap,.int .i64 a,.int .i64 b,.int .i64 qT] w λW w'=>W=.tuple #[.int .i64 (Sort.partition lt d a b qT).1,.bool (Sort.partition lt d a b qT).2.1]/\dm (c' _) w' blk (Sort.partition lt d a b qT).2.2/\D (aj blk) w w':=by
 have nJ:=partLoop_eq (lt (bb:=bb))
 cases bb
 all_goals
  first|refine bn Tryz.func231 Tryz.ntmps231 λaZ Z=> ?_|refine bn Tryz.func279 Tryz.ntmps279 λaZ Z=> ?_
  obtain⟨aQ,dE⟩:=az (d.size);rw[dE]at V cL⊢;have gA:a<aQ:=by omega
  have jA:qT<aQ:=by omega
  obtain⟨x,M,cx,qh,hC⟩:=rd h dE gA;obtain⟨y,ar,fg,qU,kf⟩:=rd h dE jA;obtain⟨an,r,Fo⟩:=sI h dE gA jA M ar;simp only[mm,mn]at an Fo;obtain⟨rB,iu⟩:=Ce h dE jA a y;simp only[mm,mn]at iu;obtain⟨ba,db⟩:=az (b - 1);have rF:=en ((a:Int)+1) (a+1) (by omega) (by omega);have PY:=en ((b:Int) - 1) ba (by omega) (by omega);simp[go_sem];refine cD [A 0,A 1,A 2,A 3,A 4,A 5,A 6,A 7,A 8,A 9,A 10,A 11,A 12,(13,some [2,3]),A 14,(15,some [])] ?_;simp[go_sem,gA,qh,jA,qU,cx,fg,hC,kf,iu,rF,PY];obtain⟨L,dS⟩:=az (swp d a qT);rw[dS]at an r;have dZ:Sort.partition lt d a b qT=if scanUp (λx=>lt x L[a]!) L ba (a+1)>scanDown (λx=> !lt x L[a]!) L (scanUp (λx=>lt x L[a]!) L ba (a+1)) ba then(scanDown (λx=> !lt x L[a]!) L (scanUp (λx=>lt x L[a]!) L ba (a+1)) ba,true,swp L (scanDown (λx=> !lt x L[a]!) L (scanUp (λx=>lt x L[a]!) L ba (a+1)) ba) a)else
    ((partLoop lt a (scanUp (λx=>lt x L[a]!) L ba (a+1)+1) (scanDown (λx=> !lt x L[a]!) L (scanUp (λx=>lt x L[a]!) L ba (a+1)) ba - 1) (swp L (scanUp (λx=>lt x L[a]!) L ba (a+1)) (scanDown (λx=> !lt x L[a]!) L (scanUp (λx=>lt x L[a]!) L ba (a+1)) ba))).1,false,swp (partLoop lt a (scanUp (λx=>lt x L[a]!) L ba (a+1)+1) (scanDown (λx=> !lt x L[a]!) L (scanUp (λx=>lt x L[a]!) L ba (a+1)) ba - 1) (swp L (scanUp (λx=>lt x L[a]!) L ba (a+1)) (scanDown (λx=> !lt x L[a]!) L (scanUp (λx=>lt x L[a]!) L ba (a+1)) ba))).2 (partLoop lt a (scanUp (λx=>lt x L[a]!) L ba (a+1)+1) (scanDown (λx=> !lt x L[a]!) L (scanUp (λx=>lt x L[a]!) L ba (a+1)) ba - 1) (swp L (scanUp (λx=>lt x L[a]!) L ba (a+1)) (scanDown (λx=> !lt x L[a]!) L (scanUp (λx=>lt x L[a]!) L ba (a+1)) ba))).1 a):=by
   rw[<-dS,<-db];rfl
  clear cx fg hC kf iu dS M ar;revert an Fo;generalize(w.setCell ⟨blk,a,none⟩ _).setCell ⟨blk,qT,none⟩ _=u;intro aJ an;replace an:=an.drew;replace aJ:=aJ.drew;obtain⟨bg,bP⟩:∃bg:(Nat->Value)->World->Prop,bg=λf u=>∃bY,scanUp (λx=>lt x L[a]!) L ba (a+1)=bY/\(a+1)<=bY/\(bY<=(a+1)\/bY<=ba+1)/\f 0=dI blk aQ cap/\f 1=.int .i64 a/\f 10=.int .i64 bY/\f 11=.int .i64 ba/\dm (c' _) u blk L/\D (aj blk) w u:=⟨_,rfl⟩;refine wq bg ?_ ?_
  ·refine du (λJ f u=>∃i,J=ba+1 - i/\(a+1)<=i/\(i<=(a+1)\/i<=ba+1)/\f 0=dI blk aQ cap/\f 1=.int .i64 a/\f 10=.int .i64 i/\f 11=.int .i64 ba/\dm (c' _) u blk L/\scanUp (λx=>lt x L[a]!) L ba i=scanUp (λx=>lt x L[a]!) L ba (a+1)/\D (aj blk) w u) (ba+1 -(a+1))
    ⟨(a+1),rfl,Nat.le_refl _,.inl (Nat.le_refl _),by simp[dE],by simp[dE],by simp[dE],by simp[dE],an,rfl,aJ⟩ ?_
   rintro PZ Ah _ f u ⟨i,rfl,Ai,hF,f0,a_,cY,eh,an,cf,aJ⟩;have gO:=en ((i:Int)+1) (i+1) (by omega) (by omega);by_cases dR:i<=ba
   ·have gZ:(i:Int)<=ba:=by omega
    have iG:i<aQ:=by omega
    have gA:a<aQ:=by omega
    obtain⟨x,M,cx,qi,hC⟩:=rd an r iG;obtain⟨z,hz,mP,qh,ip⟩:=rd an r gA;simp[go_sem];refine cD [A 0,A 1,A 2,A 3,A 4,A 5,A 6,A 7,A 8,A 9,A 10,A 11,(12,some []),A 13] ?_;simp[go_sem,f0,a_,cY,eh,dR,gZ,iG,qi,gA,qh,cx,mP];refine(tC x z _).mono ?_;rintro _ ai ⟨rfl,hd⟩;subst ai
    cases al:lt x z with
    |true=>
     simp[go_sem,cY,gO];exact cH.intro (ba+1 -(i+1)) (by omega) (Ah _ _ _ ⟨i+1,rfl,by omega,by omega,by simp[f0],by simp[a_],by simp,by simp[eh],an,by rw[<-cf];conv=>{rhs;rw[scanUp]};simp[dR,M,hz,al],by(repeat apply D.drew);exact aJ⟩)
    |false=>
     simp[go_sem];rw[bP];exact⟨i,by rw[<-cf,scanUp];simp[M,hz,al],Ai,hF,by simp[f0],by simp[a_],by simp[cY],by simp[eh],an,by(repeat apply D.drew);exact aJ⟩
   ·have gZ:¬(i:Int)<=ba:=by omega
    simp[go_sem];refine cD [A 0,A 1,A 2,A 3,A 4,A 5,A 6,A 7,A 8,A 9,A 10,A 11,(12,some []),A 13] ?_;simp[go_sem,f0,a_,cY,eh,dR,gZ];rw[bP];exact⟨i,by rw[<-cf,scanUp];simp[dR],Ai,hF,by simp[f0],by simp[a_],by simp[cY],by simp[eh],an,by(repeat apply D.drew);exact aJ⟩
  rw[bP];clear bP bg an aJ u;rintro f u ⟨bY,pw,Ai,Iw,f0,a_,cY,eh,an,aJ⟩;obtain⟨bg,bP⟩:∃bg:(Nat->Value)->World->Prop,bg=λf u=>∃eM,scanDown (λx=> !lt x L[a]!) L bY ba=eM/\eM<=ba/\a<=eM/\f 0=dI blk aQ cap/\f 1=.int .i64 a/\f 10=.int .i64 bY/\f 11=.int .i64 eM/\dm (c' _) u blk L/\D (aj blk) w u:=⟨_,rfl⟩;simp[go_sem];refine wq bg ?_ ?_
  ·refine du (λJ f u=>∃j,J=j+1/\j<=ba/\a<=j/\f 0=dI blk aQ cap/\f 1=.int .i64 a/\f 10=.int .i64 bY/\f 11=.int .i64 j/\dm (c' _) u blk L/\scanDown (λx=> !lt x L[a]!) L bY j=scanDown (λx=> !lt x L[a]!) L bY ba/\D (aj blk) w u) (ba+1)
    ⟨ba,rfl,Nat.le_refl _,by omega,f0,a_,cY,eh,an,rfl,aJ⟩ ?_
   clear f0 a_ cY eh an aJ f u;rintro PZ Ah _ f u ⟨j,rfl,Aj,yp,f0,a_,cY,eh,an,cf,aJ⟩;by_cases dR:bY<=j
   ·have gZ:(bY:Int)<=j:=by omega
    obtain⟨q,aq⟩:∃q,j=q+1:=⟨j - 1,by omega⟩;have kJ:=en ((j:Int) - 1) q (by omega) (by omega);have hB:j<aQ:=by omega
    have gA:a<aQ:=by omega
    obtain⟨x,M,cx,qV,hC⟩:=rd an r hB;obtain⟨z,hz,mP,qh,ip⟩:=rd an r gA;have lF:L[q+1]! =x:=by rw[<-aq];exact M
    have P_:bY<=q+1:=by omega
    simp[go_sem];refine cD [A 0,A 1,A 2,A 3,A 4,A 5,A 6,A 7,A 8,A 9,A 10,A 11,(12,some []),A 13,A 14] ?_;simp[go_sem,f0,a_,cY,eh,dR,gZ,hB,qV,gA,qh,cx,mP];refine(tC x z _).mono ?_;rintro _ ai ⟨rfl,hd⟩;subst ai
    cases al:lt x z with
    |false=>
     simp[go_sem,eh,kJ];exact cH.intro (q+1) (by omega) (Ah _ _ _ ⟨q,rfl,by omega,by omega,by simp[f0],by simp[a_],by simp[cY],by simp,an,by rw[<-cf,aq];conv=>{rhs;rw[scanDown]};simp[P_,lF,hz,al],by(repeat apply D.drew);exact aJ⟩)
    |true=>
     simp[go_sem];rw[bP];exact⟨j,by rw[<-cf,aq,scanDown];simp[lF,hz,al],Aj,yp,by simp[f0],by simp[a_],by simp[cY],by simp[eh],an,by(repeat apply D.drew);exact aJ⟩
   ·have gZ:¬(bY:Int)<=j:=by omega
    simp[go_sem];refine cD [A 0,A 1,A 2,A 3,A 4,A 5,A 6,A 7,A 8,A 9,A 10,A 11,(12,some []),A 13,A 14] ?_;simp[go_sem,f0,a_,cY,eh,dR,gZ];rw[bP];refine⟨j,?_,Aj,yp,by simp[f0],by simp[a_],by simp[cY],by simp[eh],an,by(repeat apply D.drew);exact aJ⟩;rw[<-cf]
    cases j with
    |zero=>rfl
    |succ q=>
     rw[scanDown];simp[dR]
  rw[bP];clear bP bg f0 a_ cY eh an aJ f u;rintro f u ⟨eM,mA,Aj,yp,f0,a_,cY,eh,an,aJ⟩;rw[pw,mA]at dZ;have gA:a<aQ:=by omega
  have qh:(a:Int)<aQ:=by omega
  have hB:eM<aQ:=by omega
  have qV:(eM:Int)<aQ:=by omega
  by_cases Ak:bY>eM
  ·have Al:(eM:Int)<bY:=by omega
   rw[if_pos Ak]at dZ;rw[dZ]at Z;obtain⟨x,M,cx,_,hC⟩:=rd an r hB;obtain⟨y,ar,fg,_,kf⟩:=rd an r gA;obtain⟨gi,eH,gX⟩:=sI an r hB gA M ar;simp only[mm,mn]at gi gX;obtain⟨rB,iu⟩:=Ce an r gA eM y;simp only[mm,mn]at iu;simp[go_sem,cY,eh,Ak,Al];refine cD [A 0,A 1,A 2,A 3,A 4,A 5,A 6,A 7,A 8,A 9,A 10,A 11,A 12,(13,some [2,3]),A 14,(15,some [])] ?_;simp[go_sem,f0,a_,eh,gA,qh,hB,qV,cx,fg,hC,kf,iu];exact Z _ _ ⟨rfl,gi,by(repeat apply D.drew);exact aJ.trans gX⟩
  have Al:¬(eM:Int)<bY:=by omega
  have Qa:¬eM<bY:=by omega
  rw[if_neg Ak]at dZ;have iG:bY<aQ:=by omega
  have qi:(bY:Int)<aQ:=by omega
  obtain⟨x,M,cx,_,hC⟩:=rd an r iG;obtain⟨y,ar,fg,_,kf⟩:=rd an r hB;obtain⟨gi,eH,gX⟩:=sI an r iG hB M ar;simp only[mm,mn]at gi gX;obtain⟨rB,iu⟩:=Ce an r hB bY y;simp only[mm,mn]at iu;obtain⟨q,aq⟩:∃q,eM=q+1:=⟨eM - 1,by omega⟩;have gO:=en ((bY:Int)+1) (bY+1) (by omega) (by omega);have kJ:=en ((eM:Int) - 1) q (by omega) (by omega);simp[go_sem,cY,eh,Al,Qa];refine cD [A 0,A 1,A 2,A 3,A 4,A 5,A 6,A 7,A 8,A 9,A 10,A 11,A 12,(13,some [2,3]),A 14,(15,some [])] ?_;simp[go_sem,f0,a_,cY,eh,iG,qi,hB,qV,cx,fg,hC,kf,iu,gO,kJ];rw[show eM - 1=q by omega]at dZ;generalize swp L bY eM=oK at*;have kr:=(aJ.trans gX).drew;clear aJ gX gO kJ;obtain⟨bg,bP⟩:∃bg:(Nat->Value)->World->Prop,bg=λf u=>∃eM tD,partLoop lt a (bY+1) q oK=(eM,tD)/\tD.size=aQ/\eM<aQ/\f 0=dI blk aQ cap/\f 1=.int .i64 a/\f 11=.int .i64 eM/\dm (c' _) u blk tD/\D (aj blk) w u:=⟨_,rfl⟩;refine wq bg ?_ ?_
  ·refine du (λJ f u=>∃i j au,J=j+1 - i/\a<i/\a<=j/\j<aQ/\i<=600/\f 0=dI blk aQ cap/\f 1=.int .i64 a/\f 10=.int .i64 i/\f 11=.int .i64 j/\au.size=aQ/\dm (c' _) u blk au/\partLoop lt a i j au=partLoop lt a (bY+1) q oK/\D (aj blk) w u) (q+1 -(bY+1))
    ⟨bY+1,q,oK,rfl,by omega,by omega,by omega,by omega,by simp[f0],by simp[a_],by simp,by simp,eH,gi,rfl,kr⟩ ?_
   rintro cJ bK _ f u ⟨mJ,hA,au,rfl,Ix,aBa,aBb,aBc,f0,a_,cY,eh,r,an,cf,aJ⟩;have he:=partLoop_eq lt a mJ hA au;simp[go_sem];obtain⟨bg,bP⟩:∃bg:(Nat->Value)->World->Prop,bg=λf u=>∃bY,scanUp (λx=>lt x au[a]!) au hA mJ=bY/\mJ<=bY/\(bY<=mJ\/bY<=hA+1)/\f 0=dI blk aQ cap/\f 1=.int .i64 a/\f 10=.int .i64 bY/\f 11=.int .i64 hA/\dm (c' _) u blk au/\D (aj blk) w u:=⟨_,rfl⟩;refine wq bg ?_ ?_
   ·refine du (λJ f u=>∃i,J=hA+1 - i/\mJ<=i/\(i<=mJ\/i<=hA+1)/\f 0=dI blk aQ cap/\f 1=.int .i64 a/\f 10=.int .i64 i/\f 11=.int .i64 hA/\dm (c' _) u blk au/\scanUp (λx=>lt x au[a]!) au hA i=scanUp (λx=>lt x au[a]!) au hA mJ/\D (aj blk) w u) (hA+1 - mJ)
     ⟨mJ,rfl,Nat.le_refl _,.inl (Nat.le_refl _),by simp[f0,a_,cY,eh],by simp[f0,a_,cY,eh],by simp[f0,a_,cY,eh],by simp[f0,a_,cY,eh],an,rfl,aJ⟩ ?_
    rintro PZ Ah _ f u ⟨i,rfl,Ai,hF,f0,a_,cY,eh,an,cf,aJ⟩;have gO:=en ((i:Int)+1) (i+1) (by omega) (by omega);by_cases dR:i<=hA
    ·have gZ:(i:Int)<=hA:=by omega
     have iG:i<aQ:=by omega
     have gA:a<aQ:=by omega
     obtain⟨x,M,cx,qi,hC⟩:=rd an r iG;obtain⟨z,hz,mP,qh,ip⟩:=rd an r gA;simp[go_sem];refine cD [A 0,A 1,A 2,A 3,A 4,A 5,A 6,A 7,A 8,A 9,A 10,A 11,(12,some []),A 13] ?_;simp[go_sem,f0,a_,cY,eh,dR,gZ,iG,qi,gA,qh,cx,mP];refine(tC x z _).mono ?_;rintro _ ai ⟨rfl,hd⟩;subst ai
     cases al:lt x z with
     |true=>
      simp[go_sem,cY,gO];exact cH.intro (hA+1 -(i+1)) (by omega) (Ah _ _ _ ⟨i+1,rfl,by omega,by omega,by simp[f0],by simp[a_],by simp,by simp[eh],an,by rw[<-cf];conv=>{rhs;rw[scanUp]};simp[dR,M,hz,al],by(repeat apply D.drew);exact aJ⟩)
     |false=>
      simp[go_sem];rw[bP];exact⟨i,by rw[<-cf,scanUp];simp[M,hz,al],Ai,hF,by simp[f0],by simp[a_],by simp[cY],by simp[eh],an,by(repeat apply D.drew);exact aJ⟩
    ·have gZ:¬(i:Int)<=hA:=by omega
     simp[go_sem];refine cD [A 0,A 1,A 2,A 3,A 4,A 5,A 6,A 7,A 8,A 9,A 10,A 11,(12,some []),A 13] ?_;simp[go_sem,f0,a_,cY,eh,dR,gZ];rw[bP];exact⟨i,by rw[<-cf,scanUp];simp[dR],Ai,hF,by simp[f0],by simp[a_],by simp[cY],by simp[eh],an,by(repeat apply D.drew);exact aJ⟩
   rw[bP];clear bP bg f0 a_ cY eh an aJ f u;rintro f u ⟨bY,pw,Ai,Iw,f0,a_,cY,eh,an,aJ⟩;obtain⟨bg,bP⟩:∃bg:(Nat->Value)->World->Prop,bg=λf u=>∃eM,scanDown (λx=> !lt x au[a]!) au bY hA=eM/\eM<=hA/\a<=eM/\f 0=dI blk aQ cap/\f 1=.int .i64 a/\f 10=.int .i64 bY/\f 11=.int .i64 eM/\dm (c' _) u blk au/\D (aj blk) w u:=⟨_,rfl⟩;simp[go_sem];refine wq bg ?_ ?_
   ·refine du (λJ f u=>∃j,J=j+1/\j<=hA/\a<=j/\f 0=dI blk aQ cap/\f 1=.int .i64 a/\f 10=.int .i64 bY/\f 11=.int .i64 j/\dm (c' _) u blk au/\scanDown (λx=> !lt x au[a]!) au bY j=scanDown (λx=> !lt x au[a]!) au bY hA/\D (aj blk) w u) (hA+1)
     ⟨hA,rfl,Nat.le_refl _,by omega,f0,a_,cY,eh,an,rfl,aJ⟩ ?_
    clear f0 a_ cY eh an aJ f u;rintro PZ Ah _ f u ⟨j,rfl,Aj,yp,f0,a_,cY,eh,an,cf,aJ⟩;by_cases dR:bY<=j
    ·have gZ:(bY:Int)<=j:=by omega
     obtain⟨q,aq⟩:∃q,j=q+1:=⟨j - 1,by omega⟩;have kJ:=en ((j:Int) - 1) q (by omega) (by omega);have hB:j<aQ:=by omega
     have gA:a<aQ:=by omega
     obtain⟨x,M,cx,qV,hC⟩:=rd an r hB;obtain⟨z,hz,mP,qh,ip⟩:=rd an r gA;have lF:au[q+1]! =x:=by rw[<-aq];exact M
     have P_:bY<=q+1:=by omega
     simp[go_sem];refine cD [A 0,A 1,A 2,A 3,A 4,A 5,A 6,A 7,A 8,A 9,A 10,A 11,(12,some []),A 13,A 14] ?_;simp[go_sem,f0,a_,cY,eh,dR,gZ,hB,qV,gA,qh,cx,mP];refine(tC x z _).mono ?_;rintro _ ai ⟨rfl,hd⟩;subst ai
     cases al:lt x z with
     |false=>
      simp[go_sem,eh,kJ];exact cH.intro (q+1) (by omega) (Ah _ _ _ ⟨q,rfl,by omega,by omega,by simp[f0],by simp[a_],by simp[cY],by simp,an,by rw[<-cf,aq];conv=>{rhs;rw[scanDown]};simp[P_,lF,hz,al],by(repeat apply D.drew);exact aJ⟩)
     |true=>
      simp[go_sem];rw[bP];exact⟨j,by rw[<-cf,aq,scanDown];simp[lF,hz,al],Aj,yp,by simp[f0],by simp[a_],by simp[cY],by simp[eh],an,by(repeat apply D.drew);exact aJ⟩
    ·have gZ:¬(bY:Int)<=j:=by omega
     simp[go_sem];refine cD [A 0,A 1,A 2,A 3,A 4,A 5,A 6,A 7,A 8,A 9,A 10,A 11,(12,some []),A 13,A 14] ?_;simp[go_sem,f0,a_,cY,eh,dR,gZ];rw[bP];refine⟨j,?_,Aj,yp,by simp[f0],by simp[a_],by simp[cY],by simp[eh],an,by(repeat apply D.drew);exact aJ⟩;rw[<-cf]
     cases j with
     |zero=>rfl
     |succ q=>
      rw[scanDown];simp[dR]
   rw[bP];clear bP bg f0 a_ cY eh an aJ f u;rintro f u ⟨eM,mA,Aj,yp,f0,a_,cY,eh,an,aJ⟩;rw[pw,mA]at he;have gA:a<aQ:=by omega
   have hB:eM<aQ:=by omega
   have qV:(eM:Int)<aQ:=by omega
   by_cases Ak:bY>eM
   ·have Al:(eM:Int)<bY:=by omega
    rw[if_pos Ak]at he;simp[go_sem,cY,eh,Ak,Al];rw[bP];exact⟨eM,au,by rw[<-cf,he],r,hB,by simp[f0],by simp[a_],by simp[eh],an,aJ⟩
   have Al:¬(eM:Int)<bY:=by omega
   have Qa:¬eM<bY:=by omega
   rw[if_neg Ak]at he;have iG:bY<aQ:=by omega
   have qi:(bY:Int)<aQ:=by omega
   obtain⟨x,M,cx,_,hC⟩:=rd an r iG;obtain⟨y,ar,fg,_,kf⟩:=rd an r hB;obtain⟨gi,eH,gX⟩:=sI an r iG hB M ar;simp only[mm,mn]at gi gX;obtain⟨rB,iu⟩:=Ce an r hB bY y;simp only[mm,mn]at iu;obtain⟨q,aq⟩:∃q,eM=q+1:=⟨eM - 1,by omega⟩;have gO:=en ((bY:Int)+1) (bY+1) (by omega) (by omega);have kJ:=en ((eM:Int) - 1) q (by omega) (by omega);rw[show eM - 1=q by omega]at he;simp[go_sem,cY,eh,Al,Qa];refine cD [A 0,A 1,A 2,A 3,A 4,A 5,A 6,A 7,A 8,A 9,A 10,A 11,A 12,(13,some [2,3]),A 14,(15,some [])] ?_;simp[go_sem,f0,a_,cY,eh,iG,qi,hB,qV,cx,fg,hC,kf,iu,gO,kJ];exact cH.intro (q+1 -(bY+1)) (by omega) (bK _ _ _ ⟨bY+1,q,_,rfl,by omega,by omega,by omega,by omega,by simp[f0],by simp[a_],by simp,by simp,eH,gi,by rw[<-cf,he],by(repeat apply D.drew);exact aJ.trans gX⟩)
  ·rw[bP];clear bP bg;rintro f u ⟨eM,tD,bT,r,hB,f0,a_,eh,an,aJ⟩;rw[bT]at dZ;rw[dZ]at Z;have qV:(eM:Int)<aQ:=by omega
   obtain⟨x,M,cx,_,hC⟩:=rd an r hB;obtain⟨y,ar,fg,_,kf⟩:=rd an r gA;obtain⟨gi,eH,gX⟩:=sI an r hB gA M ar;simp only[mm,mn]at gi gX;obtain⟨rB,iu⟩:=Ce an r gA eM y;simp only[mm,mn]at iu;simp[go_sem];refine cD [A 0,A 1,A 2,A 3,A 4,A 5,A 6,A 7,A 8,A 9,A 10,A 11,A 12,(13,some [2,3]),A 14,(15,some [])] ?_;simp[go_sem,f0,a_,eh,gA,qh,hB,qV,cx,fg,hC,kf,iu];exact Z _ _ ⟨rfl,gi,by(repeat apply D.drew);exact aJ.trans gX⟩
theorem alg(h:dm (c' _) w blk d)(a b qT cap:Nat)(xk:a<=qT)(aA':qT<b)(V:b<=d.size)(cL:d.size<=255):
  aP Tryz.prog (alh d) #[dI blk d.size cap,.int .i64 a,.int .i64 b,.int .i64 qT] w λW w'=>W=.int .i64 (partitionEqual lt d a b qT).1/\dm (c' _) w' blk (partitionEqual lt d a b qT).2/\D (aj blk) w w':=by
 cases bb
 all_goals
  first|refine bn Tryz.func230 Tryz.ntmps230 λaZ Z=> ?_|refine bn Tryz.func278 Tryz.ntmps278 λaZ Z=> ?_
  obtain⟨aQ,dE⟩:=az (d.size);rw[dE]at V cL⊢;have gA:a<aQ:=by omega
  have jA:qT<aQ:=by omega
  obtain⟨x,M,cx,qh,hC⟩:=rd h dE gA;obtain⟨y,ar,fg,qU,kf⟩:=rd h dE jA;obtain⟨an,r,Fo⟩:=sI h dE gA jA M ar;simp only[mm,mn]at an Fo;obtain⟨rB,iu⟩:=Ce h dE jA a y;simp only[mm,mn]at iu;obtain⟨ba,db⟩:=az (b - 1);have rF:=en ((a:Int)+1) (a+1) (by omega) (by omega);have PY:=en ((b:Int) - 1) ba (by omega) (by omega);simp[go_sem];refine cD [A 0,A 1,A 2,A 3,A 4,A 5,A 6,A 7,A 8,A 9,A 10,A 11,A 12,(13,some [2,3]),A 14,(15,some [])] ?_;simp[go_sem,gA,qh,jA,qU,cx,fg,hC,kf,iu,rF,PY];obtain⟨L,dS⟩:=az (swp d a qT);rw[dS]at an r;have dZ:partitionEqual lt d a b qT=partEqLoop lt a (a+1) ba L:=by
   rw[<-dS,<-db];rfl
  have kr:=Fo.drew;clear Fo;obtain⟨bg,bP⟩:∃bg:(Nat->Value)->World->Prop,bg=λf u=>∃bY tD,partEqLoop lt a (a+1) ba L=(bY,tD)/\f 9=.int .i64 (bY:Nat)/\dm (c' _) u blk tD/\D (aj blk) w u:=⟨_,rfl⟩;refine wq bg ?_ ?_
  ·refine du (λJ f u=>∃i j au,J=j+1 - i/\a<i/\a<=j/\j<aQ/\i<=600/\f 0=dI blk aQ cap/\f 1=.int .i64 a/\f 9=.int .i64 i/\f 10=.int .i64 j/\au.size=aQ/\dm (c' _) u blk au/\partEqLoop lt a i j au=partEqLoop lt a (a+1) ba L/\D (aj blk) w u) (ba+1 -(a+1))
    ⟨a+1,ba,L,rfl,by omega,by omega,by omega,by omega,by simp,by simp,by simp,by simp,r,an,rfl,kr⟩ ?_
   clear kr an cx fg hC kf iu r;rintro cJ bK _ f u ⟨mJ,hA,au,rfl,Ix,aBa,aBb,aBc,f0,a_,cY,eh,r,an,cf,aJ⟩;have he:=partEqLoop_eq lt a mJ hA au;simp[go_sem];obtain⟨bg,bP⟩:∃bg:(Nat->Value)->World->Prop,bg=λf u=>∃bY,scanUp (λx=> !lt au[a]! x) au hA mJ=bY/\mJ<=bY/\(bY<=mJ\/bY<=hA+1)/\f 0=dI blk aQ cap/\f 1=.int .i64 a/\f 9=.int .i64 bY/\f 10=.int .i64 hA/\dm (c' _) u blk au/\D (aj blk) w u:=⟨_,rfl⟩;refine wq bg ?_ ?_
   ·refine du (λJ f u=>∃i,J=hA+1 - i/\mJ<=i/\(i<=mJ\/i<=hA+1)/\f 0=dI blk aQ cap/\f 1=.int .i64 a/\f 9=.int .i64 i/\f 10=.int .i64 hA/\dm (c' _) u blk au/\scanUp (λx=> !lt au[a]! x) au hA i=scanUp (λx=> !lt au[a]! x) au hA mJ/\D (aj blk) w u) (hA+1 - mJ)
     ⟨mJ,rfl,Nat.le_refl _,.inl (Nat.le_refl _),by simp[f0,a_,cY,eh],by simp[f0,a_,cY,eh],by simp[f0,a_,cY,eh],by simp[f0,a_,cY,eh],an,rfl,aJ⟩ ?_
    rintro PZ Ah _ f u ⟨i,rfl,Ai,hF,f0,a_,cY,eh,an,cf,aJ⟩;have gO:=en ((i:Int)+1) (i+1) (by omega) (by omega);by_cases dR:i<=hA
    ·have gZ:(i:Int)<=hA:=by omega
     have iG:i<aQ:=by omega
     have gA:a<aQ:=by omega
     obtain⟨x,M,cx,qi,hC⟩:=rd an r iG;obtain⟨z,hz,mP,qh,ip⟩:=rd an r gA;simp[go_sem];refine cD [A 0,A 1,A 2,A 3,A 4,A 5,A 6,A 7,A 8,A 9,A 10,A 11,(12,some []),A 13,A 14] ?_;simp[go_sem,f0,a_,cY,eh,dR,gZ,iG,qi,gA,qh,cx,mP];refine(tC z x _).mono ?_;rintro _ ai ⟨rfl,hd⟩;subst ai
     cases al:lt z x with
     |false=>
      simp[go_sem,cY,gO];exact cH.intro (hA+1 -(i+1)) (by omega) (Ah _ _ _ ⟨i+1,rfl,by omega,by omega,by simp[f0],by simp[a_],by simp,by simp[eh],an,by rw[<-cf];conv=>{rhs;rw[scanUp]};simp[dR,M,hz,al],by(repeat apply D.drew);exact aJ⟩)
     |true=>
      simp[go_sem];rw[bP];exact⟨i,by rw[<-cf,scanUp];simp[M,hz,al],Ai,hF,by simp[f0],by simp[a_],by simp[cY],by simp[eh],an,by(repeat apply D.drew);exact aJ⟩
    ·have gZ:¬(i:Int)<=hA:=by omega
     simp[go_sem];refine cD [A 0,A 1,A 2,A 3,A 4,A 5,A 6,A 7,A 8,A 9,A 10,A 11,(12,some []),A 13,A 14] ?_;simp[go_sem,f0,a_,cY,eh,dR,gZ];rw[bP];exact⟨i,by rw[<-cf,scanUp];simp[dR],Ai,hF,by simp[f0],by simp[a_],by simp[cY],by simp[eh],an,by(repeat apply D.drew);exact aJ⟩
   rw[bP];clear bP bg f0 a_ cY eh an aJ f u;rintro f u ⟨bY,pw,Ai,Iw,f0,a_,cY,eh,an,aJ⟩;obtain⟨bg,bP⟩:∃bg:(Nat->Value)->World->Prop,bg=λf u=>∃eM,scanDown (λx=>lt au[a]! x) au bY hA=eM/\eM<=hA/\a<=eM/\f 0=dI blk aQ cap/\f 1=.int .i64 a/\f 9=.int .i64 bY/\f 10=.int .i64 eM/\dm (c' _) u blk au/\D (aj blk) w u:=⟨_,rfl⟩;simp[go_sem];refine wq bg ?_ ?_
   ·refine du (λJ f u=>∃j,J=j+1/\j<=hA/\a<=j/\f 0=dI blk aQ cap/\f 1=.int .i64 a/\f 9=.int .i64 bY/\f 10=.int .i64 j/\dm (c' _) u blk au/\scanDown (λx=>lt au[a]! x) au bY j=scanDown (λx=>lt au[a]! x) au bY hA/\D (aj blk) w u) (hA+1)
     ⟨hA,rfl,Nat.le_refl _,by omega,f0,a_,cY,eh,an,rfl,aJ⟩ ?_
    clear f0 a_ cY eh an aJ f u;rintro PZ Ah _ f u ⟨j,rfl,Aj,yp,f0,a_,cY,eh,an,cf,aJ⟩;by_cases dR:bY<=j
    ·have gZ:(bY:Int)<=j:=by omega
     obtain⟨q,aq⟩:∃q,j=q+1:=⟨j - 1,by omega⟩;have kJ:=en ((j:Int) - 1) q (by omega) (by omega);have hB:j<aQ:=by omega
     have gA:a<aQ:=by omega
     obtain⟨x,M,cx,qV,hC⟩:=rd an r hB;obtain⟨z,hz,mP,qh,ip⟩:=rd an r gA;have lF:au[q+1]! =x:=by rw[<-aq];exact M
     have P_:bY<=q+1:=by omega
     simp[go_sem];refine cD [A 0,A 1,A 2,A 3,A 4,A 5,A 6,A 7,A 8,A 9,A 10,A 11,(12,some []),A 13] ?_;simp[go_sem,f0,a_,cY,eh,dR,gZ,hB,qV,gA,qh,cx,mP];refine(tC z x _).mono ?_;rintro _ ai ⟨rfl,hd⟩;subst ai
     cases al:lt z x with
     |true=>
      simp[go_sem,eh,kJ];exact cH.intro (q+1) (by omega) (Ah _ _ _ ⟨q,rfl,by omega,by omega,by simp[f0],by simp[a_],by simp[cY],by simp,an,by rw[<-cf,aq];conv=>{rhs;rw[scanDown]};simp[P_,lF,hz,al],by(repeat apply D.drew);exact aJ⟩)
     |false=>
      simp[go_sem];rw[bP];exact⟨j,by rw[<-cf,aq,scanDown];simp[lF,hz,al],Aj,yp,by simp[f0],by simp[a_],by simp[cY],by simp[eh],an,by(repeat apply D.drew);exact aJ⟩
    ·have gZ:¬(bY:Int)<=j:=by omega
     simp[go_sem];refine cD [A 0,A 1,A 2,A 3,A 4,A 5,A 6,A 7,A 8,A 9,A 10,A 11,(12,some []),A 13] ?_;simp[go_sem,f0,a_,cY,eh,dR,gZ];rw[bP];refine⟨j,?_,Aj,yp,by simp[f0],by simp[a_],by simp[cY],by simp[eh],an,by(repeat apply D.drew);exact aJ⟩;rw[<-cf]
     cases j with
     |zero=>rfl
     |succ q=>
      rw[scanDown];simp[dR]
   rw[bP];clear bP bg f0 a_ cY eh an aJ f u;rintro f u ⟨eM,mA,Aj,yp,f0,a_,cY,eh,an,aJ⟩;rw[pw,mA]at he;have hB:eM<aQ:=by omega
   have qV:(eM:Int)<aQ:=by omega
   by_cases Ak:bY>eM
   ·have Al:(eM:Int)<bY:=by omega
    rw[if_pos Ak]at he;simp[go_sem,cY,eh,Ak,Al];rw[bP];exact⟨bY,au,by rw[<-cf,he],by simp[cY],an,aJ⟩
   have Al:¬(eM:Int)<bY:=by omega
   have Qa:¬eM<bY:=by omega
   rw[if_neg Ak]at he;have iG:bY<aQ:=by omega
   have qi:(bY:Int)<aQ:=by omega
   obtain⟨x,M,cx,_,hC⟩:=rd an r iG;obtain⟨y,ar,fg,_,kf⟩:=rd an r hB;obtain⟨gi,eH,gX⟩:=sI an r iG hB M ar;simp only[mm,mn]at gi gX;obtain⟨rB,iu⟩:=Ce an r hB bY y;simp only[mm,mn]at iu;obtain⟨q,aq⟩:∃q,eM=q+1:=⟨eM - 1,by omega⟩;have gO:=en ((bY:Int)+1) (bY+1) (by omega) (by omega);have kJ:=en ((eM:Int) - 1) q (by omega) (by omega);rw[show eM - 1=q by omega]at he;simp[go_sem,cY,eh,Al,Qa];refine cD [A 0,A 1,A 2,A 3,A 4,A 5,A 6,A 7,A 8,A 9,A 10,A 11,A 12,(13,some [2,3]),A 14,(15,some [])] ?_;simp[go_sem,f0,a_,cY,eh,iG,qi,hB,qV,cx,fg,hC,kf,iu,gO,kJ];exact cH.intro (q+1 -(bY+1)) (by omega) (bK _ _ _ ⟨bY+1,q,_,rfl,by omega,by omega,by omega,by omega,by simp[f0],by simp[a_],by simp,by simp,eH,gi,by rw[<-cf,he],by(repeat apply D.drew);exact aJ.trans gX⟩)
  ·rw[bP];rintro f u ⟨bY,tD,bT,cY,an,aJ⟩;rw[dZ,bT]at Z;simp[go_sem,cY];exact Z _ _ ⟨rfl,an,aJ⟩
end
end Go.Proofs.YtoohkhcpboldjaaGreatDoor.SS
