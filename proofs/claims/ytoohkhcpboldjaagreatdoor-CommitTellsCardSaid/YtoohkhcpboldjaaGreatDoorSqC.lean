/- Whole numbers sorted: the partitions. No condition. -/
import Derived.Test.YtoohkhcpboldjaaGreatDoorSqD
set_option maxRecDepth 100000
set_option maxHeartbeats 16000000
set_option linter.unusedSimpArgs false
set_option linter.unusedVariables false
namespace Go.Proofs.YtoohkhcpboldjaaGreatDoor.SS
open Go.RowKit Go.Kin Go.Maps Go.Sort Tryz
variable {bb:Bool}
section
variable {w u:M}{blk bd i j:Nat}{d aB:Array (E bb)}{x y:(E bb)}
theorem atd(h:dM (df _) w blk d)(a b sT cap:Nat)(AI:a<=sT)(aKh:sT<b)(ab:b<=d.size)(cU:d.size<=255):
  bc prog (ate d) #[dR blk d.size cap,aa a,aa b,aa sT] w λv' w'=>v'=.tuple #[aa (Sort.partition lt d a b sT).1,.bool (Sort.partition lt d a b sT).2.1]/\dM (df _) w' blk (Sort.partition lt d a b sT).2.2/\H (aj blk) w w':=by
 have pe:=partLoop_eq (lt (bb:=bb))
 cases bb
 all_goals
  first|refine bz func231 ntmps231 λbk af=> ?_|refine bz func279 ntmps279 λbk af=> ?_
  obtain⟨bd,dO⟩:=aD (d.size);rw[dO]at ab cU⊢;have hu:a<bd:=by omega
  have kt:sT<bd:=by omega
  obtain⟨x,W,cx,rY,iG⟩:=rd h dO hu;obtain⟨y,ar,fI,sU,lg⟩:=rd h dO kt;obtain⟨ap,r,Kd⟩:=uX h dO hu kt W ar;simp only[nr,ns]at ap Kd;obtain⟨sp,ju⟩:=FN h dO kt a y;simp only[nr,ns]at ju;obtain⟨bt,cZ⟩:=aD (b - 1);have j_:=eN ((a:Int)+1) (a+1) (by omega) (by omega);have VV:=eN ((b:Int) - 1) bt (by omega) (by omega);simp[go_sem];refine cT [F 0,F 1,F 2,F 3,F 4,F 5,F 6,F 7,F 8,F 9,F 10,F 11,F 12,(13,some [2,3]),F 14,(15,some [])] ?_;simp[go_sem,hu,rY,kt,sU,cx,fI,iG,lg,ju,j_,VV];obtain⟨D,dX⟩:=aD (swp d a sT);rw[dX]at ap r;have fg:Sort.partition lt d a b sT=if scanUp (λx=>lt x D[a]!) D bt (a+1)>scanDown (λx=> !lt x D[a]!) D (scanUp (λx=>lt x D[a]!) D bt (a+1)) bt then(scanDown (λx=> !lt x D[a]!) D (scanUp (λx=>lt x D[a]!) D bt (a+1)) bt,true,swp D (scanDown (λx=> !lt x D[a]!) D (scanUp (λx=>lt x D[a]!) D bt (a+1)) bt) a)else
    ((partLoop lt a (scanUp (λx=>lt x D[a]!) D bt (a+1)+1) (scanDown (λx=> !lt x D[a]!) D (scanUp (λx=>lt x D[a]!) D bt (a+1)) bt - 1) (swp D (scanUp (λx=>lt x D[a]!) D bt (a+1)) (scanDown (λx=> !lt x D[a]!) D (scanUp (λx=>lt x D[a]!) D bt (a+1)) bt))).1,false,swp (partLoop lt a (scanUp (λx=>lt x D[a]!) D bt (a+1)+1) (scanDown (λx=> !lt x D[a]!) D (scanUp (λx=>lt x D[a]!) D bt (a+1)) bt - 1) (swp D (scanUp (λx=>lt x D[a]!) D bt (a+1)) (scanDown (λx=> !lt x D[a]!) D (scanUp (λx=>lt x D[a]!) D bt (a+1)) bt))).2 (partLoop lt a (scanUp (λx=>lt x D[a]!) D bt (a+1)+1) (scanDown (λx=> !lt x D[a]!) D (scanUp (λx=>lt x D[a]!) D bt (a+1)) bt - 1) (swp D (scanUp (λx=>lt x D[a]!) D bt (a+1)) (scanDown (λx=> !lt x D[a]!) D (scanUp (λx=>lt x D[a]!) D bt (a+1)) bt))).1 a):=by
   rw[<-dX,<-cZ];rfl
  clear cx fI iG lg ju dX W ar;revert ap Kd;generalize(w.setCell ⟨blk,a,none⟩ _).setCell ⟨blk,sT,none⟩ _=u;intro aS ap;replace ap:=ap.drew;replace aS:=aS.drew;obtain⟨bq,bW⟩:∃bq:(Nat->N)->M->Prop,bq=λf u=>∃cf,scanUp (λx=>lt x D[a]!) D bt (a+1)=cf/\(a+1)<=cf/\(cf<=(a+1)\/cf<=bt+1)/\f 0=dR blk bd cap/\f 1=aa a/\f 10=aa cf/\f 11=aa bt/\dM (df _) u blk D/\H (aj blk) w u:=⟨_,rfl⟩;refine zR bq ?_ ?_
  ·refine di (λV f u=>∃i,V=bt+1 - i/\(a+1)<=i/\(i<=(a+1)\/i<=bt+1)/\f 0=dR blk bd cap/\f 1=aa a/\f 10=aa i/\f 11=aa bt/\dM (df _) u blk D/\scanUp (λx=>lt x D[a]!) D bt i=scanUp (λx=>lt x D[a]!) D bt (a+1)/\H (aj blk) w u) (bt+1 -(a+1))
    ⟨(a+1),rfl,c_ _,.inl (c_ _),by simp[dO],by simp[dO],by simp[dO],by simp[dO],ap,rfl,aS⟩ ?_
   rintro VW DC _ f u ⟨i,rfl,DD,iT,f0,aW,dq,eH,ap,cl,aS⟩;have eQ:=eN ((i:Int)+1) (i+1) (by omega) (by omega);by_cases eh:i<=bt
   ·have ie:(i:Int)<=bt:=by omega
    have hJ:i<bd:=by omega
    have hu:a<bd:=by omega
    obtain⟨x,W,cx,rZ,iG⟩:=rd ap r hJ;obtain⟨z,hz,kS,rY,js⟩:=rd ap r hu;simp[go_sem];refine cT [F 0,F 1,F 2,F 3,F 4,F 5,F 6,F 7,F 8,F 9,F 10,F 11,(12,some []),F 13] ?_;simp[go_sem,f0,aW,dq,eH,eh,ie,hJ,rZ,hu,rY,cx,kS];refine(vX x z _).mono ?_;rintro _ an ⟨rfl,ii⟩;subst an
    cases ak:lt x z with
    |true=>
     simp[go_sem,dq,eQ];exact ct.intro (bt+1 -(i+1)) (by omega) (DC _ _ _ ⟨i+1,rfl,by omega,by omega,by simp[f0],by simp[aW],by simp,by simp[eH],ap,by rw[<-cl];conv=>{rhs;rw[scanUp]};simp[eh,W,hz,ak],by(repeat apply H.drew);exact aS⟩)
    |false=>
     simp[go_sem];rw[bW];exact⟨i,by rw[<-cl,scanUp];simp[W,hz,ak],DD,iT,by simp[f0],by simp[aW],by simp[dq],by simp[eH],ap,by(repeat apply H.drew);exact aS⟩
   ·have ie:¬(i:Int)<=bt:=by omega
    simp[go_sem];refine cT [F 0,F 1,F 2,F 3,F 4,F 5,F 6,F 7,F 8,F 9,F 10,F 11,(12,some []),F 13] ?_;simp[go_sem,f0,aW,dq,eH,eh,ie];rw[bW];exact⟨i,by rw[<-cl,scanUp];simp[eh],DD,iT,by simp[f0],by simp[aW],by simp[dq],by simp[eH],ap,by(repeat apply H.drew);exact aS⟩
  rw[bW];clear bW bq ap aS u;rintro f u ⟨cf,q_,DD,yl,f0,aW,dq,eH,ap,aS⟩;obtain⟨bq,bW⟩:∃bq:(Nat->N)->M->Prop,bq=λf u=>∃fl,scanDown (λx=> !lt x D[a]!) D cf bt=fl/\fl<=bt/\a<=fl/\f 0=dR blk bd cap/\f 1=aa a/\f 10=aa cf/\f 11=aa fl/\dM (df _) u blk D/\H (aj blk) w u:=⟨_,rfl⟩;simp[go_sem];refine zR bq ?_ ?_
  ·refine di (λV f u=>∃j,V=j+1/\j<=bt/\a<=j/\f 0=dR blk bd cap/\f 1=aa a/\f 10=aa cf/\f 11=aa j/\dM (df _) u blk D/\scanDown (λx=> !lt x D[a]!) D cf j=scanDown (λx=> !lt x D[a]!) D cf bt/\H (aj blk) w u) (bt+1)
    ⟨bt,rfl,c_ _,by omega,f0,aW,dq,eH,ap,rfl,aS⟩ ?_
   clear f0 aW dq eH ap aS f u;rintro VW DC _ f u ⟨j,rfl,DE,BM,f0,aW,dq,eH,ap,cl,aS⟩;by_cases eh:cf<=j
   ·have ie:(cf:Int)<=j:=by omega
    obtain⟨q,au⟩:∃q,j=q+1:=⟨j - 1,by omega⟩;have hN:=eN ((j:Int) - 1) q (by omega) (by omega);have iF:j<bd:=by omega
    have hu:a<bd:=by omega
    obtain⟨x,W,cx,sV,iG⟩:=rd ap r iF;obtain⟨z,hz,kS,rY,js⟩:=rd ap r hu;have lr:D[q+1]! =x:=by rw[<-au];exact W
    have VX:cf<=q+1:=by omega
    simp[go_sem];refine cT [F 0,F 1,F 2,F 3,F 4,F 5,F 6,F 7,F 8,F 9,F 10,F 11,(12,some []),F 13,F 14] ?_;simp[go_sem,f0,aW,dq,eH,eh,ie,iF,sV,hu,rY,cx,kS];refine(vX x z _).mono ?_;rintro _ an ⟨rfl,ii⟩;subst an
    cases ak:lt x z with
    |false=>
     simp[go_sem,eH,hN];exact ct.intro (q+1) (by omega) (DC _ _ _ ⟨q,rfl,by omega,by omega,by simp[f0],by simp[aW],by simp[dq],by simp,ap,by rw[<-cl,au];conv=>{rhs;rw[scanDown]};simp[VX,lr,hz,ak],by(repeat apply H.drew);exact aS⟩)
    |true=>
     simp[go_sem];rw[bW];exact⟨j,by rw[<-cl,au,scanDown];simp[lr,hz,ak],DE,BM,by simp[f0],by simp[aW],by simp[dq],by simp[eH],ap,by(repeat apply H.drew);exact aS⟩
   ·have ie:¬(cf:Int)<=j:=by omega
    simp[go_sem];refine cT [F 0,F 1,F 2,F 3,F 4,F 5,F 6,F 7,F 8,F 9,F 10,F 11,(12,some []),F 13,F 14] ?_;simp[go_sem,f0,aW,dq,eH,eh,ie];rw[bW];refine⟨j,?_,DE,BM,by simp[f0],by simp[aW],by simp[dq],by simp[eH],ap,by(repeat apply H.drew);exact aS⟩;rw[<-cl]
    cases j with
    |zero=>rfl
    |succ q=>
     rw[scanDown];simp[eh]
  rw[bW];clear bW bq f0 aW dq eH ap aS f u;rintro f u ⟨fl,pR,DE,BM,f0,aW,dq,eH,ap,aS⟩;rw[q_,pR]at fg;have hu:a<bd:=by omega
  have rY:(a:Int)<bd:=by omega
  have iF:fl<bd:=by omega
  have sV:(fl:Int)<bd:=by omega
  by_cases DF:cf>fl
  ·have DG:(fl:Int)<cf:=by omega
   rw[be DF]at fg;rw[fg]at af;obtain⟨x,W,cx,_,iG⟩:=rd ap r iF;obtain⟨y,ar,fI,_,lg⟩:=rd ap r hu;obtain⟨hi,fH,ia⟩:=uX ap r iF hu W ar;simp only[nr,ns]at hi ia;obtain⟨sp,ju⟩:=FN ap r hu fl y;simp only[nr,ns]at ju;simp[go_sem,dq,eH,DF,DG];refine cT [F 0,F 1,F 2,F 3,F 4,F 5,F 6,F 7,F 8,F 9,F 10,F 11,F 12,(13,some [2,3]),F 14,(15,some [])] ?_;simp[go_sem,f0,aW,eH,hu,rY,iF,sV,cx,fI,iG,lg,ju];exact af _ _ ⟨rfl,hi,by(repeat apply H.drew);exact aS.trans ia⟩
  have DG:¬(fl:Int)<cf:=by omega
  have VY:¬fl<cf:=by omega
  rw[aQ DF]at fg;have hJ:cf<bd:=by omega
  have rZ:(cf:Int)<bd:=by omega
  obtain⟨x,W,cx,_,iG⟩:=rd ap r hJ;obtain⟨y,ar,fI,_,lg⟩:=rd ap r iF;obtain⟨hi,fH,ia⟩:=uX ap r hJ iF W ar;simp only[nr,ns]at hi ia;obtain⟨sp,ju⟩:=FN ap r iF cf y;simp only[nr,ns]at ju;obtain⟨q,au⟩:∃q,fl=q+1:=⟨fl - 1,by omega⟩;have eQ:=eN ((cf:Int)+1) (cf+1) (by omega) (by omega);have hN:=eN ((fl:Int) - 1) q (by omega) (by omega);simp[go_sem,dq,eH,DG,VY];refine cT [F 0,F 1,F 2,F 3,F 4,F 5,F 6,F 7,F 8,F 9,F 10,F 11,F 12,(13,some [2,3]),F 14,(15,some [])] ?_;simp[go_sem,f0,aW,dq,eH,hJ,rZ,iF,sV,cx,fI,iG,lg,ju,eQ,hN];rw[show fl - 1=q by omega]at fg;generalize swp D cf fl=qn at*;have kJ:=(aS.trans ia).drew;clear aS ia eQ hN;obtain⟨bq,bW⟩:∃bq:(Nat->N)->M->Prop,bq=λf u=>∃fl vY,partLoop lt a (cf+1) q qn=(fl,vY)/\vY.size=bd/\fl<bd/\f 0=dR blk bd cap/\f 1=aa a/\f 11=aa fl/\dM (df _) u blk vY/\H (aj blk) w u:=⟨_,rfl⟩;refine zR bq ?_ ?_
  ·refine di (λV f u=>∃i j aB,V=j+1 - i/\a<i/\a<=j/\j<bd/\i<=600/\f 0=dR blk bd cap/\f 1=aa a/\f 10=aa i/\f 11=aa j/\aB.size=bd/\dM (df _) u blk aB/\partLoop lt a i j aB=partLoop lt a (cf+1) q qn/\H (aj blk) w u) (q+1 -(cf+1))
    ⟨cf+1,q,qn,rfl,by omega,by omega,by omega,by omega,by simp[f0],by simp[aW],by simp,by simp,fH,hi,rfl,kJ⟩ ?_
   rintro cQ bJ _ f u ⟨nX,iE,aB,rfl,NM,aKi,aKj,aKk,f0,aW,dq,eH,r,ap,cl,aS⟩;have hx:=partLoop_eq lt a nX iE aB;simp[go_sem];obtain⟨bq,bW⟩:∃bq:(Nat->N)->M->Prop,bq=λf u=>∃cf,scanUp (λx=>lt x aB[a]!) aB iE nX=cf/\nX<=cf/\(cf<=nX\/cf<=iE+1)/\f 0=dR blk bd cap/\f 1=aa a/\f 10=aa cf/\f 11=aa iE/\dM (df _) u blk aB/\H (aj blk) w u:=⟨_,rfl⟩;refine zR bq ?_ ?_
   ·refine di (λV f u=>∃i,V=iE+1 - i/\nX<=i/\(i<=nX\/i<=iE+1)/\f 0=dR blk bd cap/\f 1=aa a/\f 10=aa i/\f 11=aa iE/\dM (df _) u blk aB/\scanUp (λx=>lt x aB[a]!) aB iE i=scanUp (λx=>lt x aB[a]!) aB iE nX/\H (aj blk) w u) (iE+1 - nX)
     ⟨nX,rfl,c_ _,.inl (c_ _),by simp[f0,aW,dq,eH],by simp[f0,aW,dq,eH],by simp[f0,aW,dq,eH],by simp[f0,aW,dq,eH],ap,rfl,aS⟩ ?_
    rintro VW DC _ f u ⟨i,rfl,DD,iT,f0,aW,dq,eH,ap,cl,aS⟩;have eQ:=eN ((i:Int)+1) (i+1) (by omega) (by omega);by_cases eh:i<=iE
    ·have ie:(i:Int)<=iE:=by omega
     have hJ:i<bd:=by omega
     have hu:a<bd:=by omega
     obtain⟨x,W,cx,rZ,iG⟩:=rd ap r hJ;obtain⟨z,hz,kS,rY,js⟩:=rd ap r hu;simp[go_sem];refine cT [F 0,F 1,F 2,F 3,F 4,F 5,F 6,F 7,F 8,F 9,F 10,F 11,(12,some []),F 13] ?_;simp[go_sem,f0,aW,dq,eH,eh,ie,hJ,rZ,hu,rY,cx,kS];refine(vX x z _).mono ?_;rintro _ an ⟨rfl,ii⟩;subst an
     cases ak:lt x z with
     |true=>
      simp[go_sem,dq,eQ];exact ct.intro (iE+1 -(i+1)) (by omega) (DC _ _ _ ⟨i+1,rfl,by omega,by omega,by simp[f0],by simp[aW],by simp,by simp[eH],ap,by rw[<-cl];conv=>{rhs;rw[scanUp]};simp[eh,W,hz,ak],by(repeat apply H.drew);exact aS⟩)
     |false=>
      simp[go_sem];rw[bW];exact⟨i,by rw[<-cl,scanUp];simp[W,hz,ak],DD,iT,by simp[f0],by simp[aW],by simp[dq],by simp[eH],ap,by(repeat apply H.drew);exact aS⟩
    ·have ie:¬(i:Int)<=iE:=by omega
     simp[go_sem];refine cT [F 0,F 1,F 2,F 3,F 4,F 5,F 6,F 7,F 8,F 9,F 10,F 11,(12,some []),F 13] ?_;simp[go_sem,f0,aW,dq,eH,eh,ie];rw[bW];exact⟨i,by rw[<-cl,scanUp];simp[eh],DD,iT,by simp[f0],by simp[aW],by simp[dq],by simp[eH],ap,by(repeat apply H.drew);exact aS⟩
   rw[bW];clear bW bq f0 aW dq eH ap aS f u;rintro f u ⟨cf,q_,DD,yl,f0,aW,dq,eH,ap,aS⟩;obtain⟨bq,bW⟩:∃bq:(Nat->N)->M->Prop,bq=λf u=>∃fl,scanDown (λx=> !lt x aB[a]!) aB cf iE=fl/\fl<=iE/\a<=fl/\f 0=dR blk bd cap/\f 1=aa a/\f 10=aa cf/\f 11=aa fl/\dM (df _) u blk aB/\H (aj blk) w u:=⟨_,rfl⟩;simp[go_sem];refine zR bq ?_ ?_
   ·refine di (λV f u=>∃j,V=j+1/\j<=iE/\a<=j/\f 0=dR blk bd cap/\f 1=aa a/\f 10=aa cf/\f 11=aa j/\dM (df _) u blk aB/\scanDown (λx=> !lt x aB[a]!) aB cf j=scanDown (λx=> !lt x aB[a]!) aB cf iE/\H (aj blk) w u) (iE+1)
     ⟨iE,rfl,c_ _,by omega,f0,aW,dq,eH,ap,rfl,aS⟩ ?_
    clear f0 aW dq eH ap aS f u;rintro VW DC _ f u ⟨j,rfl,DE,BM,f0,aW,dq,eH,ap,cl,aS⟩;by_cases eh:cf<=j
    ·have ie:(cf:Int)<=j:=by omega
     obtain⟨q,au⟩:∃q,j=q+1:=⟨j - 1,by omega⟩;have hN:=eN ((j:Int) - 1) q (by omega) (by omega);have iF:j<bd:=by omega
     have hu:a<bd:=by omega
     obtain⟨x,W,cx,sV,iG⟩:=rd ap r iF;obtain⟨z,hz,kS,rY,js⟩:=rd ap r hu;have lr:aB[q+1]! =x:=by rw[<-au];exact W
     have VX:cf<=q+1:=by omega
     simp[go_sem];refine cT [F 0,F 1,F 2,F 3,F 4,F 5,F 6,F 7,F 8,F 9,F 10,F 11,(12,some []),F 13,F 14] ?_;simp[go_sem,f0,aW,dq,eH,eh,ie,iF,sV,hu,rY,cx,kS];refine(vX x z _).mono ?_;rintro _ an ⟨rfl,ii⟩;subst an
     cases ak:lt x z with
     |false=>
      simp[go_sem,eH,hN];exact ct.intro (q+1) (by omega) (DC _ _ _ ⟨q,rfl,by omega,by omega,by simp[f0],by simp[aW],by simp[dq],by simp,ap,by rw[<-cl,au];conv=>{rhs;rw[scanDown]};simp[VX,lr,hz,ak],by(repeat apply H.drew);exact aS⟩)
     |true=>
      simp[go_sem];rw[bW];exact⟨j,by rw[<-cl,au,scanDown];simp[lr,hz,ak],DE,BM,by simp[f0],by simp[aW],by simp[dq],by simp[eH],ap,by(repeat apply H.drew);exact aS⟩
    ·have ie:¬(cf:Int)<=j:=by omega
     simp[go_sem];refine cT [F 0,F 1,F 2,F 3,F 4,F 5,F 6,F 7,F 8,F 9,F 10,F 11,(12,some []),F 13,F 14] ?_;simp[go_sem,f0,aW,dq,eH,eh,ie];rw[bW];refine⟨j,?_,DE,BM,by simp[f0],by simp[aW],by simp[dq],by simp[eH],ap,by(repeat apply H.drew);exact aS⟩;rw[<-cl]
     cases j with
     |zero=>rfl
     |succ q=>
      rw[scanDown];simp[eh]
   rw[bW];clear bW bq f0 aW dq eH ap aS f u;rintro f u ⟨fl,pR,DE,BM,f0,aW,dq,eH,ap,aS⟩;rw[q_,pR]at hx;have hu:a<bd:=by omega
   have iF:fl<bd:=by omega
   have sV:(fl:Int)<bd:=by omega
   by_cases DF:cf>fl
   ·have DG:(fl:Int)<cf:=by omega
    rw[be DF]at hx;simp[go_sem,dq,eH,DF,DG];rw[bW];exact⟨fl,aB,by rw[<-cl,hx],r,iF,by simp[f0],by simp[aW],by simp[eH],ap,aS⟩
   have DG:¬(fl:Int)<cf:=by omega
   have VY:¬fl<cf:=by omega
   rw[aQ DF]at hx;have hJ:cf<bd:=by omega
   have rZ:(cf:Int)<bd:=by omega
   obtain⟨x,W,cx,_,iG⟩:=rd ap r hJ;obtain⟨y,ar,fI,_,lg⟩:=rd ap r iF;obtain⟨hi,fH,ia⟩:=uX ap r hJ iF W ar;simp only[nr,ns]at hi ia;obtain⟨sp,ju⟩:=FN ap r iF cf y;simp only[nr,ns]at ju;obtain⟨q,au⟩:∃q,fl=q+1:=⟨fl - 1,by omega⟩;have eQ:=eN ((cf:Int)+1) (cf+1) (by omega) (by omega);have hN:=eN ((fl:Int) - 1) q (by omega) (by omega);rw[show fl - 1=q by omega]at hx;simp[go_sem,dq,eH,DG,VY];refine cT [F 0,F 1,F 2,F 3,F 4,F 5,F 6,F 7,F 8,F 9,F 10,F 11,F 12,(13,some [2,3]),F 14,(15,some [])] ?_;simp[go_sem,f0,aW,dq,eH,hJ,rZ,iF,sV,cx,fI,iG,lg,ju,eQ,hN];exact ct.intro (q+1 -(cf+1)) (by omega) (bJ _ _ _ ⟨cf+1,q,_,rfl,by omega,by omega,by omega,by omega,by simp[f0],by simp[aW],by simp,by simp,fH,hi,by rw[<-cl,hx],by(repeat apply H.drew);exact aS.trans ia⟩)
  ·rw[bW];clear bW bq;rintro f u ⟨fl,vY,b_,r,iF,f0,aW,eH,ap,aS⟩;rw[b_]at fg;rw[fg]at af;have sV:(fl:Int)<bd:=by omega
   obtain⟨x,W,cx,_,iG⟩:=rd ap r iF;obtain⟨y,ar,fI,_,lg⟩:=rd ap r hu;obtain⟨hi,fH,ia⟩:=uX ap r iF hu W ar;simp only[nr,ns]at hi ia;obtain⟨sp,ju⟩:=FN ap r hu fl y;simp only[nr,ns]at ju;simp[go_sem];refine cT [F 0,F 1,F 2,F 3,F 4,F 5,F 6,F 7,F 8,F 9,F 10,F 11,F 12,(13,some [2,3]),F 14,(15,some [])] ?_;simp[go_sem,f0,aW,eH,hu,rY,iF,sV,cx,fI,iG,lg,ju];exact af _ _ ⟨rfl,hi,by(repeat apply H.drew);exact aS.trans ia⟩
theorem atf(h:dM (df _) w blk d)(a b sT cap:Nat)(AI:a<=sT)(aKh:sT<b)(ab:b<=d.size)(cU:d.size<=255):
  bc prog (atg d) #[dR blk d.size cap,aa a,aa b,aa sT] w λv' w'=>v'=aa (partitionEqual lt d a b sT).1/\dM (df _) w' blk (partitionEqual lt d a b sT).2/\H (aj blk) w w':=by
 cases bb
 all_goals
  first|refine bz func230 ntmps230 λbk af=> ?_|refine bz func278 ntmps278 λbk af=> ?_
  obtain⟨bd,dO⟩:=aD (d.size);rw[dO]at ab cU⊢;have hu:a<bd:=by omega
  have kt:sT<bd:=by omega
  obtain⟨x,W,cx,rY,iG⟩:=rd h dO hu;obtain⟨y,ar,fI,sU,lg⟩:=rd h dO kt;obtain⟨ap,r,Kd⟩:=uX h dO hu kt W ar;simp only[nr,ns]at ap Kd;obtain⟨sp,ju⟩:=FN h dO kt a y;simp only[nr,ns]at ju;obtain⟨bt,cZ⟩:=aD (b - 1);have j_:=eN ((a:Int)+1) (a+1) (by omega) (by omega);have VV:=eN ((b:Int) - 1) bt (by omega) (by omega);simp[go_sem];refine cT [F 0,F 1,F 2,F 3,F 4,F 5,F 6,F 7,F 8,F 9,F 10,F 11,F 12,(13,some [2,3]),F 14,(15,some [])] ?_;simp[go_sem,hu,rY,kt,sU,cx,fI,iG,lg,ju,j_,VV];obtain⟨D,dX⟩:=aD (swp d a sT);rw[dX]at ap r;have fg:partitionEqual lt d a b sT=partEqLoop lt a (a+1) bt D:=by
   rw[<-dX,<-cZ];rfl
  have kJ:=Kd.drew;clear Kd;obtain⟨bq,bW⟩:∃bq:(Nat->N)->M->Prop,bq=λf u=>∃cf vY,partEqLoop lt a (a+1) bt D=(cf,vY)/\f 9=aa (cf:Nat)/\dM (df _) u blk vY/\H (aj blk) w u:=⟨_,rfl⟩;refine zR bq ?_ ?_
  ·refine di (λV f u=>∃i j aB,V=j+1 - i/\a<i/\a<=j/\j<bd/\i<=600/\f 0=dR blk bd cap/\f 1=aa a/\f 9=aa i/\f 10=aa j/\aB.size=bd/\dM (df _) u blk aB/\partEqLoop lt a i j aB=partEqLoop lt a (a+1) bt D/\H (aj blk) w u) (bt+1 -(a+1))
    ⟨a+1,bt,D,rfl,by omega,by omega,by omega,by omega,by simp,by simp,by simp,by simp,r,ap,rfl,kJ⟩ ?_
   clear kJ ap cx fI iG lg ju r;rintro cQ bJ _ f u ⟨nX,iE,aB,rfl,NM,aKi,aKj,aKk,f0,aW,dq,eH,r,ap,cl,aS⟩;have hx:=partEqLoop_eq lt a nX iE aB;simp[go_sem];obtain⟨bq,bW⟩:∃bq:(Nat->N)->M->Prop,bq=λf u=>∃cf,scanUp (λx=> !lt aB[a]! x) aB iE nX=cf/\nX<=cf/\(cf<=nX\/cf<=iE+1)/\f 0=dR blk bd cap/\f 1=aa a/\f 9=aa cf/\f 10=aa iE/\dM (df _) u blk aB/\H (aj blk) w u:=⟨_,rfl⟩;refine zR bq ?_ ?_
   ·refine di (λV f u=>∃i,V=iE+1 - i/\nX<=i/\(i<=nX\/i<=iE+1)/\f 0=dR blk bd cap/\f 1=aa a/\f 9=aa i/\f 10=aa iE/\dM (df _) u blk aB/\scanUp (λx=> !lt aB[a]! x) aB iE i=scanUp (λx=> !lt aB[a]! x) aB iE nX/\H (aj blk) w u) (iE+1 - nX)
     ⟨nX,rfl,c_ _,.inl (c_ _),by simp[f0,aW,dq,eH],by simp[f0,aW,dq,eH],by simp[f0,aW,dq,eH],by simp[f0,aW,dq,eH],ap,rfl,aS⟩ ?_
    rintro VW DC _ f u ⟨i,rfl,DD,iT,f0,aW,dq,eH,ap,cl,aS⟩;have eQ:=eN ((i:Int)+1) (i+1) (by omega) (by omega);by_cases eh:i<=iE
    ·have ie:(i:Int)<=iE:=by omega
     have hJ:i<bd:=by omega
     have hu:a<bd:=by omega
     obtain⟨x,W,cx,rZ,iG⟩:=rd ap r hJ;obtain⟨z,hz,kS,rY,js⟩:=rd ap r hu;simp[go_sem];refine cT [F 0,F 1,F 2,F 3,F 4,F 5,F 6,F 7,F 8,F 9,F 10,F 11,(12,some []),F 13,F 14] ?_;simp[go_sem,f0,aW,dq,eH,eh,ie,hJ,rZ,hu,rY,cx,kS];refine(vX z x _).mono ?_;rintro _ an ⟨rfl,ii⟩;subst an
     cases ak:lt z x with
     |false=>
      simp[go_sem,dq,eQ];exact ct.intro (iE+1 -(i+1)) (by omega) (DC _ _ _ ⟨i+1,rfl,by omega,by omega,by simp[f0],by simp[aW],by simp,by simp[eH],ap,by rw[<-cl];conv=>{rhs;rw[scanUp]};simp[eh,W,hz,ak],by(repeat apply H.drew);exact aS⟩)
     |true=>
      simp[go_sem];rw[bW];exact⟨i,by rw[<-cl,scanUp];simp[W,hz,ak],DD,iT,by simp[f0],by simp[aW],by simp[dq],by simp[eH],ap,by(repeat apply H.drew);exact aS⟩
    ·have ie:¬(i:Int)<=iE:=by omega
     simp[go_sem];refine cT [F 0,F 1,F 2,F 3,F 4,F 5,F 6,F 7,F 8,F 9,F 10,F 11,(12,some []),F 13,F 14] ?_;simp[go_sem,f0,aW,dq,eH,eh,ie];rw[bW];exact⟨i,by rw[<-cl,scanUp];simp[eh],DD,iT,by simp[f0],by simp[aW],by simp[dq],by simp[eH],ap,by(repeat apply H.drew);exact aS⟩
   rw[bW];clear bW bq f0 aW dq eH ap aS f u;rintro f u ⟨cf,q_,DD,yl,f0,aW,dq,eH,ap,aS⟩;obtain⟨bq,bW⟩:∃bq:(Nat->N)->M->Prop,bq=λf u=>∃fl,scanDown (λx=>lt aB[a]! x) aB cf iE=fl/\fl<=iE/\a<=fl/\f 0=dR blk bd cap/\f 1=aa a/\f 9=aa cf/\f 10=aa fl/\dM (df _) u blk aB/\H (aj blk) w u:=⟨_,rfl⟩;simp[go_sem];refine zR bq ?_ ?_
   ·refine di (λV f u=>∃j,V=j+1/\j<=iE/\a<=j/\f 0=dR blk bd cap/\f 1=aa a/\f 9=aa cf/\f 10=aa j/\dM (df _) u blk aB/\scanDown (λx=>lt aB[a]! x) aB cf j=scanDown (λx=>lt aB[a]! x) aB cf iE/\H (aj blk) w u) (iE+1)
     ⟨iE,rfl,c_ _,by omega,f0,aW,dq,eH,ap,rfl,aS⟩ ?_
    clear f0 aW dq eH ap aS f u;rintro VW DC _ f u ⟨j,rfl,DE,BM,f0,aW,dq,eH,ap,cl,aS⟩;by_cases eh:cf<=j
    ·have ie:(cf:Int)<=j:=by omega
     obtain⟨q,au⟩:∃q,j=q+1:=⟨j - 1,by omega⟩;have hN:=eN ((j:Int) - 1) q (by omega) (by omega);have iF:j<bd:=by omega
     have hu:a<bd:=by omega
     obtain⟨x,W,cx,sV,iG⟩:=rd ap r iF;obtain⟨z,hz,kS,rY,js⟩:=rd ap r hu;have lr:aB[q+1]! =x:=by rw[<-au];exact W
     have VX:cf<=q+1:=by omega
     simp[go_sem];refine cT [F 0,F 1,F 2,F 3,F 4,F 5,F 6,F 7,F 8,F 9,F 10,F 11,(12,some []),F 13] ?_;simp[go_sem,f0,aW,dq,eH,eh,ie,iF,sV,hu,rY,cx,kS];refine(vX z x _).mono ?_;rintro _ an ⟨rfl,ii⟩;subst an
     cases ak:lt z x with
     |true=>
      simp[go_sem,eH,hN];exact ct.intro (q+1) (by omega) (DC _ _ _ ⟨q,rfl,by omega,by omega,by simp[f0],by simp[aW],by simp[dq],by simp,ap,by rw[<-cl,au];conv=>{rhs;rw[scanDown]};simp[VX,lr,hz,ak],by(repeat apply H.drew);exact aS⟩)
     |false=>
      simp[go_sem];rw[bW];exact⟨j,by rw[<-cl,au,scanDown];simp[lr,hz,ak],DE,BM,by simp[f0],by simp[aW],by simp[dq],by simp[eH],ap,by(repeat apply H.drew);exact aS⟩
    ·have ie:¬(cf:Int)<=j:=by omega
     simp[go_sem];refine cT [F 0,F 1,F 2,F 3,F 4,F 5,F 6,F 7,F 8,F 9,F 10,F 11,(12,some []),F 13] ?_;simp[go_sem,f0,aW,dq,eH,eh,ie];rw[bW];refine⟨j,?_,DE,BM,by simp[f0],by simp[aW],by simp[dq],by simp[eH],ap,by(repeat apply H.drew);exact aS⟩;rw[<-cl]
     cases j with
     |zero=>rfl
     |succ q=>
      rw[scanDown];simp[eh]
   rw[bW];clear bW bq f0 aW dq eH ap aS f u;rintro f u ⟨fl,pR,DE,BM,f0,aW,dq,eH,ap,aS⟩;rw[q_,pR]at hx;have iF:fl<bd:=by omega
   have sV:(fl:Int)<bd:=by omega
   by_cases DF:cf>fl
   ·have DG:(fl:Int)<cf:=by omega
    rw[be DF]at hx;simp[go_sem,dq,eH,DF,DG];rw[bW];exact⟨cf,aB,by rw[<-cl,hx],by simp[dq],ap,aS⟩
   have DG:¬(fl:Int)<cf:=by omega
   have VY:¬fl<cf:=by omega
   rw[aQ DF]at hx;have hJ:cf<bd:=by omega
   have rZ:(cf:Int)<bd:=by omega
   obtain⟨x,W,cx,_,iG⟩:=rd ap r hJ;obtain⟨y,ar,fI,_,lg⟩:=rd ap r iF;obtain⟨hi,fH,ia⟩:=uX ap r hJ iF W ar;simp only[nr,ns]at hi ia;obtain⟨sp,ju⟩:=FN ap r iF cf y;simp only[nr,ns]at ju;obtain⟨q,au⟩:∃q,fl=q+1:=⟨fl - 1,by omega⟩;have eQ:=eN ((cf:Int)+1) (cf+1) (by omega) (by omega);have hN:=eN ((fl:Int) - 1) q (by omega) (by omega);rw[show fl - 1=q by omega]at hx;simp[go_sem,dq,eH,DG,VY];refine cT [F 0,F 1,F 2,F 3,F 4,F 5,F 6,F 7,F 8,F 9,F 10,F 11,F 12,(13,some [2,3]),F 14,(15,some [])] ?_;simp[go_sem,f0,aW,dq,eH,hJ,rZ,iF,sV,cx,fI,iG,lg,ju,eQ,hN];exact ct.intro (q+1 -(cf+1)) (by omega) (bJ _ _ _ ⟨cf+1,q,_,rfl,by omega,by omega,by omega,by omega,by simp[f0],by simp[aW],by simp,by simp,fH,hi,by rw[<-cl,hx],by(repeat apply H.drew);exact aS.trans ia⟩)
  ·rw[bW];rintro f u ⟨cf,vY,b_,dq,ap,aS⟩;rw[fg,b_]at af;simp[go_sem,dq];exact af _ _ ⟨rfl,ap,aS⟩
end
end Go.Proofs.YtoohkhcpboldjaaGreatDoor.SS
