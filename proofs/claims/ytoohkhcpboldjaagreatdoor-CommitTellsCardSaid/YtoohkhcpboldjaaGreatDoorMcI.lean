/- The maker makes all blocks, up to the onW on top. Conditions: the variables that are listed hold what the text lays; sizes. -/
import Derived.Test.YtoohkhcpboldjaaGreatDoorMcG
set_option maxRecDepth 100000
set_option maxHeartbeats 4000000
set_option linter.unusedSimpArgs false
set_option linter.unusedVariables false
namespace Go.Proofs.YtoohkhcpboldjaaGreatDoor
open Go.RowKit Go.Kin Tryz
theorem wt:(prog.info? 46).map (λi=>i.zero.isSome)=some true:=by kernel_rfl
def dU:et:=⟨0,ah,ah⟩
theorem ts:gi dU:=⟨by decide,cH,cH⟩
theorem wu:kN prog 46=bN dU:=by kernel_rfl
theorem ZN{x:et}(ok:gi x):(bN x).extract 1 42=ae x.top:=by
 have J:=cd ok.top;have T:=cd ok.dd;unfold bN
 simp_all
theorem aoR{x:et}(ok:gi x){w:M}{K:N->M->Prop}:jb prog 46 [(0,.int .u64 x.gen),(1,.agg (ae x.top)),(2,.agg (ae x.dd))] w K=K (.agg (bN x)) w:=by
 refine ma underlying46 wt (places:=#[(0,1),(1,41),(42,41)]) (by simp[go_sem]) ?_;have hz:=lo ts;have J:=cd ok.top;have T:=cd ok.dd;have ag:=cd cH;have e:dT (dT (dT (bN dU) 0 #[.int .u64 x.gen]) 1 (ae x.top)) 42 (ae x.dd)=bN x:=by
  unfold dT;apply ip;simp[bN,dU,J,T,ag]
 simp[jw,wu,Value.cells,hz,uf,J,T,e]
theorem Qb{w:M}{K:N->M->Prop}:jb prog 44 [(0,.int .u8 5)] w K=K (.agg (ae vN)) w:=by
 refine ma underlying44 gO (places:=#[(0,1),(1,1),(2,1),(3,1),(4,1),(5,32),(37,4)]) (by simp[go_sem]) ?_;simp[jw,gP,Value.cells,uf,cd cH];simp[dT,ae,ah,vN,eO,hg,DT];rfl
theorem Um:sd prog 30 39 (.int .u16 0) 2:=⟨underlying30,by kernel_rfl,rfl⟩
theorem aCx:cc vN:=aoS.1
def Hs(bf:Nat)(st:et)(x:(Pt×Pt)×Int):et:=if x.2=0 then⟨bf,x.1.1,x.1.2⟩else st
section
variable {k m p o vE:Nat}{z:fV}{Cn:zE}{ep w w':M}{eB X bw:Nat->Prop}{base fZ:N}{D:cV}{t:eb}{O:Nat->Prop}{cL:eb->Nat}{c:jt}
theorem aCy(dC:kG cL)(e:sw ep eB)(hq:c.bf<18446744073709551616)(aq:c.n<=65536)(h:hc k m p c.n z c.bf ep eB t w O)(st:et)(ok:gi st)(av:jg w o base fZ vE D X bw Cn)(Ha:∀j,X j\/bw j->¬O j)(dX:D.fL)(Hb:vE<=30000)(MO:∀a o b,D.lf (a,o)=some b->b=[]\/b.length=512)
  (xs:List dp)(eF:ya D xs)(lj:xs.length<=255)(aC:6600*xs.length+30000<=gX cL t):
  bc prog 70 #[az k,.agg (bN st),az o] w λv' w'=>
   v'=.tuple #[.agg (bN (Hs c.bf st (mI (ms c) c.bf st.dd st.top (fk D) (xs.map (·.val)) t).2)),aa (mI (ms c) c.bf st.dd st.top (fk D) (xs.map (·.val)) t).2.2]/\gi (Hs c.bf st (mI (ms c) c.bf st.dd st.top (fk D) (xs.map (·.val)) t).2)/\
   hc k m p c.n z c.bf ep eB (mI (ms c) c.bf st.dd st.top (fk D) (xs.map (·.val)) t).1 w' (aE O w w')/\H O w w':=by
 refine bz func70 ntmps70 λbk af=> ?_;have nG:=lo ok;have mg:=un ok;have eS:=S_ ok;have pE:=ZN ok;have ee:=lo ts;have aT:=hc.ok k m p c.n z c.bf ep eB;have ak:=(aT t).lt h;simp[go_sem,nG,mg,wt,wu];have aU:=((H.refl al w).alloc (.cells (bN st) 46)).alloc (.cells (bN dU) 46);have bu:=oF w (.cells (bN st) 46) (.cells (bN dU) 46);have bt:=nM w (.cells (bN st) 46) (.cells (bN dU) 46);have gZ:((w.alloc (.cells (bN st) 46)).alloc (.cells (bN dU) 46)).1.size=w.1.size+2:=by simp
 obtain⟨ai,dx⟩:=aD ((w.alloc (.cells (bN st) 46)).alloc (.cells (bN dU) 46));rw[dx]at aU bu bt gZ⊢;obtain⟨g,aH⟩:=aD (w.1.size);rw[aH]at bu bt gZ⊢;clear dx;have J:=(aT t).ch h aU λ_ _ e=>e;have sy:=av.ch aU (λ_ _ e=>e) λ_ _ e=>e;have fb:∀j,O j->j<g:=λj I=>by have:=ak j I;omega
 obtain⟨kx,jJ⟩:=aD (mI (ms c) c.bf st.dd st.top (fk D) (xs.map (·.val)) t);rw[jJ]at af;have bU:∀{u:M} {eP:eb} {y:(Pt×Pt)×Int} {Q:Nat->Prop},kx=(eP,y)->gi (Hs c.bf st y)->hc k m p c.n z c.bf ep eB eP u Q->(∀j,Q j->aE O ai u j)->H O ai u->
   u.1[g+1]? =some (.cells (bN dU) 46 (0,0))->bk (.tuple #[.agg (bN (Hs c.bf st y)),aa y.2]) (u.setRow (g+1) (bN (Hs c.bf st y))):=λ{u eP y Q} Z Qc aN eT aS ab=>by
  subst Z;have kb:=(H.refl (aj (g+1)) u).setRow (g:=g+1) (.inl rfl) (bN (Hs c.bf st y));have fd:=kb.size;have afO:=aS.size;refine af _ _ ⟨rfl,Qc,(aT eP).eK ((aT eP).ch aN kb λj I e=> ?_) (λj I=>(eT j I).imp id λe=>⟨by omega,by omega⟩) (aE.lt ak (by omega)),((aU.mono λ_ _ e=>e.elim).trans aS).bZ kb λj I e=>by simp only[aj]at e;omega⟩;simp only[aj]at e;rcases eT j I with ek|ek
  ·have:=fb j ek;omega
  ·omega
 clear af;have fz:kx=let i:=sF (ms c) st.dd (fk D) (xs.map (·.val)) t []
  if i.2.2≠0 then(i.1,(ah,ah),i.2.2)else
  let t:=rR (iR c.n) (it c.n c.bf) (lR c.n) i.1 st.dd i.2.1
  if t.2.2≠0 then(t.1,(ah,ah),t.2.2)else
  let p:=it c.n c.bf (lR c.n t.1 st.top) vN (po (c.bf,t.2.1))
  if p.2.2≠0 then(p.1,(ah,ah),p.2.2)else(p.1,(p.2.1,t.2.1),0):=jJ.symm.trans rfl
 have afP:∀{u:M} {eP:eb} {ek:Int} {Q:Nat->Prop},ek≠0->kx=(eP,(ah,ah),ek)->hc k m p c.n z c.bf ep eB eP u Q->(∀j,Q j->aE O ai u j)->H O ai u->
   u.1[g+1]? =some (.cells (bN dU) 46 (0,0))->bk (.tuple #[.agg (bN st),aa ek]) (u.setRow (g+1) (bN st)):=λ{u eP ek Q} aV Z aN eT aS ab=>by
  have Ht:Hs c.bf st ((ah,ah),ek)=st:=aQ aV;have f:=bU Z (by rw[Ht];exact ok) aN eT aS ab;rw[Ht]at f;exact f
 refine(adG sy dX Hb).mono ?_;rintro y_ an ⟨jn,afQ,qR,aK,Ua⟩;have afR:=aoG afQ eF;subst afR;have cu:=qR.len underlying30 3;have T:=(aT t).ch J aK λ_ _ e=>e;have cR:=aK.size;have jU:=aK.obj bu id;have jS:=aK.obj bt id;simp[go_sem,cu];obtain⟨bq,bW⟩:∃bq:(Nat->N)->M->Prop,bq=λf u=>f 0=az k/\f 4=az g/\f 6=.pointer (some ⟨g+1,0,none⟩)/\∃eP mJ Q,sF (ms c) st.dd (fk D) (jn.map (·.val)) t []=(eP,mJ,0)/\mJ.length<=jn.length/\(∀x∈mJ,pT x)/\
   u.ownsRow 0 227 45 (f 8) mJ.length (ei e_ mJ)/\(∀j,(f 8).ownBlock=some j->ai.1.size<=j/\¬Q j)/\hc k m p c.n z c.bf ep eB eP u Q/\(∀j,Q j->aE O ai u j)/\H O ai u/\gX cL t<=gX cL eP+6600*jn.length:=⟨_,rfl⟩
 refine zR bq ?_ ?_
 ·refine di (λV f u=>∃i eP mJ Q,V=jn.length - i/\i<=jn.length/\f 0=az k/\f 2=az o/\f 4=az g/\f 6=.pointer (some ⟨g+1,0,none⟩)/\f 17=y_/\f 18=aa jn.length/\f 19=aa (i:Nat)/\
    sF (ms c) st.dd (fk D) ((jn.drop i).map (·.val)) eP mJ=sF (ms c) st.dd (fk D) (jn.map (·.val)) t []/\mJ.length<=i/\(∀x∈mJ,pT x)/\
    u.ownsRow 0 227 45 (f 8) mJ.length (ei e_ mJ)/\(∀j,(f 8).ownBlock=some j->an.1.size<=j/\¬Q j)/\hc k m p c.n z c.bf ep eB eP u Q/\(∀j,Q j->aE O an u j)/\H O an u/\gX cL t<=gX cL eP+6600*i) jn.length
   ⟨0,t,[],O,rfl,gG _,by simp,by simp,by simp,by simp,by simp,by simp,by simp,rfl,c_ _,by simp,by simpa[ei]using pA _ _ _ _,by simp[Value.ownBlock],T,λj I=>.inl I,H.refl _ _,Cd _ _⟩ ?_
  rintro cQ bJ _ f u ⟨i,eP,mJ,Q,rfl,ad,f0,bg,ck,f6,lJ,oZ,Ev,eY,rC,fs,own,kc,ap,eT,aS,zw⟩;have JJ:=aS.size;by_cases aO:i<jn.length
  case neg=>
   have fy:¬(i:Int)<jn.length:=by omega
   have CV:i=jn.length:=by omega
   subst CV;rw[Xy]at eY;simp[go_sem,oZ,Ev];rw[bW];exact⟨f0,ck,f6,eP,mJ,Q,eY.symm.trans rfl,rC,fs,own,λj I=>⟨by have:=(kc j I).1;omega,(kc j I).2⟩,ap,λj I=>(eT j I).imp id λe=>⟨by omega,e.2⟩,(aK.mono λ_ _ e=>e.elim).trans aS,zw⟩
  have fy:(i:Int)<jn.length:=by omega
  obtain⟨num,nZ⟩:∃x,jn[i]? =some x:=⟨_,d_ aO⟩;have afS:bC u y_ jn.length (S16.jh jn):=qR.ch aS λj I e=>by have:=Ua j I;have:=fb j e;omega
  obtain⟨bx,afT,PQ,_⟩:=afS.at Um (by simp[S16.jh]) (show(S16.jh jn)[i]? =some (.int .u16 num.val)by unfold S16.jh;rw[oo,nZ];rfl);have eQ:IntKind.i64.wrap ((i:Int)+1)=((i+1:Nat):Int):=by rw[cz];omega
  have ES:∀j,Q j->j<u.1.size:=(aT eP).lt ap;have x_:∀j,g<=j/\j<an.1.size->¬Q j:=λj I e=>by
   rcases eT j e with ek|ek
   ·have:=fb j ek;omega
   ·omega
  have zS:=aS.obj jU λe=>by have:=fb g e;omega
  have zJ:=aS.obj jS λe=>by have:=fb (g+1) e;omega
  have ae_:=(sy.ch aK (λ_ _ e=>e) λ_ _ e=>e).ch aS (λj I=>Ha j (.inl I)) λj I=>Ha j (.inr I);have aCz:∀j,X j\/bw j->¬Q j:=λj I e=>by
   rcases eT j e with ek|ek
   ·exact Ha j I ek
   ·have:=sy.lt j I;omega
  simp[go_sem,f0,bg,ck,lJ,oZ,Ev,aO,fy,afT,PQ,zS,nG,mg];have wO:jn.drop i=num::jn.drop (i+1):=by
   rw[xD aO];rw[d_ aO]at nZ;rw[sb nZ]
  refine(aAS dC e hq aq ap (by omega) st ok ae_ aCz num (by omega) (qu D num) (aB_ dX num) (afG D num) λy ar=>MO _ _ _ (Uf.1 ar).2).mono ?_;have pC:=aoB dC e hq aq eP st.dd (D.aZ num) (D.wiped num) (qu D num) (afG D num) num.val;have Mp:sF (ms c) st.dd (fk D) ((jn.drop i).map (·.val)) eP mJ=if(na (ms c) st.dd (D.aZ num) (D.wiped num) (qu D num) num.val eP).2.2≠0 then((na (ms c) st.dd (D.aZ num) (D.wiped num) (qu D num) num.val eP).1,[],(na (ms c) st.dd (D.aZ num) (D.wiped num) (qu D num) num.val eP).2.2)
    else sF (ms c) st.dd (fk D) ((jn.drop (i+1)).map (·.val)) (na (ms c) st.dd (D.aZ num) (D.wiped num) (qu D num) num.val eP).1 (mJ++[(na (ms c) st.dd (D.aZ num) (D.wiped num) (qu D num) num.val eP).2.1]):=by
   rw[wO,oq,sF];simp only[fk,aoA]
  obtain⟨⟨t3,iq,dB⟩,sA⟩:∃y,na (ms c) st.dd (D.aZ num) (D.wiped num) (qu D num) num.val eP=y:=⟨_,rfl⟩;rw[sA]at pC Mp⊢;simp only at pC Mp;rintro _ aJ ⟨rfl,Un,ag,aI⟩;simp only at Un ag⊢;have iC:=aI.size;have afU:=rP Un;have aoT:=Hf Un;have Hi:=rP zD;have qr:=aI.obj zS (x_ g (by omega));have jK:=aI.obj zJ (x_ (g+1) (by omega));have bo:=(H.refl al aJ).alloc (.cells (e_ iq) 227);have cI:=cr aJ (.cells (e_ iq) 227);have jo:(aJ.alloc (.cells (e_ iq) 227)).1.size=aJ.1.size+1:=by simp
  obtain⟨bs,qv⟩:=aD (aJ.alloc (.cells (e_ iq) 227));rw[qv]at bo cI jo;simp[go_sem,Bl,Bm,Hi,afU,aoT,ER,bS,qv];obtain⟨cy,zT⟩:=aD (aJ.1.size);rw[zT]at cI jo⊢;clear qv;have aP:=(aT t3).ch ag bo λ_ _ e=>e;have n_:=bo.obj qr id;have m_:=bo.obj jK id;have Hu:∀j,aE Q u aJ j->aE O an bs j:=λj I=>by
   rcases I with I|I
   ·exact(eT j I).imp id λe=>⟨e.1,by omega⟩
   ·exact .inr ⟨by omega,by omega⟩
  have En:H O an bs:=(aS.bZ aI λj I e=>(eT j e).elim id λe=>by omega).trans (bo.mono λ_ _ e=>e.elim);by_cases He:dB=0
  ·subst He;have kH:((0:Int)!=0)=false:=by decide
   rw[aQ (by simp)]at Mp;simp[↓Eh,go_sem,kH,cI,afU,aoT];refine Ei (aoU Un _) ?_;simp[go_sem];have EI:bs.ownsRow 0 227 45 (f 8) mJ.length (ei e_ mJ):=gu (gu own aI λj I e=>(kc j I).2 e) bo λ_ _ e=>e;refine wJ (n:=mJ.length) (us:=(e_ iq).toList) afD EI (by rw[wi,afU]) (GX ER) (by unfold maxLen;omega) (by omega) λoy cD tF tG Bg=> ?_;have qs:=tG.size;have n6:∀j,(f 8).ownBlock=some j->an.1.size<=j/\¬Q j/\j<u.1.size:=λj I=>⟨(kc j I).1,(kc j I).2,nK own j I⟩;have cS:=(aT t3).ch aP tG λj I e=>by
    have:=n6 j e;rcases I with I|I
    ·exact this.2.1 I
    ·omega
   have afr:ei e_ (mJ++[iq])=ei e_ mJ++(e_ iq).toList:=by rw[AG,Cg]
   simp[go_sem,Ev,eQ];refine ct.intro (jn.length -(i+1)) (by omega) (bJ _ _ _ ⟨i+1,t3,mJ++[iq],aE Q u aJ,rfl,by omega,by simp[f0],by simp[bg],by simp[ck],by simp[f6],by simp[lJ],by simp[oZ],by simp,by rw[<-Mp,eY],by rw[kR,II];omega,λy ar=> ?_,?_,λj I=> ?_,cS,λj I=>(Hu j I).imp id λe=>⟨e.1,by omega⟩,En.bZ tG λj I e=>by have:=(n6 j e).1;omega,by omega⟩)
   ·rcases hP.1 ar with ar|ar
    ·exact fs y ar
    ·rw[sc]at ar;rw[ar];exact Un
   ·rw[show(mJ++[iq]).length=mJ.length+1 by simp,afr];simpa using tF
   ·have kT:oy.ownBlock=some j:=by simpa using I
    rcases Bg with e|e
    ·rw[e]at kT;have:=n6 j kT;exact⟨this.1,λe=>e.elim this.2.1 λe=>by omega⟩
    ·have:=e j kT;exact⟨by omega,λe=>e.elim (λe=>by have:=ES j e;omega) λe=>by omega⟩
  ·have gA:(dB !=0)=true:=by simpa using He
   rw[be He]at Mp;rw[<-eY,Mp]at fz;simp only at fz;rw[be He]at fz;simp[go_sem,gA,ck,f6,n_,m_,nG,mg,ee,mW,bS];exact afP He fz aP (λj I=>(Hu j I).imp id λe=>⟨by omega,e.2⟩) ((aK.mono λ_ _ e=>e.elim).trans En) m_
 ·rw[bW];clear bW bq qR;rintro f u ⟨f0,ck,f6,eP,mJ,Q,eY,rC,fs,own,kc,ap,eT,aS,zw⟩;rw[eY]at fz;simp only at fz;rw[aQ (by simp)]at fz;have JJ:=aS.size;have ES:∀j,Q j->j<u.1.size:=(aT eP).lt ap;have x_:∀j,g<=j/\j<ai.1.size->¬Q j:=λj I e=>by
   rcases eT j e with ek|ek
   ·have:=fb j ek;omega
   ·omega
  have zS:=aS.obj bu λe=>by have:=fb g e;omega
  have zJ:=aS.obj bt λe=>by have:=fb (g+1) e;omega
  have afg:fC u (f 8) uC 45 mJ:=fC.fF own λx W=>rP (fs x W);simp[go_sem,f0,ck,zS,nG,eS];refine(aBT (JH dC e hq aq) (by omega) aT ap st.dd ok.dd (f 8) mJ afg fs (λj I=>⟨(kc j I).2,nK own j I⟩) (by omega) (ap.cv e).1 (hc.d' e)).mono ?_;have ls:=aoD dC e hq aq eP st.dd mJ;obtain⟨⟨t4,iV,dl⟩,lv⟩:∃y,rR (iR c.n) (it c.n c.bf) (lR c.n) eP st.dd mJ=y:=⟨_,rfl⟩;rw[lv]at fz ls⊢;rintro _ aJ ⟨rfl,Bp,ag,aI⟩;simp only at fz Bp ag ls⊢;have iC:=aI.size;have MF:=cd Bp;have Uo:=ef Bp;have n':=cd cH;have qr:=aI.obj zS (x_ g (by omega));have jK:=aI.obj zJ (x_ (g+1) (by omega));have bo:=(H.refl al aJ).alloc (.cells (ae iV) 44);have cI:=cr aJ (.cells (ae iV) 44);have jo:(aJ.alloc (.cells (ae iV) 44)).1.size=aJ.1.size+1:=by simp
  obtain⟨bs,qv⟩:=aD (aJ.alloc (.cells (ae iV) 44));rw[qv]at bo cI jo;simp[go_sem,gO,gP,n',MF,Uo,wc,bS,qv];obtain⟨cy,zT⟩:=aD (aJ.1.size);rw[zT]at cI jo⊢;clear qv;have aP:=(aT t4).ch ag bo λ_ _ e=>e;have n_:=bo.obj qr id;have m_:=bo.obj jK id;have Hu:∀j,aE Q u aJ j->aE O ai bs j:=λj I=>by
   rcases I with I|I
   ·exact(eT j I).imp id λe=>⟨e.1,by omega⟩
   ·exact .inr ⟨by omega,by omega⟩
  have xL:H O ai bs:=(aS.bZ aI λj I e=>(eT j e).elim id λe=>by omega).trans (bo.mono λ_ _ e=>e.elim);by_cases Hv:dl=0
  case neg=>
   have gA:(dl !=0)=true:=by simpa using Hv
   rw[be Hv]at fz;simp[go_sem,gA,ck,f6,n_,m_,nG,mg,ee,mW,bS];exact afP Hv fz aP Hu xL m_
  subst Hv;have kH:((0:Int)!=0)=false:=by decide
  rw[aQ (by simp)]at fz;simp[go_sem,kH,f0,ck,n_,nG,pE];refine(aeV aP st.top ok.top).mono ?_;rintro _ bD ⟨rfl,bH,bE⟩;have kV:=bE.size;have aCA:=Zd dC c.n t4 st.top;obtain⟨t5,aoV⟩:=aD (lR c.n t4 st.top);rw[aoV]at bH fz aCA;have zU:∀j,g<=j/\j<ai.1.size\/j=cy->¬aE Q u aJ j:=λj I e=>by
   rcases e with e|e
   ·grind
   ·omega
  have Hd:=bE.obj n_ (zU g (by omega));have sj:=bE.obj m_ (zU (g+1) (by omega));have afV:=bE.obj cI (zU cy (by omega));have AS:H O ai bD:=xL.bZ bE λj I e=>(Hu j e).elim id λe=>by omega
  have aoW:∀j,aE (aE Q u aJ) bs bD j->aE O ai bD j:=λj I=>by
   rcases I with I|I
   ·exact(Hu j I).imp id λe=>⟨e.1,by omega⟩
   ·exact .inr ⟨by omega,by omega⟩
  simp[go_sem];have aoX:=TC dC c.n c.bf t5 vN (po (c.bf,iV));obtain⟨⟨E',P,je⟩,dO⟩:∃y,it c.n c.bf t5 vN (po (c.bf,iV))=y:=⟨_,rfl⟩;rw[dO]at fz aoX;simp only at fz aoX;have afW:Bw (c.bf,iV):=⟨hq,Bp⟩;have dm:=λ{w:M} {K:N->M->Prop}=>aCB c.bf iV Bp hq (w:=w) (K:=K);have aCC:∀j,aE (aE Q u aJ) bs bD j->j<bD.1.size:=(aT t5).lt bH;have JV:∀j,(g<=j/\j<ai.1.size\/j=cy)\/bD.1.size<=j->¬aE (aE Q u aJ) bs bD j:=λj I e=>by
   rcases I with I|I
   ·rcases e with e|e
    ·exact zU j I e
    omega
   ·have:=aCC j e;omega
  have A_:∀{Y:M} {v:N},hc k m p c.n z c.bf ep eB t5 Y (aE (aE Q u aJ) bs bD)->bC Y v 512 (br (po (c.bf,iV)))->(∀j,v.ownBlock=some j->bD.1.size<=j/\j<Y.1.size)->bc prog 125 #[az k,.agg (ae vN),v] Y λv' w'=>v'=.tuple #[.agg (ae P),aa je]/\cc P/\hc k m p c.n z c.bf ep eB E' w' (aE (aE (aE Q u aJ) bs bD) Y w')/\H (aE (aE Q u aJ) bs bD) Y w':=λ{Y v} fX aM g_=>by
   have:=anH dC e hq aq fX (by omega) vN aCx (po (c.bf,iV)) (afX Bp) v aM λj I=>⟨JV j (.inr (g_ j I).1),(g_ j I).2⟩;rw[dO]at this;exact this
  obtain⟨aoY,Fa⟩:∃bq:(Nat->N)->M->Prop,bq=λf' Y=>f' 0=az k/\f' 4=az g/\f' 6=.pointer (some ⟨g+1,0,none⟩)/\f' 13=az cy/\f' 14=aa je/\∃gy afY,f' 15=az gy/\
    cc P/\Y.1[gy]? =some (.cells (ae P) 44 (0,0))/\Y.1[g]? =some (.cells (bN st) 46 (0,0))/\Y.1[g+1]? =some (.cells (bN dU) 46 (0,0))/\Y.1[cy]? =some (.cells (ae iV) 44 (0,0))/\hc k m p c.n z c.bf ep eB E' Y afY/\(∀j,afY j->aE O ai Y j)/\H O ai Y:=⟨_,rfl⟩
  refine Ja aoY [[F 0,F 1,F 2,F 3,F 4,F 5,F 6,F 7,(8,some [0,1]),(9,some []),F 10,F 11,F 12,(13,some [10,11,12]),(14,some [12]),F 15],
   [F 0,F 1,F 2,F 3,F 4,F 5,F 6,F 7,(8,some [0,1]),(13,some [0,1]),(9,some []),F 10,F 11,F 12,(14,some [12]),F 15],
   [F 0,F 1,F 2,F 3,F 4,F 5,F 6,F 7,(13,some [0,1,2,3,4,5,6,7]),(8,some [0,1]),(9,some []),F 10,F 11,F 12,(14,some [12]),F 15]] (by kernel_rfl) (by kernel_rfl) ?_ ?_
  ·intro mh mA;simp only[io,yD,or_false]at mA;have dH:=(H.refl al bD).drew;obtain⟨hO,lq⟩:=aD (bD.drew);have kW:hO.1.size=bD.1.size:=by rw[<-lq];rfl
   rw[lq]at dH⊢;clear lq;have bm:=(aT t5).ch bH dH λ_ _ e=>e;have Fb:=dH.obj Hd id;have zK:=dH.obj sj id;have Fc:=dH.obj afV id;have Up:=bm.bf;have afZ:∀{Y Fe:M},H al hO Y->H (aE (aE Q u aJ) bs bD) Y Fe->hc k m p c.n z c.bf ep eB E' Fe (aE (aE (aE Q u aJ) bs bD) Y Fe)->Fe.1[g]? =some (.cells (bN st) 46 (0,0))/\Fe.1[g+1]? =some (.cells (bN dU) 46 (0,0))/\Fe.1[cy]? =some (.cells (ae iV) 44 (0,0))/\(∀j,aE (aE (aE Q u aJ) bs bD) Y Fe j->aE O ai Fe j)/\H O ai Fe:=λ{Y Fe} rM wR Hw=>by
    have afp:=rM.size;have aoZ:=wR.size;refine⟨wR.obj (rM.obj Fb id) (JV g (.inl (.inl (by omega)))),wR.obj (rM.obj zK id) (JV (g+1) (.inl (.inl (by omega)))),wR.obj (rM.obj Fc id) (JV cy (.inl (.inr rfl))),λj I=> ?_,?_⟩
    ·rcases I with I|I
     ·exact(aoW j I).imp id λe=>⟨e.1,by omega⟩
     ·exact .inr ⟨by omega,by omega⟩
    ·exact(AS.trans ((dH.trans rM).mono λ_ _ e=>e.elim)).bZ wR λj I e=>(aoW j e).elim id λe=>by omega
   rcases mA with rfl|rfl|rfl
   ·simp[go_sem,f0,Fc,MF,Uo,Qb,Up,dm];refine(af0 (c.bf,iV) hO afW).mono ?_;rintro MP Hx sG;have Cl:=sG.ch;have Hy:bC Hx MP 512 (br (po (c.bf,iV))):=bC.fF sG.own;simp[go_sem,f0,Qb];refine(A_ ((aT t5).ch bm Cl λ_ _ e=>e) Hy λj I=>⟨by have:=sG.pF j I;omega,nK sG.own j I⟩).mono ?_;rintro _ yc ⟨rfl,gI,Hw,wR⟩;obtain⟨dc,hl,ew,iB,oN⟩:=afZ Cl wR Hw;have MQ:=cd gI;have gv:=(H.refl al yc).alloc (.cells (ae P) 44);have Ff:=cr yc (.cells (ae P) 44);have Zp:(yc.alloc (.cells (ae P) 44)).1.size=yc.1.size+1:=by simp
    obtain⟨TP,ao0⟩:=aD (yc.alloc (.cells (ae P) 44));rw[ao0]at gv Ff Zp;simp[go_sem,gO,gP,n',MQ,wc,bS,ao0];rw[Fa];refine⟨f0,ck,f6,by simp,by simp,yc.1.size,_,by simp,gI,Ff,gv.obj dc id,gv.obj hl id,gv.obj ew id,(aT E').ch Hw gv λ_ _ e=>e,λj I=>(iB j I).imp id λe=>⟨e.1,by omega⟩,oN.trans (gv.mono λ_ _ e=>e.elim)⟩
   ·simp[go_sem,f0,Fc,MF,Uo,Qb,Up,dm];refine(af0 (c.bf,iV) hO afW).mono ?_;rintro MP Hx sG;have Cl:=sG.ch;have aCD:=Cl.size;have aCE:bC Hx MP 512 (br (po (c.bf,iV))):=bC.fF sG.own;have JW:=(H.refl al Hx).alloc (.cells (ae ah) 44);have Uq:=cr Hx (.cells (ae ah) 44);have af1:(Hx.alloc (.cells (ae ah) 44)).1.size=Hx.1.size+1:=by simp
    obtain⟨Qd,ao1⟩:=aD (Hx.alloc (.cells (ae ah) 44));rw[ao1]at JW Uq af1;obtain⟨gy,sD⟩:=aD (Hx.1.size);rw[sD]at Uq;have Hy:=aCE.ch JW λ_ _ e=>e;have Ur:=Cl.trans JW;have Hz:∀j,MP.ownBlock=some j->bD.1.size<=j/\j<Qd.1.size:=λj I=>⟨by have:=sG.pF j I;omega,by have:=nK sG.own j I;omega⟩;simp[go_sem,f0,Qb,gO,gP,ao1,sD];refine(A_ ((aT t5).ch bm Ur λ_ _ e=>e) Hy Hz).mono ?_;rintro _ yc ⟨rfl,gI,Hw,wR⟩;obtain⟨dc,hl,ew,iB,oN⟩:=afZ Ur wR Hw;have MQ:=cd gI;have aoZ:=wR.size;have Us:=wR.obj Uq (JV gy (.inr (by omega)));have gv:=(H.refl (aj gy) yc).setRow (g:=gy) (.inl rfl) (ae P);have Ff:(yc.setRow gy (ae P)).1[gy]? =some (.cells (ae P) 44 (0,0)):=by rw[gh,Us];rfl
    have Zp:=gv.size;have Bn:∀j,aE (aE (aE Q u aJ) bs bD) Qd yc j->¬aj gy j:=λj I e=>by
     simp only[aj]at e;rcases I with I|I
     ·exact JV gy (.inr (by omega)) (by rw[<-e];exact I)
     ·omega
    simp[go_sem,Us,n',MQ,wc,bS];rw[Fa];refine⟨f0,ck,f6,by simp,by simp,gy,_,by simp,gI,Ff,gv.obj dc λe=>by simp only[aj]at e;omega,gv.obj hl λe=>by simp only[aj]at e;omega,gv.obj ew λe=>by simp only[aj]at e;omega,(aT E').ch Hw gv Bn,λj I=>(iB j I).imp id λe=>⟨e.1,by omega⟩,oN.bZ gv λj I e=>by simp only[aj]at e;omega⟩
   ·have JW:=(H.refl al hO).alloc (.cells (ae ah) 44);have af2:=cr hO (.cells (ae ah) 44);have af1:(hO.alloc (.cells (ae ah) 44)).1.size=hO.1.size+1:=by simp
    obtain⟨cE,CS⟩:=aD (hO.alloc (.cells (ae ah) 44));rw[CS]at JW af2 af1;obtain⟨gy,sD⟩:=aD (hO.1.size);rw[sD]at af2;have aCF:=JW.obj Fc id;have aCG:=((aT t5).ch bm JW λ_ _ e=>e).bf;simp[go_sem,f0,Fc,aCF,MF,Uo,Qb,Up,aCG,dm,gO,gP,CS,sD];refine(af0 (c.bf,iV) cE afW).mono ?_;rintro MP Qd sG;have Cl:=sG.ch;have aCD:=Cl.size;have Hy:bC Qd MP 512 (br (po (c.bf,iV))):=bC.fF sG.own;have Uq:=Cl.obj af2 id;have Ur:=JW.trans Cl;have Hz:∀j,MP.ownBlock=some j->bD.1.size<=j/\j<Qd.1.size:=λj I=>⟨by have:=sG.pF j I;omega,nK sG.own j I⟩;simp[go_sem,f0,Qb];refine(A_ ((aT t5).ch bm Ur λ_ _ e=>e) Hy Hz).mono ?_;rintro _ yc ⟨rfl,gI,Hw,wR⟩;obtain⟨dc,hl,ew,iB,oN⟩:=afZ Ur wR Hw;have MQ:=cd gI;have aoZ:=wR.size;have Us:=wR.obj Uq (JV gy (.inr (by omega)));have gv:=(H.refl (aj gy) yc).setRow (g:=gy) (.inl rfl) (ae P);have Ff:(yc.setRow gy (ae P)).1[gy]? =some (.cells (ae P) 44 (0,0)):=by rw[gh,Us];rfl
    have Zp:=gv.size;have Bn:∀j,aE (aE (aE Q u aJ) bs bD) Qd yc j->¬aj gy j:=λj I e=>by
     simp only[aj]at e;rcases I with I|I
     ·exact JV gy (.inr (by omega)) (by rw[<-e];exact I)
     ·omega
    simp[go_sem,Us,n',MQ,wc,bS];rw[Fa];refine⟨f0,ck,f6,by simp,by simp,gy,_,by simp,gI,Ff,gv.obj dc λe=>by simp only[aj]at e;omega,gv.obj hl λe=>by simp only[aj]at e;omega,gv.obj ew λe=>by simp only[aj]at e;omega,(aT E').ch Hw gv Bn,λj I=>(iB j I).imp id λe=>⟨e.1,by omega⟩,oN.bZ gv λj I e=>by simp only[aj]at e;omega⟩
  ·rw[Fa];clear Fa aoY A_;rintro f Y ⟨f0,ck,f6,fw,f14,gy,afY,f15,gI,PX,aCH,af3,aCI,ao2,ao3,rM⟩;have MQ:=cd gI;have aCJ:=ef gI;have afp:=rM.size;by_cases JX:je=0
   case neg=>
    have gA:(je !=0)=true:=by simpa using JX
    rw[be JX]at fz;simp[go_sem,gA,ck,f6,f14,aCH,af3,nG,mg,ee,mW,bS];exact afP JX fz ao2 ao3 rM af3
   subst JX;have kH:((0:Int)!=0)=false:=by decide
   rw[aQ (by simp)]at fz;have GW:gi ⟨c.bf,P,iV⟩:=⟨hq,gI,Bp⟩;have aCK:=lo GW;have aCL:=un GW;have Ht:Hs c.bf st ((P,iV),(0:Int))=⟨c.bf,P,iV⟩:=be rfl;simp[go_sem,kH,f14];refine cT [F 0,F 1,F 2,F 3,F 4,F 5,F 6,(7,some []),F 8] ?_;have dH:=(H.refl al Y).drew;obtain⟨hO,lq⟩:=aD (Y.drew);have kW:hO.1.size=Y.1.size:=by rw[<-lq];rfl
   rw[lq]at dH⊢;clear lq;have bm:=(aT E').ch ao2 dH λ_ _ e=>e;have Up:=bm.bf;have zK:=dH.obj af3 id;have Fc:=dH.obj aCI id;have aCM:=dH.obj PX id;have qt:=λ{w:M} {K:N->M->Prop}=>aoR GW (w:=w) (K:=K);simp only at qt;simp[go_sem,f0,f6,fw,f15,Up,Fc,aCM,zK,MF,Uo,MQ,aCJ,qt,ee,aCK,aCL,mW,bS];have f:=bU fz (by rw[Ht];exact GW) bm (λj I=>(ao3 j I).imp id λe=>⟨e.1,by omega⟩) (rM.trans (dH.mono λ_ _ e=>e.elim)) zK;rw[Ht]at f;exact f
end
end Go.Proofs.YtoohkhcpboldjaaGreatDoor
