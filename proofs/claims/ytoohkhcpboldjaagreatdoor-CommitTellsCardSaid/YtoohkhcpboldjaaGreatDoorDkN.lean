/- The disk's laws: wakes. No condition. -/
import Derived.Test.YtoohkhcpboldjaaGreatDoorDkD
import Derived.Test.YtoohkhcpboldjaaGreatDoorSlK
set_option linter.unusedSimpArgs false
set_option linter.unusedVariables false
namespace Go.Proofs.YtoohkhcpboldjaaGreatDoor
open Go.RowKit Go.Kin Tryz
theorem amy:Bc prog 134 178 (.agg #[.int .u16 0,.slice none 0 0]) 2 32:=⟨underlying134,by kernel_rfl,rfl,by decide⟩
section
variable {w:M}{d p n:Nat}{D:cb}{O bw:Nat->Prop}{z:qm}{cB:List (Nat×N)}
theorem g'.push(h:g' w d p n D O z cB bw){ai w':M}{a:Nat}{b:cW}{u cv':N}(ao:a<n)(ab:b.length=512)(Z:H al w ai)(ap:ai.ownsRow 0 5 1 u 512 (br b))(bP:gr w.1.size u)
  (fG:w'.ownsRow 0 178 2 cv' (D.bT.length+1) (ei rJ cB++[.int .u16 a,u]))(hV:H (λk=>z.dY.ownBlock=some k) ai w')(jB:cv'.ownBlock=z.dY.ownBlock\/gr ai.1.size cv'):
  g' (w'.setCell ⟨d,3,none⟩ cv') d p n {D with bT:=D.bT++[(a,b)]} (aE O w w') {z with dY:=cv'} (cB++[(a,u)]) (λk=>bw k\/u.ownBlock=some k):=by
 have J:=h.ch Z λ_ _ e=>e;have aes:=nK ap;have azn:=nK fG;have xM:∀j,O j->j<w.1.size:=h.ih;have aQ0:=Z.size;have aQ1:=hV.size;have azo:∀k,u.ownBlock=some k->¬z.dY.ownBlock=some k:=λk r e=>by have:=bP k r;have:=xM k (h.Jq k e).1;omega
 have GR:∀k,cv'.ownBlock=some k->k≠d/\¬bw k/\u.ownBlock≠some k/\(O k\/(w.1.size<=k/\k<w'.1.size)):=λk r=>by
  rcases jB with e|e
  ·obtain⟨cC,cj,cp⟩:=h.Jq k (by rw[<-e];exact r)
   grind
  ·have sn:=e k r;have AM:=h.lt;refine⟨by omega,λar=> ?_,λaR=> ?_,.inr ⟨by omega,azn k r⟩⟩
   ·have:=xM k (h.GL k ar);omega
   ·have:=aes k aR;omega
 have qY:H (aj d) w' (w'.setCell ⟨d,3,none⟩ cv'):=(H.refl (aj d) w').setCell (p:=bl d 3) (.inl rfl) _;have cU:(w'.setCell ⟨d,3,none⟩ cv').1.size=w'.1.size:=by simp[World.setCell]
 have YH:H (λk=>k=d\/z.dY.ownBlock=some k) ai (w'.setCell ⟨d,3,none⟩ cv'):=(hV.mono λ_ _ e=>.inr e).bZ qY λj _ e=>.inl e;have IM:=h.AZ;have Tj:∀k,bw k->¬(k=d\/z.dY.ownBlock=some k):=λk r e=>e.elim (IM k r).2.1 λe=>h.pM k r (.inr (.inr (.inr (.inr e))));have tz:∀k,u.ownBlock=some k->¬(k=d\/z.dY.ownBlock=some k):=λk r e=>e.elim (λe=>by have:=bP k r;have:=h.lt;omega) (azo k r);have qZ:w'.1[d]? =some (.cells (CE n p z D) 138 (0,0)):=hV.am J.blk λe=>(h.Jo d e).1 rfl;refine J.own (D':={D with bT:=D.bT++[(a,b)]}) (z':={z with dY:=cv'}) (Y':=λk=>bw k\/u.ownBlock=some k) (O':=aE O w w') ?_ YH rfl rfl rfl ⟨rfl,rfl,rfl⟩ ⟨?_,?_,?_⟩ ?_ ⟨h.ok.m,?_⟩ ?_ (λ_=>.inl) (λ_=>.inl) ?_ ?_
 ·rw[eU,qZ,fU];rfl
 ·rw[show(ei rJ (cB++[(a,u)]))=ei rJ cB++[.int .u16 a,u]by rw[AG,Cg];rfl,kR];exact gu fG qY λk r e=>by simp only[aj]at e;exact(GR k r).1 e
 ·simp[h.bT.len]
 ·intro i a2 cY ad;rcases Xw i D.bT.length with aO|pe
  ·rw[LA aO]at ad;obtain⟨u2,aL,aR⟩:=J.bT.Pn i a2 cY ad;exact⟨u2,by grind,(aR.ch YH Tj).mono λ_=>.inl⟩
  ·have q_:i=D.bT.length:=by
    have:=(jG.1 ad).1;simp at this;omega
   subst q_;simp at ad;obtain⟨rfl,rfl⟩:=ad;refine⟨u,by rw[<-h.bT.len];simp,?_,λk r=>⟨.inr r,?_⟩⟩
   ·rw[ab];exact(bC.fF ap).ch YH tz
   ·have:=aes k r;omega
 ·exact(J.gl.ch YH Tj).mono λ_=>.inl
 ·intro e aV;simp only[hP,sc]at aV;rcases aV with aV|rfl
  ·exact h.ok.bT e aV
  ·exact⟨ab,ao⟩
 ·intro k r;obtain⟨cC,cj,cp,cy⟩:=GR k r;exact⟨cy,λe=>e.elim cj cp,cC⟩
 ·rintro k (r|r)
  ·exact⟨.inl (IM k r).1,(IM k r).2⟩
  ·have Pr:=bP k r;have kx:=h.lt;have es:=xM _ (h.iN _ (.inr (.inl rfl)));have cX:=xM _ (h.iN _ (.inr (.inr (.inl rfl))));have iq:=xM _ (h.iN _ (.inr (.inr (.inr (.inl rfl)))));have:=aes k r;exact⟨.inr ⟨Pr,by omega⟩,by omega,by omega,by omega,by omega⟩
 ·intro k r;rw[cU];exact aE.lt h.ih (by omega) k r
end
def zq:amz->Int
 |.bY=>3
 |.arg=>1
 |.ok=>0
section
variable {w:M}{d p n:Nat}{D:cb}{O bw:Nat->Prop}{z:qm}{cB:List (Nat×N)}
theorem g'.grow(h:g' w d p n D O z cB bw){w0:M}{Mn:Nat->Prop}(eZ:∀k,O k->aE Mn w0 w k)(ak:∀k,Mn k->k<w0.1.size)(aA:w0.1.size<=w.1.size):Jn w d p n D (aE Mn w0 w):=⟨z,cB,bw,h.mono eZ (aE.lt ak aA)⟩
def xR(w:M)(d p n:Nat)(D:cb)(O:Nat->Prop)(z:qm):Prop:=∃z' cB bw,g' w d p n D O z' cB bw/\z'.jL=z.jL/\z'.bb=z.bb/\z'.oH=z.oH
theorem xR.at(h:xR w d p n D O z):Jn w d p n D O:=by
 obtain⟨z',cB,bw,h,_⟩:=h;exact⟨z',cB,bw,h⟩
theorem g'.Jx(h:g' w d p n D O z cB bw){w0:M}{Mn:Nat->Prop}(eZ:∀k,O k->aE Mn w0 w k)(ak:∀k,Mn k->k<w0.1.size)(aA:w0.1.size<=w.1.size):xR w d p n D (aE Mn w0 w) z:=⟨z,cB,bw,h.mono eZ (aE.lt ak aA),rfl,rfl,rfl⟩
theorem xR.jq{z':qm}(h:xR w d p n D O z)(e:z.jL=z'.jL/\z.bb=z'.bb/\z.oH=z'.oH):xR w d p n D O z':=by
 obtain⟨sp,cB,bw,h,a,b,c⟩:=h;exact⟨sp,cB,bw,h,a.trans e.1,b.trans e.2.1,c.trans e.2.2⟩
theorem amA(a:Nat)(ao:a<65536)(b:cW)(v:N)(P:eL)(h:g' w d p n D O z cB bw)(am:ty w p P)(zr:¬O p)(tr:P.dS<=9223372036854775807)(eY:D.bT.length<=1000000)(Jy:∀x,D.gl=some x->x<65536)
  (aM:bC w v b.length (br b))(g_:0<b.length->∀k,v.ownBlock=some k->¬O k/\k≠p):
  bc prog 219 #[az d,.int .u16 a,v] w λv' w'=>v'=aa (zq (D.mF n P a b))/\xR w' d p n (D.ij n P a b) (aE O w w') z/\ty w' p (D.sq n P a b)/\H (λk=>O k\/k=p) w w'/\H (λk=>k=d\/k=p\/z.dY.ownBlock=some k) w w':=by
 refine bz func219 ntmps219 λbk af=> ?_;have cu:=aM.len underlying101 3;have CJ:O d:=h.iN _ (.inl rfl);simp[go_sem];refine(ad' P h am).mono ?_;rintro _ ai ⟨rfl,bM⟩;subst ai
 cases gE:D.gb P with
 |false=>
  rw[show vy D P=3 by simp[vy,gE]];simp[go_sem];exact af _ _ ⟨by simp[cb.mF,gE,zq],by simpa[cb.ij,cb.mF,gE]using h.Jx (λ_=>.inl) h.ih (c_ _),by simpa[cb.sq,gE]using am,H.refl _ _,H.refl _ _⟩
 |true=>
  rw[show vy D P=0 by simp[vy,gE]];simp[go_sem];refine(Th a ao h).mono ?_;rintro _ ai ⟨rfl,bM⟩;subst ai;by_cases kj:a<n
  case neg=>
   have vz:n<=a:=by omega
   simp[go_sem,kj];exact af _ _ ⟨by simp[cb.mF,gE,vz,zq],by simpa[cb.ij,cb.mF,gE,vz]using h.Jx (λ_=>.inl) h.ih (c_ _),by simpa[cb.sq,gE,vz]using am,H.refl _ _,H.refl _ _⟩
  have vz:¬n<=a:=by omega
  by_cases ab:b.length=512
  case neg=>
   have qZ:(((b.length:Nat):Int)==512)=false:=hv (by omega);simp[go_sem,kj,cu,bne,qZ];exact af _ _ ⟨by simp[cb.mF,gE,ab,zq],by simpa[cb.ij,cb.mF,gE,ab]using h.Jx (λ_=>.inl) h.ih (c_ _),by simpa[cb.sq,gE,ab]using am,H.refl _ _,H.refl _ _⟩
  have aY:w.cell? (bl d 1)=some (az p):=aG h.blk 1;simp[go_sem,kj,cu,ab,aY];refine(ad8 p P.off P.dS w am tr).mono ?_;rintro _ ai ⟨rfl,gT,bn,_⟩;simp only[ad9]at gT⊢;have gT:ty ai p P.step:=gT;have Ps:D.sq n P a b=P.step:=by simp[cb.sq,gE,vz,ab]
  have J:=h.ch bn λk r e=>by simp only[aj]at e;subst e;exact zr r
  have wI:H (λk=>O k\/k=p) w ai:=bn.mono λ_ _ e=>.inr e;have YI:H (λk=>k=d\/k=p\/z.dY.ownBlock=some k) w ai:=bn.mono λ_ _ e=>.inr (.inl e);have qh:=aM.ch bn λk r e=>by simp only[aj]at e;grind
  cases Mo:P.bX with
  |false=>
   simp[go_sem];exact af _ _ ⟨by simp[cb.mF,gE,vz,ab,Mo,zq],by simpa[cb.ij,cb.mF,gE,vz,ab,Mo]using J.Jx (λ_=>.inl) h.ih bn.size,by rw[Ps];exact gT,wI,YI⟩
  |true=>
   have zt:D.mF n P a b=.ok:=by simp[cb.mF,gE,vz,ab,Mo]
   have yK:D.ij n P a b=D.put n a b:=by simp[cb.ij,zt]
   rw[zt,yK,Ps]at af;have dE:ai.cell? (bl d 7)=some (.bool D.wE):=aG J.blk 7;have bQ:=dJ J.blk 7
   cases GS:D.wE with
   |true=>
    rw[GS]at dE;simp[go_sem,dE,bQ];have T:g' (ai.setCell ⟨d,7,none⟩ (.bool false)) d p n {D with wE:=false} O z cB bw:=J.ayL rfl rfl rfl rfl rfl rfl;refine af _ _ ⟨rfl,?_,?_,wI.setCell (.inl (.inl CJ)) _,YI.setCell (.inl (.inl rfl)) _⟩
    ·rw[show D.put n a b={D with wE:=false}by simp[cb.put,GS]];exact T.Jx (λ_=>.inl) h.ih (dK bn.size ((H.refl (aj d) ai).setCell (p:=bl d 7) (.inl rfl) _).size)
    ·exact gT.ch ((H.refl (aj d) ai).setCell (p:=bl d 7) (.inl rfl) (.bool false)) (λe=>by simp only[aj]at e;subst e;exact zr CJ)
   |false=>
    rw[GS]at dE;have ds:ai.cell? (bl d 8)=some z.mz:=aG J.blk 8
    cases has:D.gl with
    |none=>
     have Bd:=J.gl;rw[has]at Bd;simp only[GK]at Bd;rw[Bd]at ds;simp[go_sem,dE,ds];refine(Th a ao J).mono ?_;rintro _ an ⟨rfl,bM⟩;subst an;simp[go_sem,kj];obtain⟨zu,zv,jB⟩:∃A c,z.dY=.slice A D.bT.length c:=by
      rcases h.bT.own.2 with⟨aM,bi⟩|⟨g,cap,dF,aM,_⟩
      ·grind
      ·exact⟨_,_,aM⟩
     have Ts:=J.ch (H.refl al ai).drew λ_ _ e=>e;have ew:ai.drew.cell? (bl d 3)=some (.slice zu D.bT.length zv):=by rw[<-jB];exact aG Ts.blk 3
     have aet:ai.cell? (bl d 3)=some (.slice zu D.bT.length zv):=ew;refine cT [F 0,F 1,F 2,F 3,F 4,F 5,F 6,(7,some [0,1,2,3,4,5]),F 8,(9,some [0,1,2,3,4]),(10,some [0]),F 11,F 12,(13,some [])] ?_;simp[go_sem,aet];refine(GN v 512 b ai.drew (by omega) ab (by rw[<-ab];exact qh)).mono ?_;rintro u aJ ⟨lm,GT,bR⟩;have ag:=Ts.ch GT λ_ _ e=>e;have aeu:aJ.cell? (bl d 3)=some (.slice zu D.bT.length zv):=by rw[<-jB];exact aG ag.blk 3
     obtain⟨GU,aS,ap⟩:∃A c,u=.slice A 512 c:=by
      obtain⟨A,c,e,_⟩:=bC.fF lm;exact⟨A,c,e⟩
     subst ap;have Be:=((H.refl al aJ).alloc (.cells #[.int .u16 a,.slice GU 512 aS] 178)).am ag.blk id;have Pu:(aJ.alloc (.cells #[.int .u16 a,.slice GU 512 aS] 178)).cell? (bl d 3)=some (.slice zu D.bT.length zv):=by rw[<-jB];exact aG Be 3
     simp[go_sem,aeu,Pu];have Tt:=ag.bT.own;rw[show(z).dY=.slice zu D.bT.length zv from jB]at Tt;refine wJ amy (us:=[.int .u16 a,.slice GU 512 aS]) Tt rfl (by simp[Value.oneCell']) (by show D.bT.length+1<=maxLen;unfold maxLen;omega) (by omega) λcv' bs EI pf Jz=> ?_;obtain⟨gy,uw,Tu,EG,_⟩:=A' EI (by omega);have aev:=J.push (b:=b) (u:=.slice GU 512 aS) (cv':=cv') kj ab (H.hR GT) lm bR EI (by rw[show(z).dY=.slice zu D.bT.length zv from jB];exact pf) (by grind);have cI:=pf.am ag.blk (λe=>(h.Jo d (by rw[jB];exact e)).1 rfl);have dl:=λi=>aG cI i;have z4:=λi=>dJ cI i;subst EG;simp[go_sem,dl,z4,CE];have Tv:H (λk=>O k\/k=p) w (bs.setCell ⟨d,3,none⟩ (.slice (some ⟨gy,0,none⟩) (D.bT.length+1) uw)):=(((wI.trans ((H.hR GT).mono λ_ _ e=>e.elim)).bZ pf λj _ e=>.inl (h.Jq j (by rw[jB];exact e)).1)).setCell (.inl (.inl CJ)) _;have pg:H (λk=>k=d\/z.dY.ownBlock=some k) ai (bs.setCell ⟨d,3,none⟩ (.slice (some ⟨gy,0,none⟩) (D.bT.length+1) uw)):=(((H.hR GT).mono λ_ _ e=>e.elim).bZ pf λj _ e=>.inr (by rw[jB];exact e)).setCell (p:=bl d 3) (.inl (.inl rfl)) _;refine af _ _ ⟨rfl,?_,?_,Tv,YI.trans (pg.mono λk _ e=>e.elim .inl λe=>.inr (.inr e))⟩
     ·rw[show D.put n a b={(D)with bT:=D.bT++[(a,b)]}by simp[cb.put,GS,has,kj]];refine aev.Jx (λk r=> ?_) h.ih Tv.size;rcases r with r|r
      ·exact .inl r
      ·exact .inr ⟨dK wI.size r.1,gQ r.2 (by simp[World.setCell])⟩
     ·exact(gT.ch pg (λe=>e.elim (λe=>zr (e▸CJ)) λe=>zr (h.Jq p e).1))
    |some x=>
     have Bd:=J.gl;rw[has]at Bd;obtain⟨g,Bd,aH,amB⟩:=Bd;rw[Bd]at ds;have cg:=λi=>aG aH i;have bB:=dJ J.blk 8;simp[go_sem,dE,ds,cg,bB];have W:=Jy x has;have cs:H (aj d) ai (ai.setCell ⟨d,8,none⟩ (.pointer none)):=(H.refl (aj d) ai).setCell (p:=bl d 8) (.inl rfl) _;have T:g' (ai.setCell ⟨d,8,none⟩ (.pointer none)) d p n {D with gl:=none} O {z with mz:=.pointer none} cB bw:=by
      have Jp:∀k,bw k->¬aj d k:=λk r e=>by simp only[aj]at e;exact(h.AZ k r).2.1 e
      refine J.own (D':={D with gl:=none}) (z':={z with mz:=.pointer none}) (Y':=bw) (O':=O) ?_ (cs.mono λ_ _ e=>.inl e) rfl rfl rfl ⟨rfl,rfl,rfl⟩ (J.bT.ch cs (λk r e=>by simp only[aj]at e;exact(h.Jo k r).1 e) Jp) rfl ⟨h.ok.m,h.ok.bT⟩ h.Jq (λ_=>id) (λ_=>id) h.AZ (λk r=>gQ (J.ih k r) cs.size);rw[eU,J.blk,fU];rfl
     have ph:=gT.ch cs (λe=>by simp only[aj]at e;subst e;exact zr CJ);have pi:H (λk=>O k\/k=p) w (ai.setCell ⟨d,8,none⟩ (.pointer none)):=wI.setCell (.inl (.inl CJ)) _;have YJ:H (λk=>k=d\/k=p\/z.dY.ownBlock=some k) w (ai.setCell ⟨d,8,none⟩ (.pointer none)):=YI.setCell (.inl (.inl rfl)) _;have ky:=qh.ch cs λk r e=>by simp only[aj]at e;grind
     revert cs T ph pi YJ ky;generalize ai.setCell ⟨d,8,none⟩ (.pointer none)=an;intro cs T ph pi YJ ky;refine(Th x W T).mono ?_;rintro _ azp ⟨rfl,bM⟩;subst azp;by_cases sr:x<n
     case neg=>
      simp[go_sem,sr];refine af _ _ ⟨rfl,?_,ph,pi,YJ⟩;rw[show D.put n a b={D with gl:=none}by simp[cb.put,GS,has,sr]];exact(T.Jx (λ_=>.inl) h.ih pi.size).jq ⟨rfl,rfl,rfl⟩
     simp[go_sem,sr];obtain⟨zu,zv,jB⟩:∃A c,z.dY=.slice A D.bT.length c:=by
      rcases h.bT.own.2 with⟨aM,bi⟩|⟨g,cap,dF,aM,_⟩
      ·grind
      ·exact⟨_,_,aM⟩
     have Ts:=T.ch (H.refl al an).drew λ_ _ e=>e;have ew:an.drew.cell? (bl d 3)=some (.slice zu D.bT.length zv):=by rw[<-jB];exact aG Ts.blk 3
     have aet:an.cell? (bl d 3)=some (.slice zu D.bT.length zv):=ew;refine cT [F 0,F 1,F 2,F 3,F 4,F 5,F 6,(7,some [0,1,2,3,4,5]),F 8,(9,some [0,1,2,3,4]),(10,some [0]),F 11,F 12,(13,some [])] ?_;simp[go_sem,aet];refine(GN v 512 b an.drew (by omega) ab (by rw[<-ab];exact ky)).mono ?_;rintro u aJ ⟨lm,GT,bR⟩;have ag:=Ts.ch GT λ_ _ e=>e;have aeu:aJ.cell? (bl d 3)=some (.slice zu D.bT.length zv):=by rw[<-jB];exact aG ag.blk 3
     obtain⟨GU,aS,ap⟩:∃A c,u=.slice A 512 c:=by
      obtain⟨A,c,e,_⟩:=bC.fF lm;exact⟨A,c,e⟩
     subst ap;have Be:=((H.refl al aJ).alloc (.cells #[.int .u16 x,.slice GU 512 aS] 178)).am ag.blk id;have Pu:(aJ.alloc (.cells #[.int .u16 x,.slice GU 512 aS] 178)).cell? (bl d 3)=some (.slice zu D.bT.length zv):=by rw[<-jB];exact aG Be 3
     simp[go_sem,aeu,Pu];have Tt:=ag.bT.own;rw[show(({z with mz:=.pointer none}:qm)).dY=.slice zu D.bT.length zv from jB]at Tt;refine wJ amy (us:=[.int .u16 x,.slice GU 512 aS]) Tt rfl (by simp[Value.oneCell']) (by show D.bT.length+1<=maxLen;unfold maxLen;omega) (by grind) λcv' bs EI pf Jz=> ?_;obtain⟨gy,uw,Tu,EG,_⟩:=A' EI (by omega);have aev:=T.push (b:=b) (u:=.slice GU 512 aS) (cv':=cv') sr ab (H.hR GT) lm bR EI (by rw[show(({z with mz:=.pointer none}:qm)).dY=.slice zu D.bT.length zv from jB];exact pf) (by grind);have cI:=pf.am ag.blk (λe=>(h.Jo d (by rw[jB];exact e)).1 rfl);have dl:=λi=>aG cI i;have z4:=λi=>dJ cI i;subst EG;simp[go_sem,dl,z4,CE];have Tv:H (λk=>O k\/k=p) w (bs.setCell ⟨d,3,none⟩ (.slice (some ⟨gy,0,none⟩) (D.bT.length+1) uw)):=(((pi.trans ((H.hR GT).mono λ_ _ e=>e.elim)).bZ pf λj _ e=>.inl (h.Jq j (by rw[jB];exact e)).1)).setCell (.inl (.inl CJ)) _;have pg:H (λk=>k=d\/z.dY.ownBlock=some k) an (bs.setCell ⟨d,3,none⟩ (.slice (some ⟨gy,0,none⟩) (D.bT.length+1) uw)):=(((H.hR GT).mono λ_ _ e=>e.elim).bZ pf λj _ e=>.inr (by rw[jB];exact e)).setCell (p:=bl d 3) (.inl (.inl rfl)) _;refine af _ _ ⟨rfl,?_,?_,Tv,YJ.trans (pg.mono λk _ e=>e.elim .inl λe=>.inr (.inr e))⟩
     ·rw[show D.put n a b={({D with gl:=none})with bT:=D.bT++[(x,b)]}by simp[cb.put,GS,has,sr]];refine aev.Jx (λk r=> ?_) h.ih Tv.size;rcases r with r|r
      ·exact .inl r
      ·exact .inr ⟨dK pi.size r.1,gQ r.2 (by simp[World.setCell])⟩
     ·exact(ph.ch pg (λe=>e.elim (λe=>zr (e▸CJ)) λe=>zr (h.Jq p e).1))
end
end Go.Proofs.YtoohkhcpboldjaaGreatDoor
namespace Go.Kin
open Go Go.RowKit
def JA(D:cb)(k:Nat):cb:=(D.bT.take k).foldl (λd e=>d.pO e 512) D
theorem azq{D:cb}{k:Nat}{e:Nat×cW}(h:D.bT[k]? =some e):JA D (k+1)=(JA D k).pO e 512:=by
 unfold JA;rw[nA,h];simp
theorem azr(l:List (Nat×cW))(D:cb):(l.foldl (λd e=>d.pO e 512) D).bT=D.bT:=by
 induction l generalizing D with
 |nil=>rfl
 |cons e l bL=>rw[yO,bL];rfl
theorem amC(D:cb)(k:Nat):(JA D k).bT=D.bT:=azr _ _
theorem azs(D:cb):{JA D D.bT.length with bT:=[]}=D.ev:=by
 unfold JA cb.ev;rw[wm]
theorem azt(l:List (Nat×cW))(D:cb):(l.foldl (λd e=>d.pO e 512) D).gl=D.gl:=by
 induction l generalizing D with
 |nil=>rfl
 |cons e l bL=>rw[yO,bL];rfl
theorem azu(D:cb):D.ev.gl=D.gl:=azt _ _
end Go.Kin
namespace Go.Proofs.YtoohkhcpboldjaaGreatDoor
open Go.RowKit Go.Kin Tryz
section
variable {w:M}{d p n:Nat}{D:cb}{O bw:Nat->Prop}{z:qm}{cB:List (Nat×N)}
theorem g'.azv(h:g' w d p n D O z cB bw):∃A c,z.dY=.slice A D.bT.length c/\D.bT.length<=c/\c<=maxLen:=by
 rcases h.bT.own.2 with⟨aM,bi⟩|⟨g,cap,dF,aM,_,_,J,T,_⟩
 ·grind
 grind
theorem g'.entry(h:g' w d p n D O z cB bw){i a:Nat}{b:cW}(ad:D.bT[i]? =some (a,b)):∃g cap A c,z.dY=.slice (some ⟨g,0,none⟩) D.bT.length cap/\g<w.1.size/\i<D.bT.length/\w.cell? (bl g (i*2))=some (.int .u16 a)/\w.cell? (bl g (i*2+1))=some (.slice A 512 c)/\bC w (.slice A 512 c) 512 (br b)/\b.length=512/\∀k,(Value.slice A 512 c).ownBlock=some k->bw k/\k<w.1.size:=by
 obtain⟨u,J,T⟩:=h.bT.Pn i a b ad;have ab:b.length=512:=(h.ok.bT _ (ib ad)).1;obtain⟨g,cap,aM,_,_,ag,aP,bH,cS⟩:=Js h.bT.own J;obtain⟨A,c,ap,ax⟩:=id T.1;rw[ab]at ap;subst ap;exact⟨g,cap,A,c,aM,ag,aP,bH,cS,by have:=T.1;rwa[ab]at this,ab,T.2⟩
theorem azw(P:eL)(h:g' w d p n D O z cB bw)(am:ty w p P)(zr:¬O p)(tr:P.dS<=9223372036854775807)(eY:D.bT.length<=1000000):
  bc prog 127 #[az d] w λv' w'=>v'=aa (if D.gb P&&P.bX then 0 else 3)/\Jn w' d p n (if D.gb P&&P.bX then D.ev else D) (aE O w w')/\ty w' p (if D.gb P then P.step else P)/\H (λk=>O k\/k=p) w w':=by
 refine bz func127 ntmps127 λbk af=> ?_;have CJ:O d:=h.iN _ (.inl rfl);simp[go_sem];refine(ad' P h am).mono ?_;rintro _ ai ⟨rfl,bM⟩;subst ai
 cases gE:D.gb P with
 |false=>
  rw[show vy D P=3 by simp[vy,gE]];simp[go_sem];exact af _ _ ⟨by simp[gE],by simpa[gE]using h.grow (λ_=>.inl) h.ih (c_ _),by simpa[gE]using am,H.refl _ _⟩
 |true=>
  rw[show vy D P=0 by simp[vy,gE]];have aY:w.cell? (bl d 1)=some (az p):=aG h.blk 1;simp[go_sem,aY];refine(ad8 p P.off P.dS w am tr).mono ?_;rintro _ ai ⟨rfl,gT,bn,_⟩;simp only[ad9]at gT⊢;have gT:ty ai p P.step:=gT;have J:=h.ch bn λk r e=>by simp only[aj]at e;subst e;exact zr r
  have wI:H (λk=>O k\/k=p) w ai:=bn.mono λ_ _ e=>.inr e
  cases Mo:P.bX with
  |false=>
   simp[go_sem];exact af _ _ ⟨by simp[gE,Mo],by simpa[gE,Mo]using J.grow (λ_=>.inl) h.ih bn.size,by simpa[gE]using gT,wI⟩
  |true=>
   simp only[gE,Mo,Sf,if_true]at af;obtain⟨A,gJ,jB,Mp,amD⟩:=h.azv;have ew:ai.cell? (bl d 3)=some (.slice A D.bT.length gJ):=by rw[<-jB];exact aG J.blk 3
   simp[go_sem,ew];refine di (λV f u=>∃k Pv,V=D.bT.length - k/\k<=D.bT.length/\f 0=az d/\f 20=.slice A D.bT.length gJ/\f 21=aa D.bT.length/\f 22=aa k/\g' u d p n (JA D k) (aE O w u) z cB Pv/\(∀j,Pv j->bw j\/w.1.size<=j)/\ty u p P.step/\H (λk=>O k\/k=p) w u) D.bT.length
    ⟨0,bw,rfl,by omega,by simp,by simp,by simp,by simp,J.mono (λ_=>.inl) (aE.lt h.ih bn.size),λj=>.inl,gT,wI⟩ ?_
   rintro cQ bJ _ f u ⟨k,Pv,rfl,r,f0,f20,f21,f22,dX,azx,amE,Tw⟩;have Mq:¬aE O w u p:=λe=>e.elim zr λe=>by have:=lt_of_block am;omega
   by_cases aO:k<D.bT.length
   ·obtain⟨e,aV⟩:∃e,D.bT[k]? =some e:=⟨_,d_ aO⟩;obtain⟨a,b⟩:=e;obtain⟨g,cap,vA,aK,amF,jj,_,nP,ny,aA,ab,ws⟩:=dX.entry (i:=k) (a:=a) (b:=b) (by rw[amC];exact aV);rw[jB,amC]at amF
    cases amF
    have eo:(k:Int)<D.bT.length:=by omega
    have ej:IntKind.i64.wrap ((k:Int)+1)=((k+1:Nat):Int):=by rw[cz];omega
    have aU:=(H.refl al u).alloc (.cells #[.int .u16 a,.slice vA 512 aK] 178);have dD:=λi=>aG (cr u (.cells #[.int .u16 a,.slice vA 512 aK] 178)) i;simp[go_sem,f0,f20,f21,f22,eo,aO,nP,ny,dD];refine(ayQ a _ b 512 ab (by omega) (dX.ch aU λ_ _ e=>e) (aA.ch aU λ_ _ e=>e) (λj I=>gQ (ws j I).2 aU.size)).mono ?_;rintro _ u2 ⟨rfl,⟨IZ,tA,JB,azy⟩,bh⟩;simp[go_sem,f22,ej];have pi:H (λj=>j=z.jL\/j=z.bb) u u2:=(aU.mono λ_ _ e=>e.elim).trans bh;have df:H (λk=>O k\/k=p) w u2:=Tw.bZ pi λj I e=>by
     rcases e with rfl|rfl
     ·exact .inl (h.iN _ (.inr (.inl rfl)))
     ·exact .inl (h.iN _ (.inr (.inr (.inl rfl))))
    refine ct.intro (D.bT.length -(k+1)) (by omega) (bJ _ _ _ ⟨k+1,IZ,rfl,by omega,by simp[f0],by simp[f20],by simp[f21],by simp,?_,?_,?_,df⟩)
    ·rw[azq aV];refine tA.mono (λj I=> ?_) (aE.lt h.ih df.size);have gF:=Tw.size;have kg:=aU.size;rcases I with I|I
     ·rcases I with I|I
      ·exact .inl I
      ·exact .inr ⟨I.1,by have:=bh.size;omega⟩
     ·exact .inr ⟨by omega,I.2⟩
    ·intro j I;rcases azy j I with I|I
     ·exact azx j I
     ·have:=Tw.size;have:=aU.size;exact .inr (by omega)
    ·exact amE.ch pi (λe=>by
      rcases e with e|e
      ·exact Mq (dX.iN _ (.inr (.inl e)))
      ·exact Mq (dX.iN _ (.inr (.inr (.inl e)))))
   ·have:k=D.bT.length:=by omega
    subst this;have azz:u.cell? (bl d 3)=some z.dY:=aG dX.blk 3;have azA:=dJ dX.blk 3;have cs:H (aj d) u (u.setCell ⟨d,3,none⟩ (.slice none 0 0)):=(H.refl (aj d) u).setCell (p:=bl d 3) (.inl rfl) _;have Jp:∀k,Pv k->¬aj d k:=λk r e=>by simp only[aj]at e;exact(dX.AZ k r).2.1 e
    simp[go_sem,f0,f21,f22,azz,azA];refine af _ _ ⟨rfl,?_,by simpa[gE]using amE.ch cs (λe=>by simp only[aj]at e;subst e;exact zr CJ),Tw.bZ cs λj _ e=>.inl (by simp only[aj]at e;subst e;exact CJ)⟩;rw[<-azs];refine⟨{z with dY:=.slice none 0 0},[],Pv,?_⟩;refine dX.own (D':={JA D D.bT.length with bT:=[]}) (z':={z with dY:=.slice none 0 0}) (Y':=Pv) (O':=aE O w _) ?_ (cs.mono λ_ _ e=>.inl e) rfl rfl rfl ⟨rfl,rfl,rfl⟩ (zj.nil _ _) (dX.gl.ch cs Jp) ⟨dX.ok.m,by simp⟩ (λk r=>by simp[Value.ownBlock]at r) (λj I=> ?_) (λ_=>id) (λj I=> ?_) (aE.lt h.ih (dK Tw.size cs.size))
    ·rw[eU,dX.blk,fU];rfl
    ·exact I.imp id λe=>⟨e.1,gQ e.2 cs.size⟩
    ·obtain⟨cC,cj⟩:=dX.AZ j I;exact⟨cC.imp id λe=>⟨e.1,gQ e.2 cs.size⟩,cj⟩
end
section
variable {w:M}{d p n:Nat}{D:cb}{O bw:Nat->Prop}{z:qm}{cB:List (Nat×N)}
def amG:Array N:=#[aa 0,.pointer none,.map none,.slice none 0 0,.map none,.map none,.bool false,.bool false,.pointer none]
theorem azB:kN prog 138=amG:=by kernel_rfl
theorem azC:(prog.info? 138).map (λi=>i.zero.isSome)=some true:=by kernel_rfl
theorem azD(a b c d e:N)(ao:a.cells=#[a])(ab:b.cells=#[b])(Z:c.cells=#[c])(bm:d.cells=#[d])(aV:e.cells=#[e]){w:M}{K:N->M->Prop}:
  jb prog 138 [(0,a),(1,b),(2,c),(4,d),(5,e)] w K=K (.agg #[a,b,c,.slice none 0 0,d,e,.bool false,.bool false,.pointer none]) w:=
 ma underlying138 azC (places:=#[(0,1),(1,1),(2,1),(3,1),(4,1),(5,1),(6,1),(7,1),(8,1)]) (by simp[go_sem]) (by simp[jw,azB,ao,ab,Z,bm,aV,amG,dT])
theorem azE(n p:Nat)(w:M)(J:1<=n)(T:n<=4096):bc prog 54 #[aa n,az p] w λv' w'=>∃d,v'=.tuple #[az d,aa 0]/\Jn w' d p n cb.dv (λk=>w.1.size<=k/\k<w'.1.size)/\H al w w':=by
 refine bz func54 ntmps54 λbk af=> ?_;have aL:¬(n:Int)<1:=by omega
 have aR:¬4096<(n:Int):=by omega
 have zw:∀(t:TypeId) (w:M),(Instr.makeMap t none).run prog w=.ok (.map (some w.1.size)) (w.alloc (.map #[] 0)):=λ_ _=>rfl;simp[go_sem,aL,aR,zw];have aU:=(((H.refl al w).alloc (.map #[] 0)).alloc (.map #[] 0)).alloc (.map #[] 0);have CG:=(((o'.bX w).ch ((H.refl al _).alloc (.map #[] 0)) λe=>e).ch ((H.refl al _).alloc (.map #[] 0)) λe=>e);have gD:=((o'.bX (w.alloc (.map #[] 0))).ch ((H.refl al _).alloc (.map #[] 0)) λe=>e);have gc:=o'.bX ((w.alloc (.map #[] 0)).alloc (.map #[] 0));have gF:(w.alloc (.map #[] 0)).1.size=w.1.size+1:=by simp
 have kg:((w.alloc (.map #[] 0)).alloc (.map #[] 0)).1.size=w.1.size+1+1:=by simp
 have aA:(((w.alloc (.map #[] 0)).alloc (.map #[] 0)).alloc (.map #[] 0)).1.size=w.1.size+1+1+1:=by simp
 rw[gF]at gD;rw[kg]at gc;revert aU CG gD gc aA;generalize((w.alloc (.map #[] 0)).alloc (.map #[] 0)).alloc (.map #[] 0)=ai;generalize au:w.1.size=q;intro aU CG gD gc aA;rw[azD _ _ _ _ _ rfl rfl rfl rfl rfl];simp[go_sem];have dD:=cr ai (.cells (CE n p ⟨q,q+1,q+1+1,.slice none 0 0,.pointer none⟩ cb.dv) 138);have jN:=(H.refl al ai).alloc (.cells (CE n p ⟨q,q+1,q+1+1,.slice none 0 0,.pointer none⟩ cb.dv) 138);have kg:(ai.alloc (.cells (CE n p ⟨q,q+1,q+1+1,.slice none 0 0,.pointer none⟩ cb.dv) 138)).1.size=q+1+1+1+1:=by simp[aA]
 refine af _ _ ⟨ai.1.size,rfl,⟨⟨q,q+1,q+1+1,.slice none 0 0,.pointer none⟩,[],λ_=>False,?_⟩,aU.alloc _⟩;refine⟨dD,⟨_,CG.ch jN id,λa=>⟨λ_=>rfl,λb ab=>by simp[cb.dv]at ab⟩⟩,⟨_,gD.ch jN id,λa=>rfl⟩,⟨_,gc.ch jN id,λa=>rfl⟩,zj.nil _ _,rfl,?_,λ_ e=>e.elim,λ_ e=>e.elim,⟨by simp only;omega,by simp only;omega,by simp only;omega,by simp[Value.ownBlock]⟩,cb.fL.dv n,?_⟩
 ·rintro k (e|e|e|e|e)
  ·rw[e];exact⟨by omega,acQ (show ai.1.size<q+1+1+1+1 by omega) kg.symm⟩
  ·simp only at e;rw[e];exact⟨by omega,acQ (show q<q+1+1+1+1 by omega) kg.symm⟩
  ·simp_all
  ·simp only at e;rw[e];exact⟨by omega,acQ (show q+1+1<q+1+1+1+1 by omega) kg.symm⟩
  ·simp[Value.ownBlock]at e
 ·exact λk e=>e.2
end
structure ml(w:M)(d p n:Nat)(D:cb)(P:eL)(O:Nat->Prop):Prop where
 aB:Jn w d p n D O
 vB:ty w p P
 CK:¬O p
theorem eL.amH{P:eL}{k:Int}(h:P.dS<=k)(r:0<=k):P.step.dS<=k:=by
 unfold eL.step
 grind
section
variable {w w':M}{d p n:Nat}{D:cb}{P:eL}{O S:Nat->Prop}
theorem ml.ch(h:ml w d p n D P O)(Z:H S w w')(aq:∀k,O k->¬S k)(am:¬S p):ml w' d p n D P O:=⟨h.aB.ch Z aq,h.vB.ch Z am,h.CK⟩
theorem ml.amI(h:ml w d p n D P O):p<w.1.size:=lt_of_block h.vB
theorem ml.ih(h:ml w d p n D P O):∀k,O k->k<w.1.size:=by
 obtain⟨z,cB,bw,J⟩:=h.aB;exact J.ih
theorem ml.cN(h:ml w d p n D P O):¬aE O w w' p:=λe=>e.elim h.CK λe=>by have:=h.amI;omega
theorem ml.azF(h:ml w d p n D P O)(a:Nat)(ao:a<65536)(b:cW)(v:N)(tr:P.dS<=9223372036854775807)(eY:D.bT.length<=1000000)(Jy:∀x,D.gl=some x->x<65536)(aM:bC w v b.length (br b))(g_:0<b.length->∀k,v.ownBlock=some k->¬O k/\k≠p):
  bc prog 219 #[az d,.int .u16 a,v] w λv' w'=>v'=aa (zq (D.mF n P a b))/\ml w' d p n (D.ij n P a b) (D.sq n P a b) (aE O w w')/\H (λk=>O k\/k=p) w w':=by
 obtain⟨z,cB,bw,J⟩:=h.aB;refine(amA a ao b v P J h.vB h.CK tr eY Jy aM g_).mono ?_;rintro _ ai ⟨rfl,T,ag,aP,_⟩;exact⟨rfl,⟨T.at,ag,h.cN⟩,aP⟩
theorem ml.ij(h:ml w d p n D P O)(a:Nat)(ao:a<65536)(b:cW)(v:N)(tr:P.dS<=9223372036854775807)(eY:D.bT.length<=1000000)(Jy:∀x,D.gl=some x->x<65536)(aM:bC w v b.length (br b))(g_:∀k,v.ownBlock=some k->¬O k/\k≠p):
  bc prog 219 #[az d,.int .u16 a,v] w λv' w'=>v'=aa (zq (D.mF n P a b))/\ml w' d p n (D.ij n P a b) (D.sq n P a b) (aE O w w')/\H (λk=>O k\/k=p) w w':=h.azF a ao b v tr eY Jy aM λ_=>g_
theorem ml.ev(h:ml w d p n D P O)(tr:P.dS<=9223372036854775807)(eY:D.bT.length<=1000000):
  bc prog 127 #[az d] w λv' w'=>v'=aa (if D.gb P&&P.bX then 0 else 3)/\ml w' d p n (if D.gb P&&P.bX then D.ev else D) (if D.gb P then P.step else P) (aE O w w')/\H (λk=>O k\/k=p) w w':=by
 obtain⟨z,cB,bw,J⟩:=h.aB;refine(azw P J h.vB h.CK tr eY).mono ?_;rintro _ ai ⟨rfl,T,ag,aP⟩;exact⟨rfl,⟨T,ag,h.cN⟩,aP⟩
theorem ml.xS(h:ml w d p n D P O)(a:Nat)(ao:a<65536):bc prog 257 #[az d,.int .u16 a] w λv' w'=>amx w n D P a v' w'/\ml w' d p n D P O/\H al w w':=by
 obtain⟨z,cB,bw,J⟩:=h.aB;refine(azm a ao P J h.vB).mono ?_;rintro _ ai ⟨T,ag⟩;exact⟨T,h.ch ag (λ_ _ e=>e) id,ag⟩
theorem ml.bY(h:ml w d p n D P O):bc prog 92 #[az d] w λv' w'=>v'=.bool D.bY/\w'=w:=by
 obtain⟨z,cB,bw,J⟩:=h.aB;exact amh J
end
theorem amJ(n p:Nat)(w:M)(P:eL)(J:1<=n)(T:n<=4096)(am:ty w p P):bc prog 54 #[aa n,az p] w λv' w'=>∃d,v'=.tuple #[az d,aa 0]/\ml w' d p n cb.dv P (λk=>w.1.size<=k/\k<w'.1.size)/\H al w w':=by
 refine(azE n p w J T).mono ?_;rintro _ ai ⟨d,rfl,ag,aP⟩;exact⟨d,rfl,⟨ag,am.ch aP id,λe=>by have:=lt_of_block am;omega⟩,aP⟩
theorem azG(w:M):bc prog 53 #[] w λv' w'=>v'=.pointer (some ⟨w.1.size,0,none⟩)/\ty w' w.1.size eL.on/\H al w w':=(ayJ w).mono λ_ _ h=>⟨h.1,h.2.1,h.2.2.1⟩
section
variable {Y w w' w0:M}{d p:Nat}{D:cb}{O K:Nat->Prop}
end
end Go.Proofs.YtoohkhcpboldjaaGreatDoor
