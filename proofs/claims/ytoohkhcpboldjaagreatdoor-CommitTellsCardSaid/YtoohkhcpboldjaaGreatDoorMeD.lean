/- What is kept behind a commit of the law; a commit's ends; opening again. Conditions: the variables that are listed hold what the text lays; sizes. -/
import Derived.Test.YtoohkhcpboldjaaGreatDoorMeA
set_option maxRecDepth 100000
set_option maxHeartbeats 4000000
set_option linter.unusedSimpArgs false
set_option linter.unusedVariables false
namespace Go.Proofs.YtoohkhcpboldjaaGreatDoor
open Go.RowKit Go.Kin Go.Maps Tryz
section
variable {Y w w':M}{K S:Nat->Prop}{x m p n cg:Nat}{z:fV}{X ig:kY}{st:et}
def wr(p m cg:Nat)(z:fV)(st:et):Array N:=h_ (az p) (.pointer (some ⟨z.d 0,0,none⟩)) (.pointer (some ⟨z.d 1,0,none⟩)) (.pointer (some ⟨z.c',0,none⟩)) (az m) (az cg) st
theorem nJ.ch(h:nJ w x p m cg z st)(Z:H S w w')(W:¬S x):nJ w' x p m cg z st:=⟨Z.obj h.blk W,h.ok⟩
theorem nJ.b(h:nJ w x p m cg z st):w.1[x]? =some (.cells (wr p m cg z st) 48 (0,0)):=h.blk
theorem nJ.aK(h:nJ w x p m cg z st):w.cell? (bl x 2)=some (.pointer (some ⟨z.d 1,0,none⟩)):=(aG h.blk 2).trans aF0
theorem nJ.aI(h:nJ w x p m cg z st):w.cell? (bl x 3)=some (.pointer (some ⟨z.c',0,none⟩)):=(aG h.blk 3).trans aF1
theorem nJ.bo(h:nJ w x p m cg z st):w.cell? (bl x 4)=some (az m):=(aG h.blk 4).trans aF2
theorem nJ.bE(h:nJ w x p m cg z st):w.cell? (bl x 5)=some (az cg):=(aG h.blk 5).trans aF3
theorem adw(ok:gi st):(wr p m cg z st).size=89:=aax ok
theorem adv(ok:gi st):(wr p m cg z st).extract 6 89=bN st:=aF4 ok
theorem km.aly{w0:M}{O:Nat->Prop}(h:km m p n cg z X w O)(eZ:∀k,O k->w0.1.size<=k)(Z:H al w0 w)(cv:hI w0)(fT:jz w0)(gB:qO w0):eJ w0 w (λk=>k<w.1.size/\¬O k) m p n cg z X:=
 ⟨⟨O,h,eZ,λ_ r=>r.2⟩,λ_ r=>r.1,cv,fT,gB,λk r=>⟨gQ (LV cv fT gB k r) Z.size,λe=>by have:=eZ k e;have:=LV cv fT gB k r;omega⟩,Z⟩
end
theorem aF5{w:M}{K:N->M->Prop}:jb prog 113 [(0,.int .u8 2),(1,.int .u16 1)] w K=K (.agg (aZ yo)) w:=by
 refine ma underlying113 uj (places:=#[(0,1),(1,1),(2,1),(3,41)]) (by simp[go_sem]) ?_;have hz:=hA jy;have:=awR 2 1;simp[jw,uk,Value.cells,hz,uf,yo]at this⊢;exact this
theorem X_{x:et}:(bN x)[0]? =some (.int .u64 x.gen):=by simp[bN,Ce]
instance :DecidableEq et:=λa b=>decidable_of_iff (a.gen=b.gen/\a.top=b.top/\a.dd=b.dd) (by
 obtain⟨k,n,V⟩:=a;obtain⟨lD,fB,OU⟩:=b;simp only[et.mk.injEq])
theorem adK(w:M){x y:et}(W:gi x)(ar:gi y):(Op.equalIn 10000 46 (.agg (bN x)) (.agg (bN y))).run prog w=.ok (decide (x=y)) w:=by
 have aL:∀w,(Op.equalIn 9999 44 (.agg (ae x.top)) (.agg (ae y.top))).run prog w=.ok (decide (x.top=y.top)) w:=λw=>RN w 9996 W.top ar.top;have aR:∀w,(Op.equalIn 9999 44 (.agg (ae x.dd)) (.agg (ae y.dd))).run prog w=.ok (decide (x.dd=y.dd)) w:=λw=>RN w 9996 W.dd ar.dd;have Z:∀a b:Nat,((a:Int)==(b:Int))=decide (a=b):=λa b=>by
  grind
 rw[Op.equalIn];simp[go_sem,X_,ZN W,ZN ar,S_ W,S_ ar,aL,aR,Z];obtain⟨k,n,V⟩:=x;obtain⟨lD,fB,OU⟩:=y;simp only[et.mk.injEq]
 grind
theorem axD(w:M)(cv:hI w)(fT:jz w)(gB:qO w):bc prog 10 #[] w λv' w'=>v'=.bool true/\H al w w':=by
 obtain⟨cL,dC⟩:=alv;refine bz func10 ntmps10 λbk af=> ?_;simp[go_sem];refine(alx 40 w (by decide) (by decide)).mono ?_;rintro _ ai ⟨x,p,m,cg,z,rfl,W,aT,axG,aY⟩;have nG:=lo W.ok;have mg:=un W.ok;have tn:(wr p m cg z dU).size=89:=adw W.ok;have eS:(wr p m cg z dU).extract 6 89=bN dU:=adv W.ok;have sn:=aT.aly (λk r=>r.1.1) aY cv fT gB;have lr:=lt_of_block W.blk;simp[go_sem];refine cT [F 0,F 1,F 2,F 3,F 4,F 5,F 6,F 7,F 8,(9,some []),F 10,(11,some []),F 12,F 13,F 14,F 15,F 16] ?_;have Kz:=W.ch (H.refl al ai).drew id;simp[go_sem,W.bo,Kz.bo,W.b,Kz.b,tn,eS];refine(OZ _ _ dU W.ok _ rfl).mono ?_;rintro _ an ⟨v,rfl,qh,ky,aM,aK⟩;simp[go_sem];refine(alB 53 (az v) an).mono ?_;rintro _ aJ ⟨o,Cn,rfl,av,aI⟩;simp[go_sem,aF5];have hQ:H al ai aJ:=H.hR aK|>.trans aI;have hK:=aY.trans hQ;have aF6:mb aJ:=cv.qQ.ch hK id;refine(aqi av 1 yo aqK aF6 (by decide)).mono ?_;rintro _ bs ⟨rfl,aP,bo⟩;have A_:cV.dv.w_ 1 yo=rV:=rfl;rw[A_]at aP;have aV:(hY 1 0&&fc yo)=true:=by rw[aqL];decide
 rw[aV];have Fx:=sn.hp hQ;have axL:=aI.size;have aR3:ai.1.size<=an.1.size:=aK.size;have gq:=Fx.own bo λk r=>⟨.inr ⟨by omega,r.2⟩,by have:=aY.size;omega⟩;simp[go_sem];obtain⟨aR4,aF7,aF8,ig,cJ,ko,pC,IY,aF9,SJ,KA,Eu,IW,aqW,aF_,zZ,eT,aF',aGa⟩:=aFA;have adz:=LV cv fT gB;have OY:∀k,w.1.size<=k->¬iK k:=λk r e=>by have:=adz k e;omega
 have su:=(W.ch hQ id).ch bo λe=>by omega
 obtain⟨QH,ahb⟩:=aD ((λk=>((k<ai.1.size/\¬((w.1.size<=k/\k<ai.1.size)/\k≠x))\/oA ai aJ k)\/oA aJ bs k));rw[ahb]at gq;have UU:QH x:=by rw[<-ahb];exact .inl (.inl ⟨lr,λe=>e.2 rfl⟩)
 have gF:=aY.size;have I_:∀j,(an.1.size<=j/\j<aJ.1.size)\/False->QH j/\¬iK j:=λj I=>by
  rcases I with I|I
  ·exact⟨by rw[<-ahb];exact .inl (.inr ⟨by omega,I.2⟩),OY j (by omega)⟩
  ·exact I.elim
 have tr:640000<=gX cL ⟨ay.dv,[],[]⟩:=by
  have:=(jV.start (n:=40) (by decide)).eX rfl iL.start dC;exact dK (by decide) this
 have MO:∀a o b,rV.lf (a,o)=some b->b=[]\/b.length=512:=λa o b h=>by rw[aaE]at h;cases h
 have LY:∀{u:M} {K:Nat->Prop},eJ w u K m p 40 cg z ⟨ay.dv,qP⟩->(∀k,QH k->K k)->H al bs u->bc prog 21 #[az m,.pointer (some ⟨z.c',0,none⟩),az cg,.agg (bN dU),az o] u λv' w'=>(v'=.tuple #[.agg (bN cJ),aa 0]/\gi cJ)/\eJ w w' K m p 40 cg z ig/\H (λk=>¬K k) u w':=λr adI Z=>
  r.SH dC aF7 (by decide) tr W.ok agx aF8 (by decide) (aP.ch Z (λ_ _ e=>e) λ_ _ e=>e) (λj I=>⟨adI j (I_ j I).1,(I_ j I).2⟩) aFy (by decide) MO aFz (by decide) pC
 have qT:=lo KA;have qU:=un KA;have ee:=lo ts;obtain⟨Gx,AR⟩:∃Gx:(Nat->N)->M->Prop,Gx=λf' cq=>f' 1=az x/\f' 5=aa 0/\∃cy,f' 4=az cy/\cq.1[cy]? =some (.cells (bN cJ) 46 (0,0))/\bs.1.size<=cy/\nJ cq x p m cg z dU/\eJ w cq (λk=>QH k\/k=cy) m p 40 cg z ig:=⟨_,rfl⟩;have FB:=su.ch (H.refl al bs).drew id;have aqX:eJ w bs.drew QH m p 40 cg z ⟨ay.dv,qP⟩:=(gq.hp (H.refl al bs).drew).mV (λ_ e=>.inl e) gq.d';refine Ja Gx [[F 0,F 1,F 2,F 3,F 4,F 5,F 6,F 7,F 8,F 9,F 10,F 11,F 12,F 13,F 14,F 15,F 16,(17,some []),F 18,F 19,F 20,(21,some [18,19,20]),(22,some [20]),F 23],
  [F 0,F 1,F 2,F 3,F 4,F 5,F 6,F 7,F 8,F 9,F 10,F 11,F 12,F 13,F 14,F 15,F 16,(21,some [0,1,2,3,4,5,6,7,8,9,10,11,12,13,14,15,16]),(17,some []),F 18,F 19,F 20,(22,some [20]),F 23]] (by kernel_rfl) (by kernel_rfl) ?_ ?_
 ·intro mh mA;simp only[io,yD,or_false]at mA;rcases mA with rfl|rfl
  ·simp[go_sem,su.aK,su.aI,su.bo,su.bE,FB.aI,FB.bo,FB.bE,su.b,FB.b,tn,eS];refine(LY aqX (λ_ e=>e) (H.refl al bs).drew).mono ?_;rintro _ bD ⟨⟨rfl,_⟩,xJ,bE⟩;have gj:=cr bD (.cells (bN cJ) 46);have cF:=(H.refl al bD).alloc (.cells (bN cJ) 46);have nI:=xJ.hp cF;have oP:=(FB.ch bE λe=>e UU).ch cF id;have SE:=bE.size;have aGb:bs.1.size<=bD.1.size:=SE;simp[go_sem,pJ,wt,wu,ee,qT,qU,mW,bS];rw[AR];refine⟨by simp,by simp,_,by simp,gj,aGb,oP,nI.mV (λk r=>r.imp id λe=> ?_) λk r=>.inl (gq.d' k r)⟩;rw[e];exact⟨c_ _,lt_of_block gj⟩
  ·have dD:=cr bs.drew (.cells (bN dU) 46);have aU:=(H.refl al bs.drew).alloc (.cells (bN dU) 46);have fN:=FB.ch aU id;have Cp:=aqX.hp aU;simp[go_sem,su.aK,su.aI,su.bo,su.bE,FB.aI,FB.bo,FB.bE,su.b,FB.b,tn,eS];rw[pJ (hz:=wt) (h:=by simp[go_sem]),wu];obtain⟨cy,zT⟩:=aD (bs.drew.1.size);have aR5:bs.1.size=cy:=zT;rw[zT]at dD⊢;obtain⟨wv,j_⟩:=aD (bs.drew.alloc (.cells (bN dU) 46));rw[j_]at dD aU fN Cp⊢;clear j_;simp[go_sem,fN.aI,fN.bo,fN.bE,fN.b,tn,eS];refine(LY Cp (λ_ e=>.inl e) ((H.refl al bs).drew.trans aU)).mono ?_;rintro _ bD ⟨⟨rfl,_⟩,xJ,bE⟩;have iM:oA bs.drew wv cy:=⟨by omega,lt_of_block dD⟩;have dG:=bE.obj dD λe=>e (.inr iM);have Ac:=fN.ch bE λe=>e (.inl UU);have cF:=(H.refl (aj cy) bD).setRow (g:=cy) (.inl rfl) (bN cJ);have nI:=xJ.own cF λk r=>⟨by simp only[aj]at r;rw[r];exact .inr iM,by simp only[aj]at r;have:=hK.size;have:=bo.size;omega⟩;have oP:=Ac.ch cF λe=>by
    simp only[aj]at e;have:=gq.lt x UU;omega
   simp[go_sem,dG,ee,qT,qU,mW,bS];rw[AR];refine⟨by simp,by simp,cy,by simp,by rw[gh,dG];rfl,by omega,oP,nI.mV (λk r=>.inl (r.imp id λe=>by rw[e];exact iM)) λk r=>.inl (gq.d' k r)⟩
 rw[AR];rintro f u ⟨aW,f5,cy,ck,cI,zT,Ds,yq⟩;clear AR Gx LY;obtain⟨QI,ahc⟩:=aD ((λk=>QH k\/k=cy));rw[ahc]at yq;have QJ:QI x:=by rw[<-ahc];exact .inl UU
 have QK:QI cy:=by rw[<-ahc];exact .inr rfl
 have KB:=yq.ch.size;simp[go_sem];have eF:=hA aqW;have fN:=tj aqW;have ahd:=hA jy;have LZ:96<=za cL ig:=by
  have hn:=eT.lQ aF' aGa;have UP:eb.Fn ⟨ig.s,[],[]⟩ 160:=⟨hn,gG _⟩;show 96<=700000 - cL _;rcases dC ⟨ig.s,[],[]⟩with k|k
  ·have:=k.2 _ UP;omega
  ·exact absurd UP (k.1 _)
 have ahe:u.drew.1[cy]? =some (.cells (bN cJ) 46 (0,0)):=cI;have ahf:=Ds.ch (H.refl al u).drew id;have aZ:∀{gw u2:M} {K:Nat->Prop} {v:Nat},eJ w gw K m p 40 cg z ig->qA gw v (up m) cJ->bc prog 52 #[az v,.int .u16 1] gw λv' w'=>(v'=.tuple #[.agg (aZ ko),aa 0]/\fu ko)/\eJ w w' K m p 40 cg z ig/\H (λk=>¬K k) gw w':=λ{gw u2 K v} r aM=>
  r.aZ dC LZ aM KA 1 (by decide) IW
 have bU:∀{db:M} {cA:Nat} {K:Nat->Prop},db.1[cA]? =some (.cells (Go.Proofs.YtoohkhcpboldjaaGreatDoor.aZ bp) 113 (0,0))->w.1.size<=cA->db.1[cy]? =some (.cells (bN cJ) 46 (0,0))->nJ db x p m cg z dU->eJ w db K m p 40 cg z ig->(∀k,QI k->K k)->K cA->cA≠cy->cA≠x->
   (db.setRow cA (Go.Proofs.YtoohkhcpboldjaaGreatDoor.aZ ko)).1[cA]? =some (.cells (Go.Proofs.YtoohkhcpboldjaaGreatDoor.aZ ko) 113 (0,0))/\w.1.size<=cA/\(db.setRow cA (Go.Proofs.YtoohkhcpboldjaaGreatDoor.aZ ko)).1[cy]? =some (.cells (bN cJ) 46 (0,0))/\nJ (db.setRow cA (Go.Proofs.YtoohkhcpboldjaaGreatDoor.aZ ko)) x p m cg z dU/\eJ w (db.setRow cA (Go.Proofs.YtoohkhcpboldjaaGreatDoor.aZ ko)) (λk=>QI k\/k=cA) m p 40 cg z ig:=λ{db cA K} a1 a2 a3 a4 a5 SL L_ ahg a9=>by
  have c:=(H.refl (aj cA) db).setRow (g:=cA) (.inl rfl) (Go.Proofs.YtoohkhcpboldjaaGreatDoor.aZ ko);refine⟨by rw[gh,a1];rfl,a2,c.obj a3 λe=>ahg e.symm,a4.ch c λe=>a9 e.symm,(a5.own c λk r=> ?_).mV (λk r=>.inl (r.elim (SL k) λe=>by rw[e];exact L_)) λk r=>.inl (yq.d' k r)⟩;simp only[aj]at r
  grind
 obtain⟨GA,AT⟩:∃GA:(Nat->N)->M->Prop,GA=λf' cq=>f' 1=az x/\f' 4=az cy/\f' 5=aa 0/\f' 7=aa 0/\∃cA,f' 6=az cA/\cq.1[cA]? =some (.cells (Go.Proofs.YtoohkhcpboldjaaGreatDoor.aZ ko) 113 (0,0))/\w.1.size<=cA/\cq.1[cy]? =some (.cells (bN cJ) 46 (0,0))/\nJ cq x p m cg z dU/\eJ w cq (λk=>QI k\/k=cA) m p 40 cg z ig:=⟨_,rfl⟩;refine Ja GA [[F 0,F 1,F 2,F 3,F 4,F 5,(6,some []),(7,some []),F 8,F 9,F 10,(11,some [8,9,10]),(12,some [10]),F 13],
  [F 0,F 1,F 2,F 3,F 4,F 5,(6,some []),(11,some []),(7,some []),F 8,F 9,F 10,(12,some [10]),F 13],
  [F 0,F 1,F 2,F 3,F 4,F 5,(11,some [0,1,2,3,4,5]),(6,some []),(7,some []),F 8,F 9,F 10,(12,some [10]),F 13]] (by kernel_rfl) (by kernel_rfl) ?_ ?_
 ·intro mh mA;simp only[io,yD,or_false]at mA;rcases mA with rfl|rfl|rfl
  ·simp[go_sem,aW,ck,Ds.bo,ahf.bo,cI,ahe,qT,qU];refine(OZ _ _ cJ KA _ rfl).mono ?_;rintro _ cD ⟨hk,rfl,aqY,aqZ,ky,cF⟩;have Co:H al u cD:=H.hR cF;simp[go_sem];refine(aZ (u2:=u) (yq.hp Co) ky).mono ?_;rintro _ cE ⟨⟨rfl,_⟩,Na,dE⟩;have kk:=cr cE (.cells (Go.Proofs.YtoohkhcpboldjaaGreatDoor.aZ ko) 113);have ds:=(H.refl al cE).alloc (.cells (Go.Proofs.YtoohkhcpboldjaaGreatDoor.aZ ko) 113);have iy:=dE.size;have qs:=Co.size;simp[go_sem,pJ,uj,uk,ahd,eF,fN,bS];rw[AT];exact⟨by simp[aW],by simp[ck],by simp[f5],by simp,cE.1.size,by simp,kk,by omega,((Co.obj cI id|>λh=>dE.obj h λe=>e (.inl QK))|>λh=>ds.obj h id),((Ds.ch Co id).ch dE λe=>e (.inl QJ)).ch ds id,(Na.hp ds).mV (λk r=>r.elim (λe=>.inl (.inl e)) λe=>.inr (by rw[e];exact⟨c_ _,lt_of_block kk⟩)) λk r=>.inl (yq.d' k r)⟩
  ·simp[go_sem,aW,ck,Ds.bo,ahf.bo,cI,ahe,qT,qU];refine(OZ _ _ cJ KA _ rfl).mono ?_;rintro _ cD ⟨hk,rfl,aqY,aqZ,ky,cF⟩;have Co:H al u cD:=H.hR cF;simp[go_sem];rw[pJ (hz:=uj) (h:=by simp[go_sem]),uk];have dD:=cr cD (.cells (Go.Proofs.YtoohkhcpboldjaaGreatDoor.aZ bp) 113);have aU:=(H.refl al cD).alloc (.cells (Go.Proofs.YtoohkhcpboldjaaGreatDoor.aZ bp) 113);have qs:=Co.size;obtain⟨cA,vG⟩:=aD (cD.1.size);rw[vG]at dD⊢;obtain⟨wv,j_⟩:=aD (cD.alloc (.cells (Go.Proofs.YtoohkhcpboldjaaGreatDoor.aZ bp) 113));rw[j_]at dD aU⊢;clear j_;have oB:=Co.trans aU;simp[go_sem];refine(aZ (u2:=u) (yq.hp oB) (aU.obj ky id)).mono ?_;rintro _ cE ⟨⟨rfl,_⟩,Na,dE⟩;have iM:oA u wv cA:=⟨by omega,lt_of_block dD⟩;have kk:=dE.obj dD λe=>e (.inr iM);simp[go_sem,kk,ahd,eF,fN,bS];rw[AT];exact⟨by simp[aW],by simp[ck],by simp[f5],by simp,cA,by simp,bU kk (by omega) (dE.obj (oB.obj cI id) λe=>e (.inl QK)) ((Ds.ch oB id).ch dE λe=>e (.inl QJ)) Na (λ_ e=>.inl e) (.inr iM) (by have:=yq.lt cy QK;omega) (by have:=yq.lt x QJ;omega)⟩
  ·simp[go_sem,aW,ck,Ds.bo,ahf.bo,cI,ahe,qT,qU];rw[pJ (hz:=uj) (h:=by simp[go_sem]),uk];have dD:=cr u.drew (.cells (Go.Proofs.YtoohkhcpboldjaaGreatDoor.aZ bp) 113);have aU:=(H.refl al u.drew).alloc (.cells (Go.Proofs.YtoohkhcpboldjaaGreatDoor.aZ bp) 113);obtain⟨cA,vG⟩:=aD (u.drew.1.size);have aR6:u.1.size=cA:=vG;rw[vG]at dD⊢;obtain⟨wv,j_⟩:=aD (u.drew.alloc (.cells (Go.Proofs.YtoohkhcpboldjaaGreatDoor.aZ bp) 113));rw[j_]at dD aU⊢;clear j_;have Cr:H al u wv:=H.hR aU;have aGc:=Ds.ch Cr id;have aGd:=Cr.obj cI id;simp[go_sem,aW,ck,aGc.bo,aGd,qT,qU];refine(OZ _ _ cJ KA _ rfl).mono ?_;rintro _ cD ⟨hk,rfl,aqY,aqZ,ky,cF⟩;have oB:=Cr.trans cF;simp[go_sem];refine(aZ (u2:=u) (yq.hp oB) ky).mono ?_;rintro _ cE ⟨⟨rfl,_⟩,Na,dE⟩;have qs:=cF.size;have iM:oA u cD cA:=⟨by omega,by have:=lt_of_block dD;omega⟩;have kk:=dE.obj (cF.obj dD id) λe=>e (.inr iM);simp[go_sem,kk,ahd,eF,fN,bS];rw[AT];exact⟨by simp[aW],by simp[ck],by simp[f5],by simp,cA,by simp,bU kk (by omega) (dE.obj (oB.obj cI id) λe=>e (.inl QK)) ((Ds.ch oB id).ch dE λe=>e (.inl QJ)) Na (λ_ e=>.inl e) (.inr iM) (by have:=yq.lt cy QK;omega) (by have:=yq.lt x QJ;omega)⟩
 rw[AT];rintro f tp ⟨aW,ck,f5,bQ,cA,f6,gj,vG,ahh,oP,nI⟩;clear AT GA bU aZ;obtain⟨Nh,aaI⟩:=aD ((λk=>QI k\/k=cA));rw[aaI]at nI;have Vc:Nh x:=by rw[<-aaI];exact .inl QJ
 have Vd:Nh cy:=by rw[<-aaI];exact .inl QK
 have Ve:Nh cA:=by rw[<-aaI];exact .inr rfl
 have nc:=nI.ch.size;simp[go_sem];have QL:=oP.ch (H.refl al tp).drew id;have aq0:eJ w tp.drew Nh m p 40 cg z ig:=(nI.hp (H.refl al tp).drew).mV (λ_ e=>.inl e) nI.d';have Cq:∀{gw:M} {K:Nat->Prop},eJ w gw K m p 40 cg z ig->bc prog 26 #[up m,.agg (wx ig.ea)] gw λv' w'=>(v'=.tuple #[.agg (bN cJ),aa 0]/\gi cJ)/\eJ w w' K m p 40 cg z ig/\H (λk=>¬K k) gw w':=λ{gw K} r=>r.Cq dC LZ Eu SJ;have bU:∀{db:M} {eG:Nat} {K:Nat->Prop},db.1[eG]? =some (.cells (bN dU) 46 (0,0))->w.1.size<=eG->db.1[cy]? =some (.cells (bN cJ) 46 (0,0))->db.1[cA]? =some (.cells (aZ ko) 113 (0,0))->nJ db x p m cg z dU->eJ w db K m p 40 cg z ig->(∀k,Nh k->K k)->K eG->eG≠cy->eG≠cA->eG≠x->
   (db.setRow eG (bN cJ)).1[eG]? =some (.cells (bN cJ) 46 (0,0))/\(db.setRow eG (bN cJ)).1[cy]? =some (.cells (bN cJ) 46 (0,0))/\(db.setRow eG (bN cJ)).1[cA]? =some (.cells (aZ ko) 113 (0,0))/\nJ (db.setRow eG (bN cJ)) x p m cg z dU/\eJ w (db.setRow eG (bN cJ)) Nh m p 40 cg z ig:=λ{db eG K} a1 a2 a3 aGe a4 a5 SL L_ ahg aGf a9=>by
  have c:=(H.refl (aj eG) db).setRow (g:=eG) (.inl rfl) (bN cJ);refine⟨by rw[gh,a1];rfl,c.obj a3 λe=>ahg e.symm,c.obj aGe λe=>aGf e.symm,a4.ch c λe=>a9 e.symm,(a5.own c λk r=> ?_).mV (λk r=>.inl (SL k r)) nI.d'⟩;simp only[aj]at r
  grind
 obtain⟨ahi,aaJ⟩:∃ahi:(Nat->N)->M->Prop,ahi=λf' cq=>f' 1=az x/\f' 4=az cy/\f' 5=aa 0/\f' 6=az cA/\f' 7=aa 0/\f' 9=aa 0/\∃eG,f' 8=az eG/\cq.1[eG]? =some (.cells (bN cJ) 46 (0,0))/\cq.1[cy]? =some (.cells (bN cJ) 46 (0,0))/\cq.1[cA]? =some (.cells (aZ ko) 113 (0,0))/\nJ cq x p m cg z dU/\eJ w cq Nh m p 40 cg z ig:=⟨_,rfl⟩;refine Ja ahi [[F 0,F 1,F 2,F 3,F 4,F 5,F 6,F 7,F 8,(9,some [0,1,2,3,4]),(10,some []),F 11,F 12,F 13,(14,some [11,12,13]),(15,some [13]),F 16],
  [F 0,F 1,F 2,F 3,F 4,F 5,F 6,F 7,F 8,(9,some [0,1,2,3,4]),(14,some [0,1,2,3,4]),(10,some []),F 11,F 12,F 13,(15,some [13]),F 16],
  [F 0,F 1,F 2,F 3,F 4,F 5,F 6,F 7,F 8,(14,some [0,1,2,3,4,5,6,7,8]),(9,some [0,1,2,3,4]),(10,some []),F 11,F 12,F 13,(15,some [13]),F 16]] (by kernel_rfl) (by kernel_rfl) ?_ ?_
 ·intro mh mA;simp only[io,yD,or_false]at mA;rcases mA with rfl|rfl|rfl
  ·simp[go_sem,aW,oP.bo,oP.bE,QL.bo,QL.bE];refine(aq0.load Eu).mono ?_;rintro _ cE ⟨rfl,dE⟩;have pI:H al tp cE:=H.hR dE;have FC:=oP.ch pI id;simp[go_sem,aW,FC.bo];refine(Cq (nI.hp pI)).mono ?_;rintro _ ec ⟨⟨rfl,_⟩,mT,ds⟩;have qj:=cr ec (.cells (bN cJ) 46);have dV:=(H.refl al ec).alloc (.cells (bN cJ) 46);simp[go_sem,pJ,wt,wu,ee,qT,qU,mW,bS];rw[aaJ];exact⟨by simp[aW],by simp[ck],by simp[f5],by simp[f6],by simp[bQ],by simp,ec.1.size,by simp,qj,dV.obj (ds.obj (pI.obj ahh id) λe=>e (.inl Vd)) id,dV.obj (ds.obj (pI.obj gj id) λe=>e (.inl Ve)) id,(FC.ch ds λe=>e (.inl Vc)).ch dV id,(mT.hp dV).mV (λk r=>.inl (.inl r)) nI.d'⟩
  ·simp[go_sem,aW,oP.bo,oP.bE,QL.bo,QL.bE];refine(aq0.load Eu).mono ?_;rintro _ cE ⟨rfl,dE⟩;have pI:H al tp cE:=H.hR dE;have FC:=oP.ch pI id;simp[go_sem,aW,FC.bo];rw[pJ (hz:=wt) (h:=by simp[go_sem]),wu];have dD:=cr cE (.cells (bN dU) 46);have aU:=(H.refl al cE).alloc (.cells (bN dU) 46);have alH:=pI.size;obtain⟨eG,vp⟩:=aD (cE.1.size);rw[vp]at dD⊢;obtain⟨wv,j_⟩:=aD (cE.alloc (.cells (bN dU) 46));rw[j_]at dD aU⊢;clear j_;have oB:=pI.trans aU;simp[go_sem,aW,(oP.ch oB id).bo];refine(Cq (nI.hp oB)).mono ?_;rintro _ ec ⟨⟨rfl,_⟩,mT,ds⟩;have iM:oA tp wv eG:=⟨by omega,lt_of_block dD⟩;have jI:=ds.obj dD λe=>e (.inr iM);simp[go_sem,jI,ee,qT,qU,mW,bS];rw[aaJ];exact⟨by simp[aW],by simp[ck],by simp[f5],by simp[f6],by simp[bQ],by simp,eG,by simp,bU jI (by omega) (ds.obj (oB.obj ahh id) λe=>e (.inl Vd)) (ds.obj (oB.obj gj id) λe=>e (.inl Ve)) ((oP.ch oB id).ch ds λe=>e (.inl Vc)) mT (λ_ e=>.inl e) (.inr iM) (by have:=nI.lt cy Vd;omega) (by have:=nI.lt cA Ve;omega) (by have:=nI.lt x Vc;omega)⟩
  ·simp[go_sem,aW,oP.bo,oP.bE,QL.bo,QL.bE];rw[pJ (hz:=wt) (h:=by simp[go_sem]),wu];have dD:=cr tp.drew (.cells (bN dU) 46);have aU:=(H.refl al tp.drew).alloc (.cells (bN dU) 46);obtain⟨eG,vp⟩:=aD (tp.drew.1.size);have ax6:tp.1.size=eG:=vp;rw[vp]at dD⊢;obtain⟨wv,j_⟩:=aD (tp.drew.alloc (.cells (bN dU) 46));rw[j_]at dD aU⊢;clear j_;have Cr:H al tp wv:=H.hR aU;have aq1:=oP.ch Cr id;simp[go_sem,aW,aq1.bo,aq1.bE];refine((nI.hp Cr).load Eu).mono ?_;rintro _ cE ⟨rfl,dE⟩;have oB:=Cr.trans dE;have FC:=oP.ch oB id;simp[go_sem,aW,FC.bo];refine(Cq (nI.hp oB)).mono ?_;rintro _ ec ⟨⟨rfl,_⟩,mT,ds⟩;have iy:=dE.size;have iM:oA tp cE eG:=⟨by omega,by have:=lt_of_block dD;omega⟩;have jI:=ds.obj (dE.obj dD id) λe=>e (.inr iM);simp[go_sem,jI,ee,qT,qU,mW,bS];rw[aaJ];exact⟨by simp[aW],by simp[ck],by simp[f5],by simp[f6],by simp[bQ],by simp,eG,by simp,bU jI (by omega) (ds.obj (oB.obj ahh id) λe=>e (.inl Vd)) (ds.obj (oB.obj gj id) λe=>e (.inl Ve)) ((oP.ch oB id).ch ds λe=>e (.inl Vc)) mT (λ_ e=>.inl e) (.inr iM) (by have:=nI.lt cy Vd;omega) (by have:=nI.lt cA Ve;omega) (by have:=nI.lt x Vc;omega)⟩
 rw[aaJ];rintro f u ⟨aW,ck,f5,f6,bQ,dt,eG,bB,jI,cI,gj,Ds,yq⟩;have aGg:u.cell? (bl cy 0)=some (.int .u64 1):=by rw[aG cI,X_,IY];rfl
 have aGh:u.cell? (bl cA 0)=some (.int .u8 2):=by rw[aG gj,Gn,aF_];rfl
 have adM:∀w,(Op.equalIn 10000 46 (.agg (bN cJ)) (.agg (bN cJ))).run prog w=.ok true w:=λw=>by rw[adK w KA KA,ou rfl]
 simp[go_sem,aW,ck,f5,f6,bQ,dt,aGg,Ds.aI];refine(yq.count (i:=0) (by decide) (by decide) (zZ 0 (by decide)).2).mono ?_;rintro _ fY ⟨rfl,dc⟩;have aq2:=Ds.ch dc id;have aq3:=(yq.hp dc).mV (λk r=>.inl r) nI.d';unfold SO;rw[(zZ 0 (by decide)).1];simp[go_sem,Instr.field,asAgg,part,aW,aq2.aI];refine(aq3.count (i:=1) (by decide) (by decide) (zZ 1 (by decide)).2).mono ?_;rintro _ hk ⟨rfl,hl⟩;have aGi:=aq2.ch hl id;have aq4:=(aq3.hp hl).mV (λk r=>.inl r) nI.d';have aGj:=(dc.trans hl).cell aGh id;have ahj:=(dc.trans hl).obj jI id;have ahk:=(dc.trans hl).obj cI id;unfold SO;rw[(zZ 1 (by decide)).1];simp[go_sem,Instr.field,asAgg,part,aW,ck,f6,bQ,bB,dt,aGj,ahj,ahk,qT,qU,adM,aGi.bE];refine(aq4.load Eu).mono ?_;rintro _ v3 ⟨rfl,ew⟩;have kj:(wx ig.ea)[0]? =some (.int .u64 1):=by
  have:=Ga (n:=ig.ea.1) (h:=ig.ea.2.1) (a:=ig.ea.2.2);exact this.trans (by rw[aF9];rfl)
 simp[go_sem,Instr.field,asAgg,part,kj];exact af _ _ ⟨rfl,aq4.ch.trans ew⟩
def LS(w:M)(v:N)(L:List (List gR)):Prop:=∃cB:List N,cB.length=L.length/\bC w v L.length cB/\∀(i:Nat) (AK:N) (l:List gR),cB[i]? =some AK->L[i]? =some l->fC w AK ln 49 l/\∀x∈l,x.fL
theorem aGk:sd prog 22 23 (.slice none 0 0) 24:=⟨underlying22,by kernel_rfl,rfl⟩
theorem LS.len{w:M}{v:N}{L:List (List gR)}(h:LS w v L)(w':M):(Builtin.len_ #[22] 3 #[v]).run prog w'=.ok (aa L.length) w':=by
 obtain⟨cB,J,T,ag⟩:=h;exact T.len underlying22 3 w'
theorem LS.at{w:M}{v:N}{L:List (List gR)}(h:LS w v L){i:Nat}{l:List gR}(ad:L[i]? =some l):∃a AK,(∀w',(Instr.indexAt 22 v (aa i)).run prog w'=.ok (.pointer (some a)) w')/\w.cell? a=some AK/\v.ownBlock=some a.block/\fC w AK ln 49 l/\∀x∈l,x.fL:=by
 obtain⟨cB,J,T,ag⟩:=h;have aO:=(jG.1 ad).1;obtain⟨AK,IW⟩:∃AK,cB[i]? =some AK:=⟨_,d_ (by omega)⟩;obtain⟨a,bn,bh,bA⟩:=T.at aGk J IW
 grind
theorem axE(v:N)(L:List (List gR))(w:M)(h:LS w v L):bc prog 9 #[v] w λv' w'=>v'=.bool (!(decide (L.length<=8)&&L.all λl=>decide (l.length<=30)))/\H al w w':=by
 refine bz func9 ntmps9 λbk af=> ?_;have cu:=h.len;by_cases er:L.length<=8
 ·have Ad:¬(8:Int)<L.length:=by omega
  rw[ou er,Gf]at af;simp[go_sem,cu,Ad];refine di (λV f u=>∃i,V=L.length - i/\i<=L.length/\f 0=v/\f 3=aa i/\(∀(j:Nat) l,j<i->L[j]? =some l->l.length<=30)/\H al w u) L.length
   ⟨0,rfl,by omega,by simp,by simp,λj l I=>absurd I (by omega),H.refl _ _⟩ ?_
  rintro cQ bJ _ f u ⟨i,rfl,ad,f0,bR,mE,Z⟩;by_cases aO:i<L.length
  ·have fy:(i:Int)<L.length:=by omega
   have eQ:IntKind.i64.wrap ((i:Int)+1)=(i:Int)+1:=by rw[cz];omega
   obtain⟨l,ak⟩:∃l,L[i]? =some l:=⟨_,d_ aO⟩;obtain⟨a,AK,bn,bh,_,bA,_⟩:=h.at ak;have Ya:=Z.cell bh id;have aq5:=bA.len underlying23 3;by_cases aR7:l.length<=30
   ·have ahl:¬(30:Int)<l.length:=by omega
    simp[go_sem,f0,bR,cu,aO,fy,bn,Ya,aq5,ahl,eQ];refine ct.intro (L.length -(i+1)) (by omega) (bJ _ _ _ ⟨i+1,rfl,by omega,by simp[f0],by simp,λj y I ar=> ?_,Z⟩)
    grind
   ·have ahl:(30:Int)<l.length:=by omega
    simp[go_sem,f0,bR,cu,aO,fy,bn,Ya,aq5,ahl];refine af _ _ ⟨?_,Z⟩
    grind
  ·have fy:¬(i:Int)<L.length:=by omega
   simp[go_sem,f0,bR,cu,aO,fy];refine af _ _ ⟨?_,Z⟩;have:(L.all λl=>decide (l.length<=30))=true:=by
    rw[vg];intro l ak;obtain⟨j,I⟩:=vf.1 ak;have:=(jG.1 I).1;simpa using mE j l (by omega) I
   rw[this];rfl
 ·have Ad:(8:Int)<L.length:=by omega
  rw[vi er,Bool.false_and]at af;simp[go_sem,cu,Ad];exact af _ _ ⟨rfl,H.refl _ _⟩
structure Gt(w u:M)(K:Nat->Prop)(x p m cg q n:Nat)(z:fV)(X:kY)(st:et)(aw:co)(mz:N)(ys:List Nat)(bY:Nat->Bool)(b:Nat):Prop where
 uo:eJ w u K m p n cg z X
 nF:nJ u x p m cg z st
 Es:K x
 Ym:w.1.size<=x
 nH:tu u q aw
 Ma:K q
 dR:bC u mz ys.length (hg ys)
 Yc:∀k,mz.ownBlock=some k->K k
 IS:∀y∈ys,y<65536
 dI:ki n bY X st aw
 Ye:iL b X.s
section
variable {w u cq:M}{K K' S:Nat->Prop}{x p m cg q n:Nat}{z:fV}{X ig:kY}{st:et}{aw:co}{mz:N}{ys:List Nat}{bY:Nat->Bool}{b:Nat}
theorem Gt.hp(h:Gt w u K x p m cg q n z X st aw mz ys bY b)(Z:H al u cq):Gt w cq (λk=>K k\/oA u cq k) x p m cg q n z X st aw mz ys bY b:=
 ⟨h.uo.hp Z,h.nF.ch Z id,.inl h.Es,h.Ym,h.nH.ch Z id,.inl h.Ma,h.dR.ch Z λ_ _ e=>e,λk r=>.inl (h.Yc k r),h.IS,h.dI,h.Ye⟩
theorem Gt.own(h:Gt w u K x p m cg q n z X st aw mz ys bY b)(Z:H S u cq)(cl:∀k,S k->K k/\w.1.size<=k)(W:¬S x)(au:¬S q)(ao:∀k,mz.ownBlock=some k->¬S k):Gt w cq (λk=>K k\/oA u cq k) x p m cg q n z X st aw mz ys bY b:=
 ⟨h.uo.own Z cl,h.nF.ch Z W,.inl h.Es,h.Ym,h.nH.ch Z au,.inl h.Ma,h.dR.ch Z ao,λk r=>.inl (h.Yc k r),h.IS,h.dI,h.Ye⟩
end
end Go.Proofs.YtoohkhcpboldjaaGreatDoor
namespace Go.Proofs.YtoohkhcpboldjaaGreatDoor
open Go.RowKit Go.Kin Tryz
def yX(n b:Nat)(x:kY)(st:et)(aw:co):Prop:=∃v lf c dQ aN O,jV n (λ_=>false) x st v lf c dQ aN O/\c.js=false/\vl aw v lf/\(∀p∈c.eg,(pa p).length=fE p.k)/\aw.tY<=b
section
variable {n b b' i:Nat}{x:kY}{st:et}{aw:co}{v:List bF}{lf:Nat->Nat->Option (List UInt8)}{c:jt}{dQ aN:List Pt}{O:nj}{D:cV}{xs:List dp}{l:List gR}
theorem yX.at(h:yX n b x st aw):ki n (λ_=>false) x st aw:=by
 obtain⟨v,lf,c,dQ,aN,O,J,T,ag,_⟩:=h;exact⟨v,lf,c,dQ,aN,O,J,T,ag⟩
theorem yX.start(aq:n<=65536):yX n 0 ⟨ay.dv,qP⟩ dU co.dv:=⟨_,_,_,_,_,_,jV.start aq,rfl,vl.start,λp am=>(by cases am),by rw[aFI];exact c_ _⟩
theorem aq6(h:vl aw v lf)(aM:∀k,fu (v.getD k bp)/\fc (v.getD k bp)=true):∀k,1<=k->k<=255->aw.x k≠bp->(aw.x k).k=1:=λk bn bh hz=>by
 have e:=h.x k bn bh;have Vf:v.getD k bp≠bp:=λaR=>hz (by rw[e,aR];rfl);have J:=Ni (aM k).2 Vf;have T:=h.ok.kd k;have ag:(aw.x k).k=(v.getD k bp).k:=by rw[e];rfl
 omega
theorem aGl(h:vl aw v lf)(aM:∀k,fu (v.getD k bp)/\fc (v.getD k bp)=true):xc v lf=aw.iN:=by
 unfold xc co.iN co.jh;have aL:ke.filter (λn=>decide (v.getD n bp≠bp))=ke.filter λk=>decide (aw.x k≠bp):=by
  refine acZ λk r=> ?_;have r:=Fs.1 r;have e:=h.x k r.1 r.2;refine decide_eq_decide.2 (not_congr ⟨λaR=>by rw[e,aR];rfl,λaR=>aq7 (aM k).2 (by rw[<-e];exact aR)⟩)
 rw[aL];refine xE λk r=> ?_;have r:=Fs.1 (vh.1 r).1;rw[h.x k r.1 r.2];have dB:((List.range 64).map λo=>(lf k o).isSome)=(List.range 64).map λo=>decide (0<=aw.l k o):=by
  refine xE λo av=> ?_;rw[h.l k r.1 r.2 o (wl.1 av)];unfold Fw;split
  ·grind
  ·grind
 rw[dB];rfl
theorem jV.held(h:jV n (λ_=>false) x st v lf c dQ aN O)(ad:i<2):x.s.eM i 2 n=0:=by
 unfold ay.eM;rw[List.countP_eq_zero];intro a ao;have ao:=wl.1 ao;rw[ot,qf,qf];rintro⟨J,T⟩;rw[h.ag4 ad J ao]at T;split at T<;>cases T
theorem jV.gz(h:jV n (λ_=>false) x st v lf c dQ aN O)(aC:vl aw v lf)(bM:∀p∈c.eg,(pa p).length=fE p.k):(bx c.eg).length=if st.gen=0 then 0 else Gz aw.iN:=by
 have aM:=h.tR.kp.in;rcases h.top with⟨aL,_,dB⟩|⟨aL,aR,_⟩
 ·rw[dB,aL];rfl
 ·rw[aQ (by omega),ag8 _ bM,h.tR.Nd (λe=>by rw[e]at aR;cases aR) aR h.qM h.eM,aGl aC aM]
theorem yX.hL(h:yX n b x st aw)(ad:i<2):x.s.eM i 1 n=(if st.gen=0 then 0 else Gz aw.iN)/\x.s.eM i 2 n=0:=by
 obtain⟨v,lf,c,dQ,aN,O,J,T,ag,aP,_⟩:=h;exact⟨(J.hL ad).trans (J.gz ag aP),J.held ad⟩
theorem yX.adN(h:yX n b x st aw):∀k,1<=k->k<=255->aw.x k≠bp->(aw.x k).k=1:=by
 obtain⟨v,lf,c,dQ,aN,O,J,T,ag,aP,_⟩:=h;exact aq6 ag J.tR.kp.in
theorem yX.step(h:yX 1000 b x st aw)(ab:b<=210)(aH:st.gen+1<18446744073709551616)(ak:∀a∈l,a.fL/\a.i.k<=1)(alz:l.length<=30)(dX:mU cV.dv l=D)(W:ya D xs)(Q:iL b' x.s):
  ∃aY:jt,aY.n=1000/\aY.bf=st.gen+1/\∃hd cJ,tL aY x st D xs=(hd,cJ,0)/\iL (b'+4000) hd.s/\yX 1000 (b+30) hd cJ (vo aw l)/\(xs=[]->cJ=st)/\(xs≠[]->cJ.gen=st.gen+1):=by
 obtain⟨v,lf,c,dQ,aN,O,J,T,ag,aP,bH⟩:=h;have aM:=J.tR.kp.in;have hz:=J.hz;have Y:=(sh.dv ag).adF l (D:=cV.dv) ak;rw[dX]at Y;have a':=Y.fz ag aM J.tR.kp.ak W;have hb:vo aw l=(l.foldl mL aw).uO:=rfl;have aq8:(vo aw l).tY<=b+30:=by have:=aFP aw l;omega
 refine⟨{c with bf:=st.gen+1},J.n,rfl,?_⟩;by_cases eF:xs=[]
 ·subst eF;refine⟨x,st,by rfl,Q.mono (by omega),?_,λ_=>rfl,λe=>absurd rfl e⟩;refine⟨v,lf,c,dQ,aN,O,J,T,?_,aP,aq8⟩;rw[hb];exact Y.none ag aM hz W
 ·have au:=J.ap9 T aH (by simp) a' rfl Q;have ag9:fP (xs.map (·.val)) ((fk D).uM v)+2*((xs.map (·.val)).length+10)<=230:=by
   have:=aFY (l:=l) (v:=v) (xs:=xs) (by rw[dX];exact W) λk r=>by
    rw[dX];have ax:=a'.Di k r;show((D.aZ (Fin.ofNat _ k)).getD (v.getD k bp)).k<=1
    cases ad:D.aZ (Fin.ofNat _ k)with
    |some y=>exact(Y.KC _ y ad).2.2
    |none=>
     have:=ag.ok.kd k;rw[ag.x k ax.1 ax.2]at this;exact this
   rw[dX]at this;omega
  have aq9:(bx c.eg).length+230+1<1000:=by
   rw[J.gz ag aP];have:=aFR (aq6 ag aM);split<;>omega
  rcases J.SH T aH (by decide) a' eF rfl with⟨hd,cJ,v',yj,rv,O',dA,aL,aR,dB,dl,gL,je,hX,t1,aW,bg,bR⟩|⟨hd,e,t1,aL,aR,dB,dl,gL,je,hX,bg⟩
  ·have U_:=aW.Nc (b:=230) (by omega) (by show(bx c.eg).length+230+1<c.n;rw[J.n];exact aq9);refine⟨hd,cJ,aL,by rw[aL]at au;exact au,⟨v',_,dA,yj,rv,O',dl,dB,?_,λp am=> ?_,aq8⟩,λk=>absurd k eF,λ_=>aR⟩
   ·rw[hb];exact Y.done ag aM hz W je hX
   ·rcases bR p am with k|k
    ·exact aP p k
    ·exact(aW.wide.resolve_right U_) p k
  ·exfalso;have U_:=gL.Nc (b:=230) (by omega) (by show(bx c.eg).length+230+1<c.n;rw[J.n];exact aq9)
   grind
end
theorem aGm:Bc prog 74 196 (.agg #[.int .u16 0,.int .u8 0,.slice none 0 0]) 3 32:=⟨underlying74,by kernel_rfl,rfl,by decide⟩
def kL(w:M):List N->List nk->Prop
 |a::b::s::V,x::l=>a=.int .u16 x.1/\b=.int .u8 x.2.1/\(∃A c,s=.slice A x.2.2.length c)/\bC w s x.2.2.length (BD x.2.2)/\(x.1<65536/\x.2.1<256/\∀n∈x.2.2,n<4294967296)/\kL w V l
 |[],[]=>True
 |_,_=>False
theorem kL.len{w:M}:∀{cs:List N} {l:List nk},kL w cs l->cs.length=l.length*3
 |[],[],_=>rfl
 |a::b::s::V,x::l,h=>by have:=kL.len h.2.2.2.2.2;simp;omega
 |[],_::_,h=>h.elim
 |[_],_,h=>by unfold kL at h;exact h.elim
 |[_,_],_,h=>by unfold kL at h;exact h.elim
 |_::_::_::_,[],h=>h.elim
theorem kL.fK{w w':M}(r:∀p u,w.cell? p=some u->w'.cell? p=some u):∀{cs:List N} {l:List nk},kL w cs l->kL w' cs l
 |[],[],_=>trivial
 |a::b::s::V,x::l,h=>⟨h.1,h.2.1,h.2.2.1,h.2.2.2.1.fK r,h.2.2.2.2.1,kL.fK r h.2.2.2.2.2⟩
 |[],_::_,h=>h.elim
 |[_],_,h=>by unfold kL at h;exact h.elim
 |[_,_],_,h=>by unfold kL at h;exact h.elim
 |_::_::_::_,[],h=>h.elim
theorem kL.aq_{w:M}:∀{cs yU:List N} {l nx:List nk},kL w cs l->kL w yU nx->kL w (cs++yU) (l++nx)
 |[],_,[],_,_,h'=>h'
 |a::b::s::V,_,x::l,_,h,h'=>⟨h.1,h.2.1,h.2.2.1,h.2.2.2.1,h.2.2.2.2.1,kL.aq_ h.2.2.2.2.2 h'⟩
 |[],_,_::_,_,h,_=>h.elim
 |[_],_,_,_,h,_=>by unfold kL at h;exact h.elim
 |[_,_],_,_,_,h,_=>by unfold kL at h;exact h.elim
 |_::_::_::_,_,[],_,h,_=>h.elim
theorem kL.get{w:M}:∀{cs:List N} {l:List nk} (j:Nat) (x:nk),kL w cs l->l[j]? =some x->cs[j*3]? =some (.int .u16 x.1)/\cs[j*3+1]? =some (.int .u8 x.2.1)/\(∃A c,cs[j*3+2]? =some (.slice A x.2.2.length c)/\bC w (.slice A x.2.2.length c) x.2.2.length (BD x.2.2))/\x.1<65536/\x.2.1<256/\∀n∈x.2.2,n<4294967296
 |a::b::s::V,y::l,0,x,h,W=>by
  simp at W;subst W;obtain⟨rfl,rfl,⟨A,c,rfl⟩,aP,bH,_⟩:=h
  grind
 |a::b::s::V,y::l,j+1,x,h,W=>by
  have:=kL.get j x h.2.2.2.2.2 (by simpa using W)
  grind
 |[],[],j,x,h,W=>by simp at W
 |[],_::_,_,_,h,_=>h.elim
 |[_],_,_,_,h,_=>by unfold kL at h;exact h.elim
 |[_,_],_,_,_,h,_=>by unfold kL at h;exact h.elim
 |_::_::_::_,[],_,_,h,_=>h.elim
theorem aGn{w:M}{v:N}{l:List nk}{cs:List N}{e:Nat}(h:w.ownsRow 0 e 3 v l.length cs)(av:kL w cs l):aaK w v l:=by
 by_cases bi:0<l.length
 ·obtain⟨g,cap,dF,rfl,J,T,ab,ag,Z⟩:=A' h bi;refine⟨_,cap,rfl,J,T,λ_=>⟨g,0,rfl,λj x W=> ?_⟩⟩;obtain⟨hE,cC,⟨A,c,cj,cp⟩,cy⟩:=av.get j x W;exact⟨cy,by rw[xB];exact Z _ _ hE,by rw[xB];exact Z _ _ cC,A,c,by grind,cp⟩
 ·have ak:l=[]:=wh (by omega);subst ak;rcases h.2 with⟨rfl,_⟩|⟨g,cap,dF,rfl,_,_,J,T,_⟩
  ·exact⟨none,0,rfl,c_ _,gG _,λh=>absurd h (by simp)⟩
  ·exact⟨_,cap,rfl,J,T,λh=>absurd h (by simp)⟩
open Go.Maps
theorem kL.ch{S:Nat->Prop}{w w':M}(Z:H S w w'):∀{cs:List N} {l:List nk},kL w cs l->(∀s∈cs,∀j,s.ownBlock=some j->¬S j)->kL w' cs l
 |[],[],_,_=>trivial
 |a::b::s::V,x::l,h,cl=>⟨h.1,h.2.1,h.2.2.1,h.2.2.2.1.ch Z λj I=>cl s (by simp) j I,h.2.2.2.2.1,kL.ch Z h.2.2.2.2.2 λy ar=>cl y (by simp[ar])⟩
 |[],_::_,h,_=>h.elim
 |[_],_,h,_=>by unfold kL at h;exact h.elim
 |[_,_],_,h,_=>by unfold kL at h;exact h.elim
 |_::_::_::_,[],h,_=>h.elim
def co.yr(aw:co)(i:Nat):List nk:=((List.range i).filter λk=>decide (1<=k)&&decide (aw.x k≠bp)).map λk=>(k,(aw.x k).k,aw.iw k)
theorem alW(aw:co):aw.yr 256=aw.Gy:=by
 unfold co.yr co.Gy co.jh ke;rw[ac1]
 grind
theorem aq'(aw:co)(i:Nat):aw.yr (i+1)=aw.yr i++if 1<=i/\aw.x i≠bp then[(i,(aw.x i).k,aw.iw i)]else[]:=by
 unfold co.yr;rw[IH,acO,AC]
 grind
theorem alX(aw:co)(i:Nat):(aw.yr i).length<=i:=by
 unfold co.yr
 grind
def co.rn(aw:co)(k j:Nat):List Nat:=(List.range j).filter λo=>decide (0<=aw.l k o)
theorem ara(aw:co)(k j:Nat):aw.rn k (j+1)=aw.rn k j++if 0<=aw.l k j then[j]else[]:=by
 unfold co.rn;rw[IH,acO,Gi]
 grind
theorem adO(aw:co)(k j:Nat):(aw.rn k j).length<=j:=by
 unfold co.rn
 grind
theorem aGo{aw:co}{k j o:Nat}(h:o∈aw.rn k j):o<j:=by
 unfold co.rn at h
 grind
theorem ax_(q:Nat)(aw:co)(w:M)(hb:tu w q aw):bc prog 29 #[az q] w λv' w'=>aaK w' v' aw.Gy/\H al w w':=by
 obtain⟨cs,ab,fp⟩:=hb;have Vg:=fp.size;have SD:=lt_of_block ab;refine bz func29 ntmps29 λbk af=> ?_;simp[go_sem];refine di (λV f u=>∃i xs,V=256 - i/\1<=i/\i<=256/\f 0=az q/\f 4=aa i/\vS 196 3 w (f 3) (aw.yr i).length xs u/\kL u xs (aw.yr i)/\∀s∈xs,∀j,s.ownBlock=some j->j<u.1.size/\(f 3).ownBlock≠some j) 255
  ⟨1,[],by omega,by omega,by omega,by simp,by simp,by simpa[co.yr]using vS.nil _ _ (H.refl al w),by simp[co.yr,kL],by simp⟩ ?_
 rintro cQ bJ _ f u ⟨i,xs,rfl,yl,ad,f0,ck,aC,sJ,ahm⟩;obtain⟨ahn,Vh⟩:=aD (f 3);rw[Vh]at aC ahm;by_cases aO:i<256
 ·have fy:(i:Int)<256:=by omega
  have eQ:IntKind.i64.wrap ((i:Int)+1)=(i:Int)+1:=by rw[cz];omega
  have KB:IntKind.u16.wrap (i:Int)=i:=by rw[ON];omega
  have Ae:=aC.ch.obj ab id;have sA:=fp.ext aO;have qX:i*44+44<=27648:=by omega
  have lP:=fp.ok i;have ho:∀w,(Op.equalIn 10000 113 (.agg (aZ (aw.x i))) (.agg (aZ bp))).run prog w=.ok (decide (aw.x i=bp)) w:=λw=>Sx w lP jy;by_cases hz:aw.x i=bp
  ·rw[ou hz]at ho;simp[go_sem,f0,ck,aO,fy,Ae,Vg,sA,qX,Ef,ho,eQ];refine ct.intro (256 -(i+1)) (by omega) (bJ _ _ _ ⟨i+1,xs,by omega,by omega,by omega,by simp[f0],by simp,?_⟩);rw[aq',aQ (λe=>e.2 hz),va];exact⟨by simpa[Vh]using aC,sJ,by simpa[Vh]using ahm⟩
  ·rw[vi hz]at ho;have lH:=aG Ae (i*44);have aGp:cs[i*44]? =some (.int .u8 (aw.x i).k):=by
    have:=fp.x i 0 aO (by omega);rw[Ec,Gn]at this;exact this
   rw[aGp]at lH;simp[go_sem,f0,ck,aO,fy,Ae,Vg,sA,qX,Ef,ho,eQ,KB,lH];have aaL:=(H.refl al u).alloc (.cells #[.int .u16 i,.int .u8 (aw.x i).k,.slice none 0 0] 196);have Vi:=cr u (.cells #[.int .u16 i,.int .u8 (aw.x i).k,.slice none 0 0] 196);obtain⟨ji,arb⟩:=aD (u.1.size);rw[arb]at Vi;have arc:=aC.ch.size;refine di (λV g u2=>∃j iz,V=64 - j/\j<=64/\g 0=az q/\g 3=ahn/\g 4=aa i/\g 5=az ji/\g 6=aa j/\u2.1[ji]? =some (.cells #[.int .u16 i,.int .u8 (aw.x i).k,iz] 196 (0,0))/\kD 40 u iz (aw.rn i j).length (BD (aw.rn i j)) u2/\iz.ownBlock≠some ji) 64
    ⟨0,.slice none 0 0,by omega,by omega,by simp[f0],by simp[Vh],by simp[ck],by simp[arb],by simp,Vi,⟨by simpa[co.rn,BD]using pA _ _ _ _,aaL,λk r=>by simp[Value.ownBlock]at r⟩,by simp[Value.ownBlock]⟩ ?_
   rintro vq jR _ g u2 ⟨j,iz,rfl,I,hE,cp,cy,cO,cA,zQ,uP,Iy⟩;have aho:=uP.ch.obj Ae id;have aR8:ji<u2.1.size:=lt_of_block zQ;have cU:=uP.ch.size;obtain⟨A,c,ard,Cf,pC,_⟩:=bC.fF uP.own;have aK:=aG zQ 2;have sp:=dJ zQ 2;by_cases xa:j<64
   ·have qz:(j:Int)<64:=by omega
    have hN:IntKind.i64.wrap ((j:Int)+1)=(j:Int)+1:=by rw[cz];omega
    have aGq:IntKind.u32.wrap (j:Int)=j:=by rw[ve];omega
    have mq:=aG aho (11264+i*64+j);rw[fp.l i j aO xa]at mq;have yW:=adO aw i j;by_cases am:0<=aw.l i j
    ·subst ard;simp[go_sem,hE,cy,cO,cA,aO,fy,xa,qz,mq,am,aK,aGq];refine HP (n:=(aw.rn i j).length) are uP.own rfl (by unfold maxLen;omega) (by omega) λrS ec hf eI jd=> ?_;obtain⟨arf,ds,aGr,_,_,_⟩:=bC.fF hf;have arh:rS.ownBlock≠some ji:=λe=>by
      rcases jd with jd|jd
      ·rw[jd]at e;exact Iy e
      ·have:=jd ji e;omega
     have ahp:=eI.obj zQ Iy;have aGs:=dJ ahp 2;have PT:=eI.size;have vp:=uP.grow hf eI jd;subst aGr;have cs:=(H.refl (aj ji) ec).setCell (p:=bl ji 2) (.inl rfl) (.slice arf ((aw.rn i j).length+1) ds);have e:aw.rn i (j+1)=aw.rn i j++[j]:=by rw[ara,be am]
     have aR:BD (aw.rn i j++[j])=BD (aw.rn i j)++[Value.int .u32 j]:=by unfold BD;rw[AC];rfl
     have ahq:=aG ahp 2;simp[go_sem,cO,cA,ahq,aGs,hN];refine ct.intro (64 -(j+1)) (by omega) (jR _ _ _ ⟨j+1,.slice arf ((aw.rn i j).length+1) ds,rfl,by omega,by simp[hE],by simp[cp],by simp[cy],by simp[cO],by simp,by rw[eU,ahp,fU];rfl,⟨?_,vp.ch.setCell (.inr (by show _<=ji;omega)) _,vp.pF⟩,arh⟩);rw[e,aR,kR,II];exact gu hf cs λk r e=>arh (by simp only[aj]at e;rw[r,e])
    ·have Dj:¬(0:Int)<=aw.l i j:=am;simp[go_sem,hE,cy,cO,cA,aO,fy,xa,qz,mq,am,hN];refine ct.intro (64 -(j+1)) (by omega) (jR _ _ _ ⟨j+1,iz,rfl,by omega,by simp[hE],by simp[cp],by simp[cy],by simp[cO],by simp,zQ,?_,Iy⟩);rw[ara,aQ am,va];exact uP
   ·have qz:¬(j:Int)<64:=by omega
    have aGt:j=64:=by omega
    subst aGt;have yW:=adO aw i 64;have xM:=alX aw i;subst ard;have gs:=aG zQ 0;have aY:=aG zQ 1;have pc:=aC.step uP.ch;simp[go_sem,cp,cy,cO,cA,zQ,gs,aY,aK];refine wJ (us:=[.int .u16 i,.int .u8 (aw.x i).k,.slice A (aw.rn i 64).length c]) (n:=(aw.yr i).length) aGm pc.own rfl (by simp[Value.oneCell']) (by unfold maxLen;omega) (by omega) λv' w' bn bh bA=> ?_;have aH:=pc.grow bn bh bA;have Cz:=bh.size;have e:aw.yr (i+1)=aw.yr i++[(i,(aw.x i).k,aw.rn i 64)]:=by rw[aq',be ⟨yl,hz⟩];rfl
    have aR9:∀k,ahn.ownBlock=some k->k<u.1.size:=λk r=>nK aC.own k r;have aR_:∀k,(Value.slice A (aw.rn i 64).length c).ownBlock=some k->u.1.size<=k/\k<u2.1.size:=λk r=>⟨uP.pF k r,nK uP.own k r⟩;simp[go_sem,cy,eQ];refine ct.intro (255 - i) (by omega) (bJ _ _ _ ⟨i+1,xs++[.int .u16 i,.int .u8 (aw.x i).k,.slice A (aw.rn i 64).length c],by omega,by omega,by omega,by simp[hE],by simp,?_,?_,λs aA k r=> ?_⟩)
    ·rw[e,kR,II];simpa using aH
    ·rw[e];refine(((sJ.fK λp u am=>uP.ch.cell am id).ch bh λs aA k r aR=>(ahm s aA k r).2 aR)).aq_ ⟨rfl,rfl,⟨A,c,rfl⟩,(bC.fF uP.own).ch bh λk r aR=> ?_,⟨by show i<65536;omega,lP.k,λo av=>by have:=aGo av;omega⟩,trivial⟩
     grind
    ·have A_:∀k,k<u2.1.size->ahn.ownBlock≠some k->v'.ownBlock≠some k:=λk r aq aR=>by
      rcases bA with bA|bA
      ·rw[bA]at aR;exact aq aR
      ·have:=bA k aR;omega
     have aGu:k<w'.1.size/\v'.ownBlock≠some k:=by
      rcases hP.1 aA with aA|aA
      ·grind
      ·simp only[io,yD,or_false]at aA;rcases aA with rfl|rfl|rfl
       ·simp[Value.ownBlock]at r
       ·simp[Value.ownBlock]at r
       grind
     simpa using aGu
 ·have fy:¬(i:Int)<256:=by omega
  have aGv:i=256:=by omega
  subst aGv;rw[alW]at aC sJ;simp[go_sem,f0,ck,Vh];exact af _ _ ⟨aGn aC.own sJ,aC.ch⟩
structure tt(Af:Nat->Prop)(x p m cg:Nat)(z:fV)(st:et)(q:Nat)(aw:co)(fe:N)(ys:List Nat)(fM:Nat)(cJ:et)(u:M):Prop where
 nF:nJ u x p m cg z st
 nH:tu u q aw
 dR:bC u fe ys.length (hg ys)
 st:u.1[fM]? =some (.cells (bN cJ) 46 (0,0))
 Es:Af x
 Ma:Af q
 Yk:∀k,fe.ownBlock=some k->Af k
 ari:Af fM
section
variable {Af K S:Nat->Prop}{x p m cg q fM:Nat}{z:fV}{st cJ:et}{aw:co}{fe:N}{ys:List Nat}{w u cq:M}
theorem tt.ch(h:tt Af x p m cg z st q aw fe ys fM cJ u)(Z:H S u cq)(cl:∀k,Af k->¬S k):tt Af x p m cg z st q aw fe ys fM cJ cq:=
 ⟨h.nF.ch Z (cl x h.Es),h.nH.ch Z (cl q h.Ma),h.dR.ch Z λk r=>cl k (h.Yk k r),Z.obj h.st (cl fM h.ari),h.Es,h.Ma,h.Yk,h.ari⟩
theorem tt.hp(h:tt Af x p m cg z st q aw fe ys fM cJ u)(Z:H al u cq):tt Af x p m cg z st q aw fe ys fM cJ cq:=h.ch Z λ_ _ e=>e
theorem tt.uo(h:tt Af x p m cg z st q aw fe ys fM cJ u)(fW:∀k,Af k->K k)(Z:H (λk=>¬K k) u cq):tt Af x p m cg z st q aw fe ys fM cJ cq:=h.ch Z λk r e=>e (fW k r)
end
end Go.Proofs.YtoohkhcpboldjaaGreatDoor
