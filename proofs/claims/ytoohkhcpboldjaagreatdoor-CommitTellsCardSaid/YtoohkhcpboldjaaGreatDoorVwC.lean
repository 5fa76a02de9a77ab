/- A leaf behind a view: its bytes are no part of what the source owns. Conditions: the variables that are listed hold what the text lays; sizes. -/
import Derived.Test.YtoohkhcpboldjaaGreatDoorRgS
set_option maxRecDepth 1000000
set_option maxHeartbeats 1000000
set_option linter.unusedSimpArgs false
set_option linter.unusedVariables false
namespace Go.Proofs.YtoohkhcpboldjaaGreatDoor
open Go.RowKit Go.Kin Tryz
def h_(a b c d e f:N)(st:et):Array N:=#[a,b,c,d,e,f]++bN st
section
variable {a b c d e f y:N}{st:et}
theorem aax(ok:gi st):(h_ a b c d e f st).size=89:=by simp[h_,lo ok]
@[simp] theorem aVB:(h_ a b c d e f st)[0]? =some a:=by simp[h_,Ce]
@[simp] theorem aVC:(h_ a b c d e f st)[1]? =some b:=by simp[h_,Ce]
@[simp] theorem aF0:(h_ a b c d e f st)[2]? =some c:=by simp[h_,Ce]
@[simp] theorem aF1:(h_ a b c d e f st)[3]? =some d:=by simp[h_,Ce]
@[simp] theorem aF2:(h_ a b c d e f st)[4]? =some e:=by simp[h_,Ce]
@[simp] theorem aF3:(h_ a b c d e f st)[5]? =some f:=by simp[h_,Ce]
@[simp] theorem aVD:(h_ a b c d e f st).setIfInBounds 1 y=h_ a y c d e f st:=by apply ip;simp[h_]
@[simp] theorem aVE:(h_ a b c d e f st).setIfInBounds 2 y=h_ a b y d e f st:=by apply ip;simp[h_]
@[simp] theorem aVF:(h_ a b c d e f st).setIfInBounds 3 y=h_ a b c y e f st:=by apply ip;simp[h_]
@[simp] theorem aVG:(h_ a b c d e f st).setIfInBounds 4 y=h_ a b c d y f st:=by apply ip;simp[h_]
@[simp] theorem aVH:(h_ a b c d e f st).setIfInBounds 5 y=h_ a b c d e y st:=by apply ip;simp[h_]
theorem aF4(ok:gi st):(h_ a b c d e f st).extract 6 89=bN st:=by
 have h:=lo ok;unfold h_
 simp_all
theorem aye{cJ:et}(ok:gi st)(sf:gi cJ):dT (h_ a b c d e f st) 6 (bN cJ)=h_ a b c d e f cJ:=by
 have h:=lo ok;have h':=lo sf;unfold dT h_
 simp_all
end
theorem aPj:(prog.info? 48).map (λi=>i.zero.isSome)=some true:=by kernel_rfl
theorem aPk:kN prog 48=h_ (.pointer none) (.pointer none) (.pointer none) (.pointer none) (.pointer none) (.pointer none) dU:=by kernel_rfl
theorem aPl{a:Option Addr}{w:M}{K:N->M->Prop}:jb prog 48 [(0,.pointer a)] w K=K (.agg (h_ (.pointer a) (.pointer none) (.pointer none) (.pointer none) (.pointer none) (.pointer none) dU)) w:=by
 refine ma underlying48 aPj (places:=#[(0,1),(1,2),(3,1),(4,1),(5,1),(6,83)]) (by simp[go_sem]) ?_;have hz:=aax (a:=.pointer none) (b:=.pointer none) (c:=.pointer none) (d:=.pointer none) (e:=.pointer none) (f:=.pointer none) (st:=dU) ts;simp[jw,aPk,Value.cells,hz];unfold dT h_;apply ip;simp
structure nJ(w:M)(x p m cg:Nat)(z:fV)(st:et):Prop where
 blk:w.1[x]? =some (.cells (h_ (az p) (.pointer (some ⟨z.d 0,0,none⟩)) (.pointer (some ⟨z.d 1,0,none⟩)) (.pointer (some ⟨z.c',0,none⟩)) (az m) (az cg) st) 48 (0,0))
 ok:gi st
theorem alx(n:Nat)(w:World)(J:1<=n)(T:n<=4096):bc Tryz.prog 11 #[.int .i64 n] w λv' w'=>∃x p m cg z,v'=.pointer (some ⟨x,0,none⟩)/\nJ w' x p m cg z dU/\km m p n cg z ⟨ay.dv,qP⟩ w' (λk=>(w.1.size<=k/\k<w'.1.size)/\k≠x)/\w.1.size<=x/\H al w w':=by
 refine bz Tryz.func11 Tryz.ntmps11 λbk af=> ?_;simp[go_sem];refine(azG w).mono ?_;rintro _ ai ⟨rfl,gT,aY⟩;obtain⟨p,Ps⟩:=aD (w.1.size);rw[Ps]at gT⊢;have tn:=aax (a:=.pointer (some ⟨p,0,none⟩)) (b:=.pointer none) (c:=.pointer none) (d:=.pointer none) (e:=.pointer none) (f:=.pointer none) (st:=dU) ts;simp[go_sem,aPl];have aK:=(H.refl al ai).alloc (.cells (h_ (.pointer (some ⟨p,0,none⟩)) (.pointer none) (.pointer none) (.pointer none) (.pointer none) (.pointer none) dU) 48);have cY:=cr ai (.cells (h_ (.pointer (some ⟨p,0,none⟩)) (.pointer none) (.pointer none) (.pointer none) (.pointer none) (.pointer none) dU) 48);obtain⟨x,W⟩:=aD (ai.1.size);rw[W]at cY⊢;have Hr:p<x:=by rw[<-W];exact lt_of_block gT
 have ph:=gT.ch aK id;have BJ:=aY.trans aK;revert cY ph BJ;clear aK;generalize ai.alloc (.cells (h_ (.pointer (some ⟨p,0,none⟩)) (.pointer none) (.pointer none) (.pointer none) (.pointer none) (.pointer none) dU) 48)=an;intro cY ph aK;have eI:=λj=>aG cY j;have yY:=lt_of_block cY;refine cT [F 0,F 1,F 2,F 3,F 4,F 5,F 10,F 11,(6,some [0,10,11]),F 7,F 8,F 9,F 12,(13,some [9])] ?_;simp[go_sem,eI];refine(amJ n p an.drew eL.on J T ph).mono ?_;rintro _ aJ ⟨gW,rfl,aPm,aI⟩;have aI:=H.hR aI;have cK:=aI.obj cY id;have jd:=λj=>aG cK j;have bR:=λj=>dJ cK j;simp[go_sem,jd,bR];have ex:H (aj x) aJ (aJ.setCell ⟨x,1,none⟩ (.pointer (some ⟨gW,0,none⟩))):=(H.refl (aj x) aJ).setCell (p:=⟨x,1,none⟩) (.inl rfl) _;have cI:(aJ.setCell ⟨x,1,none⟩ (.pointer (some ⟨gW,0,none⟩))).1[x]? =some (.cells (h_ (.pointer (some ⟨p,0,none⟩)) (.pointer (some ⟨gW,0,none⟩)) (.pointer none) (.pointer none) (.pointer none) (.pointer none) dU) 48 (0,0)):=by rw[eU,cK,fU];simp
 have dB:an.1.size<=aJ.1.size:=aI.size;have aR:=aK.size;have ats:=(ph.ch aI id).ch ex λe=>by simp only[aj]at e;omega
 have akv:=aPm.ch ex (λk r e=>by simp only[aj]at e;have:an.1.size<=k:=r.1;omega) λe=>by simp only[aj]at e;omega
 have dl:=ex.size;have bo:H al w (aJ.setCell ⟨x,1,none⟩ (.pointer (some ⟨gW,0,none⟩))):=(aK.trans aI).bZ ex λj I e=>by simp only[aj]at e;omega
 have akw:∀k,an.drew.1.size<=k/\k<aJ.1.size->x<k:=λk r=>by have:an.1.size<=k:=r.1;omega
 revert cI ats akv bo dl;clear ex;generalize aJ.setCell ⟨x,1,none⟩ (.pointer (some ⟨gW,0,none⟩))=bs;intro cI av7 akv dl bo;have fQ:=λj=>aG cI j;refine cT [F 0,F 1,F 2,F 3,F 4,F 5,F 10,F 11,(6,some [0,10,11]),F 7,F 8,F 9,F 12,(13,some [9])] ?_;simp[go_sem,fQ];refine(amJ n p bs.drew eL.on J T av7).mono ?_;rintro _ bD ⟨dc,rfl,aPn,bE⟩;have bE:=H.hR bE;have dG:=bE.obj cI id;have hw:=λj=>aG dG j;have f5:=λj=>dJ dG j;simp[go_sem,hw,f5];have aPo:=akv.ch bE (λ_ _ e=>e) id;have gL:bs.1.size<=bD.1.size:=bE.size;have ML:∀k,bs.drew.1.size<=k/\k<bD.1.size->aJ.1.size<=k:=λk r=>by have:bs.1.size<=k:=r.1;omega
 have jZ:H (aj x) bD (bD.setCell ⟨x,2,none⟩ (.pointer (some ⟨dc,0,none⟩))):=(H.refl (aj x) bD).setCell (p:=⟨x,2,none⟩) (.inl rfl) _;have gj:(bD.setCell ⟨x,2,none⟩ (.pointer (some ⟨dc,0,none⟩))).1[x]? =some (.cells (h_ (.pointer (some ⟨p,0,none⟩)) (.pointer (some ⟨gW,0,none⟩)) (.pointer (some ⟨dc,0,none⟩)) (.pointer none) (.pointer none) (.pointer none) dU) 48 (0,0)):=by rw[eU,dG,fU];simp
 have av8:=(av7.ch bE id).ch jZ λe=>by simp only[aj]at e;omega
 have akx:=aPo.ch jZ (λk r e=>by simp only[aj]at e;have:=akw k r;omega) λe=>by simp only[aj]at e;omega
 have aky:=aPn.ch jZ (λk r e=>by simp only[aj]at e;have:=ML k r;omega) λe=>by simp only[aj]at e;omega
 have cF:H al w (bD.setCell ⟨x,2,none⟩ (.pointer (some ⟨dc,0,none⟩))):=(bo.trans bE).bZ jZ λj I e=>by simp only[aj]at e;omega
 have je:=jZ.size;revert gj av8 akx aky cF je;clear jZ;generalize bD.setCell ⟨x,2,none⟩ (.pointer (some ⟨dc,0,none⟩))=cD;intro gj av8 akx aky cF je;refine(aJ_ n cD J T).mono ?_;rintro _ cE ⟨c',g,rfl,abH,dE⟩;have kk:=dE.obj gj id;have mv:=λj=>aG kk j;have bQ:=λj=>dJ kk j;simp[go_sem,mv,bQ];have aPp:=akx.ch dE (λ_ _ e=>e) id;have aPq:=aky.ch dE (λ_ _ e=>e) id;have hX:=dE.size;have pZ:H (aj x) cE (cE.setCell ⟨x,3,none⟩ (.pointer (some ⟨c',0,none⟩))):=(H.refl (aj x) cE).setCell (p:=⟨x,3,none⟩) (.inl rfl) _;have jI:(cE.setCell ⟨x,3,none⟩ (.pointer (some ⟨c',0,none⟩))).1[x]? =some (.cells (h_ (.pointer (some ⟨p,0,none⟩)) (.pointer (some ⟨gW,0,none⟩)) (.pointer (some ⟨dc,0,none⟩)) (.pointer (some ⟨c',0,none⟩)) (.pointer none) (.pointer none) dU) 48 (0,0)):=by rw[eU,kk,fU];simp
 have akz:=aPp.ch pZ (λk r e=>by simp only[aj]at e;have:=akw k r;omega) λe=>by simp only[aj]at e;omega
 have akA:=aPq.ch pZ (λk r e=>by simp only[aj]at e;have:=ML k r;omega) λe=>by simp only[aj]at e;omega
 obtain⟨bK,cR,iC,jo⟩:=abH;have t1:=pZ.obj bK λe=>by simp only[aj]at e;omega
 have el:∀i,i<2->(cE.setCell ⟨x,3,none⟩ (.pointer (some ⟨c',0,none⟩))).1[g i]? =some (.cells (lz ay.dv n i) 156 (0,0)):=λi ad=>pZ.obj (cR i ad) λe=>by
  simp only[aj]at e
  grind
 have ds:H al w (cE.setCell ⟨x,3,none⟩ (.pointer (some ⟨c',0,none⟩))):=(cF.trans dE).bZ pZ λj I e=>by simp only[aj]at e;omega
 have nD:=pZ.size;revert jI akz akA t1 el ds nD;clear pZ;generalize cE.setCell ⟨x,3,none⟩ (.pointer (some ⟨c',0,none⟩))=ec;intro jI akz akA t1 el ds nD;have ue:=λj=>aG jI j;refine cT [F 0,F 1,F 2,F 3,F 4,F 5,F 6,F 7,F 8,F 9,F 10,F 11,F 12,F 13,F 14,(15,some [0]),F 16,F 17,F 18,F 19,F 20,(21,some [18])] ?_;simp[go_sem,ue];have aea:bc Tryz.prog 56 #[.pointer (some ⟨gW,0,none⟩),.pointer (some ⟨dc,0,none⟩),.pointer (some ⟨c',0,none⟩)] ec.drew λv' w'=>v'=.tuple #[.pointer (some ⟨ec.1.size,0,none⟩),.int .i64 0]/\w'=ec.drew.alloc (.cells #[.pointer (some ⟨gW,0,none⟩),.pointer (some ⟨dc,0,none⟩),.pointer (some ⟨c',0,none⟩),.int .i64 0,.int .i64 0,.int .i64 0,.int .i64 0,.slice none 0 0] 245):=by
  refine bz Tryz.func56 Tryz.ntmps56 λQi Fj=> ?_;simp[go_sem];exact Fj _ _ ⟨rfl,rfl⟩
 refine aea.mono ?_;rintro _ db ⟨rfl,FO⟩;obtain⟨m,aC⟩:=aD (ec.1.size);have ww:=(H.refl al ec.drew).alloc (.cells #[.pointer (some ⟨gW,0,none⟩),.pointer (some ⟨dc,0,none⟩),.pointer (some ⟨c',0,none⟩),.int .i64 0,.int .i64 0,.int .i64 0,.int .i64 0,.slice none 0 0] 245);have akB:=cr ec.drew (.cells #[.pointer (some ⟨gW,0,none⟩),.pointer (some ⟨dc,0,none⟩),.pointer (some ⟨c',0,none⟩),.int .i64 0,.int .i64 0,.int .i64 0,.int .i64 0,.slice none 0 0] 245);have rG:db.1.size=m+1:=by rw[FO];simp[aC]
 rw[<-FO]at ww akB;rw[show ec.drew.1.size=m from aC]at akB;rw[aC];clear FO aea;have ww:=H.hR ww;have qj:=ww.obj jI id;have Sy:=λj=>aG qj j;have dt:=λj=>dJ qj j;simp[go_sem,Sy,dt];have Lp:H (aj x) db (db.setCell ⟨x,4,none⟩ (.pointer (some ⟨m,0,none⟩))):=(H.refl (aj x) db).setCell (p:=⟨x,4,none⟩) (.inl rfl) _;have Ep:(db.setCell ⟨x,4,none⟩ (.pointer (some ⟨m,0,none⟩))).1[x]? =some (.cells (h_ (.pointer (some ⟨p,0,none⟩)) (.pointer (some ⟨gW,0,none⟩)) (.pointer (some ⟨dc,0,none⟩)) (.pointer (some ⟨c',0,none⟩)) (.pointer (some ⟨m,0,none⟩)) (.pointer none) dU) 48 (0,0)):=by rw[eU,qj,fU];simp
 have ahZ:=Lp.size;have ah9:=ww.size;have kS:H al w (db.setCell ⟨x,4,none⟩ (.pointer (some ⟨m,0,none⟩))):=(ds.trans ww).bZ Lp λj I e=>by simp only[aj]at e;omega
 have hD:∀j,j≠x->¬aj x j:=λj h e=>h e;obtain⟨hE,xK⟩:=aD (g 0);obtain⟨cC,vw⟩:=aD (g 1);have aVI:=lt_of_block t1;have aVJ:=lt_of_block (el 0 (by omega));have aVK:=lt_of_block (el 1 (by omega));obtain⟨z,hz⟩:∃z:fV,z=⟨λi=>if i=0 then gW else dc,c',g⟩:=⟨_,rfl⟩;obtain⟨A,fp⟩:∃A:Nat->Nat->Prop,A=λi k=>if i=0 then an.drew.1.size<=k/\k<aJ.1.size else bs.drew.1.size<=k/\k<bD.1.size:=⟨_,rfl⟩
 have AU:A 0=λk=>an.drew.1.size<=k/\k<aJ.1.size:=by rw[fp];rfl
 have PS:A 1=λk=>bs.drew.1.size<=k/\k<bD.1.size:=by rw[fp];rfl
 have aPr:∀k,A 0 k->an.1.size<=k/\k<aJ.1.size:=λk r=>by rw[AU]at r;exact r
 have aPs:∀k,A 1 k->bs.1.size<=k/\k<bD.1.size:=λk r=>by rw[PS]at r;exact r
 have qp:∀k,Fg z m (.slice none 0 0) k->cD.1.size<=k/\k<db.1.size:=λk r=>by
  rw[hz]at r;rcases r with r|r|r|r|r
  ·omega
  ·simp only at r;omega
  ·simp only at r;omega
  ·simp only at r;omega
  ·simp[Value.ownBlock]at r
 have fg:e' (db.setCell ⟨x,4,none⟩ (.pointer (some ⟨m,0,none⟩))) m p n z ay.dv (.slice none 0 0) A:=by
  refine⟨?_,λi ad=> ?_,?_,λi ad=> ?_,pA _ _ _ _,λq au=>by simp[ay.dv]at au,λk J T=> ?_,?_,λk r=>⟨λe=> ?_,λe=> ?_,?_⟩,λk r=>by simp[Value.ownBlock]at r⟩
  ·rw[hz];exact Lp.obj akB (hD _ (by omega))
  ·rcases kX ad with rfl|rfl
   ·rw[AU,hz];exact(akz.ch ww (λ_ _ e=>e) id).ch Lp (λk r=>hD k (by have:=akw k r;omega)) (hD _ (by omega))
   ·rw[PS,hz];exact(akA.ch ww (λ_ _ e=>e) id).ch Lp (λk r=>hD k (by have:=ML k r;omega)) (hD _ (by omega))
  ·rw[hz];exact Lp.obj (ww.obj t1 id) (hD _ (by show c'≠x;omega))
  ·rw[hz];refine Lp.obj (ww.obj (el i ad) id) (hD _ ?_)
   grind
  ·grind
  ·rw[hz];exact⟨by simp only;omega,by simp only;omega,by simp only;omega,iC.1,iC.2.1,iC.2.2⟩
  ·grind
  ·grind
  ·have:=qp k r;omega
 have eZ:∀k,gU z m p (.slice none 0 0) A k->(w.1.size<=k/\k<(db.setCell ⟨x,4,none⟩ (.pointer (some ⟨m,0,none⟩))).1.size)/\k≠x:=λk r=>by
  rcases r with r|r|r|r
  ·have:=qp k r;omega
  ·have:=aPr k r;omega
  ·have:=aPs k r;omega
  ·omega
 obtain⟨v_,aaC⟩:=aD (db.setCell ⟨x,4,none⟩ (.pointer (some ⟨m,0,none⟩)));rw[aaC]at Lp Ep ahZ kS fg eZ⊢;refine(aO7 p v_).mono ?_;rintro _ rJ ⟨rfl,ZR,gJ,aPt⟩;obtain⟨cg,PK⟩:=aD (v_.1.size);rw[PK]at ZR aPt⊢;have akC:=gJ.obj Ep id;have aPu:=λj=>aG akC j;have Ih:=λj=>dJ akC j;have Aa:H (aj x) rJ (rJ.setCell ⟨x,5,none⟩ (.pointer (some ⟨cg,0,none⟩))):=(H.refl (aj x) rJ).setCell (p:=⟨x,5,none⟩) (.inl rfl) _;have aPv:(rJ.setCell ⟨x,5,none⟩ (.pointer (some ⟨cg,0,none⟩))).1[x]? =some (.cells (h_ (.pointer (some ⟨p,0,none⟩)) (.pointer (some ⟨gW,0,none⟩)) (.pointer (some ⟨dc,0,none⟩)) (.pointer (some ⟨c',0,none⟩)) (.pointer (some ⟨m,0,none⟩)) (.pointer (some ⟨cg,0,none⟩)) dU) 48 (0,0)):=by rw[eU,akC,fU];simp
 have aVL:=Aa.size;simp[go_sem,aPu,Ih];have Hz:=(fg.ch gJ λ_ _ e=>e).ch Aa λj I=>hD j (eZ j I).2;have Vs:sH (rJ.setCell ⟨x,5,none⟩ (.pointer (some ⟨cg,0,none⟩))) cg p (jk qP.1 qP.2.1 qP.2.2):=by
  rw[show jk qP.1 qP.2.1 qP.2.2=dh 64 from rfl];exact Aa.obj ZR (hD cg (by omega))
 refine af _ _ ⟨x,p,m,cg,z,rfl,⟨by rw[aPv,hz];rfl,?_⟩,⟨.slice none 0 0,A,Hz,Vs,λe=> ?_,λk r=>⟨⟨by have:=eZ k r;omega,by have:=eZ k r;omega⟩,(eZ k r).2⟩,⟨⟨by omega,by omega⟩,by omega⟩,λk r=>r.1.2⟩,by omega,(kS.trans gJ).bZ Aa λj I e=>by simp only[aj]at e;omega⟩
 ·exact ts
 ·have:=eZ _ e;omega
open Go.Maps
theorem agL{α:Type}{w:M}{v:N}{en:α->List N}{k:Nat}{l:List α}(h:fC w v en k l)(r:0<k){i:Nat}{a:α}(ad:l[i]? =some a)(ak:(en a).length=k):∃b off nT C bv fr,v=.slice (some ⟨b,off,none⟩) l.length nT/\b<w.1.size/\w.1[b]? =some (.cells C bv fr)/\off+i*k+k<=C.size/\
  (∀j,j<k->C[off+i*k+j]? =(en a)[j]?)/\∀p q,q<=k->C.extract (off+i*k+p) (off+i*k+q)=(en a).toArray.extract p q:=by
 obtain⟨A,nT,rfl,_,_,ag⟩:=h;obtain⟨b,off,rfl,ab,ax⟩:=ag (by grind);have Z:∀j u,(en a)[j]? =some u->w.cell? (bl b (off+i*k+j))=some u:=λj u ap=>ax i a j u ad ap;obtain⟨C,bv,fr,rb⟩:∃C bv fr,w.1[b]? =some (.cells C bv fr):=by
  have bi:=Z 0 _ (d_ (by omega));simp only[World.cell?]at bi
  grind
 have hV:∀j,j<k->C[off+i*k+j]? =(en a)[j]? :=λj I=>by
  obtain⟨u,ap⟩:∃u,(en a)[j]? =some u:=⟨_,d_ (by omega)⟩;rw[ap,<-Z j u ap,aG rb]
 have cU:off+i*k+k<=C.size:=by
  have ace:=hV (k - 1) (by omega);rw[d_ (by omega)]at ace;have:=(B'.1 ace).1;omega
 refine⟨b,off,nT,C,bv,fr,rfl,ab,rb,cU,hV,λp q au=> ?_⟩;apply ip;apply yM;intro j;simp only[Lz,Ea,Se,XJ]
 grind
theorem aqh(x:bF)(ok:fu x)(w:M):bc prog 58 #[.agg (aZ x)] w λv' w'=>v'=.agg (aZ x)/\H al w w':=by
 refine bz func58 ntmps58 λbk af=> ?_;have aA:=hA ok;have GD:=hA jy;have Fk:=tj ok;have bi:=oF w (.cells (aZ x) 130) (.cells (aZ bp) 113);have J:=nM w (.cells (aZ x) 130) (.cells (aZ bp) 113);have aU:=((H.refl al w).alloc (.cells (aZ x) 130)).alloc (.cells (aZ bp) 113);have gs:=λi=>aG bi i;simp[go_sem,pJ,uj,uk,GD,aA,gs,bi,J,Gn,LI,LJ,IP ok,awS x ok,bS,Fk];exact af _ _ ⟨rfl,aU.setRow (.inr (by omega)) _⟩
def DP(c:UInt8)(k:Nat):cW:=List.replicate k c++List.replicate (512 - k) 0
theorem aPw(c:UInt8){k:Nat}(h:k<=512):(DP c k).length=512:=by
 unfold DP
 grind
theorem aPx(c:UInt8):DP c 0=List.replicate 512 0:=by rfl
theorem aPy(c:UInt8):DP c 512=uN c:=by rfl
theorem aPz(c:UInt8){k:Nat}(h:k<512):(br (DP c k)).toArray.setIfInBounds k (.int .u8 c.toNat)=(br (DP c (k+1))).toArray:=by
 apply ip;rw[Array.toList_setIfInBounds];simp only[DP,br,AC,List.map_replicate];rw[List.set_append,aQ (by simp),yC,Sg,show 512 - k=(512 -(k+1))+1 by omega,Oz,OA,ac3,nv];rfl
theorem aqm(c:UInt8)(w:M):bc prog 59 #[.int .u8 c.toNat] w λv' w'=>(∃q,v'=.slice (some ⟨q,0,none⟩) 512 512/\w.1.size<=q/\q<w'.1.size)/\bC w' v' 512 (br (uN c))/\H al w w':=by
 refine bz func59 ntmps59 λbk af=> ?_;have rK:=amj 512 w (by omega);have dD:=cr w (.cells (br (List.replicate 512 0)).toArray 5);have aU:=(H.refl al w).alloc (.cells (br (List.replicate 512 0)).toArray 5);simp only[show((512:Nat):Int)=512 from rfl]at rK;rw[<-aPx c]at dD aU rK;simp[go_sem,rK,amm];obtain⟨q,au⟩:=aD (w.1.size);rw[au]at dD⊢;generalize w.alloc (.cells (br (DP c 0)).toArray 5)=ai at*;refine di (λV f u=>∃k,V=512 - k/\k<=512/\f 4=aa k/\f 0=.int .u8 c.toNat/\f 3=.slice (some ⟨q,0,none⟩) 512 512/\u.1[q]? =some (.cells (br (DP c k)).toArray 5 (0,0))/\H al w u) 512
  ⟨0,rfl,by omega,by simp,by simp,by simp,dD,aU⟩ ?_
 rintro cQ bJ _ f u ⟨k,rfl,r,ck,f0,bR,ab,Z⟩;by_cases J:k<512
 ·have mi:(k:Int)<512:=by omega
  have ej:IntKind.i64.wrap ((k:Int)+1)=(k:Int)+1:=by rw[cz];omega
  have cU:(br (DP c k)).toArray.size=512:=by simp[eO,aPw c r]
  have mq:u.cell? (bl q k)=some ((br (DP c k)).toArray[k]'(by omega)):=by rw[aG ab];exact yP (by omega)
  have kP:u.frozen? (bl q k)=false:=dJ ab k;simp[go_sem,f0,bR,ck,J,mi,mq,kP,ej];refine ct.intro (512 -(k+1)) (by omega) (bJ _ _ _ ⟨k+1,rfl,by omega,by simp,by simp[f0],by simp[bR],?_,Z.setCell (.inr (by show _<=q;omega)) _⟩);rw[eU,ab,fU];simp only[xB,aPz c J]
 ·have mi:¬(k:Int)<512:=by omega
  simp[go_sem,f0,bR,ck,J,mi];have xJ:k=512:=by omega
  subst xJ;rw[aPy]at ab;have aO:=lt_of_block ab;have cU:(br (uN c)).length=512:=by simp[eO,uN]
  refine af _ _ ⟨⟨q,rfl,by omega,aO⟩,?_,Z⟩;exact bC.Gb ab (by omega) (by decide) (by rfl)
def ach:gR:=⟨0,0,0,bp,0,0⟩
theorem agK:ach.fL:=⟨by decide,by decide,jy⟩
def iZ(x:gR):Array N:=(ln x).toArray
theorem av9(x:gR):(iZ x).toList=ln x:=rfl
section
variable {x:gR}
theorem LX(ok:x.fL):(iZ x).size=49:=ahK ok
theorem agN(ok:x.fL):(iZ x).extract 0 49=iZ x:=agM ok
theorem aEE:(iZ x)[0]? =some (.int .u8 x.d):=aIc
theorem aqf:(iZ x)[1]? =some (.int .u16 x.num.val):=aId
theorem aEF:(iZ x)[2]? =some (.int .u32 x.off.val):=aIe
theorem aEJ(ok:x.fL):(iZ x).extract 3 47=aZ x.i:=aIh ok
theorem aEG(ok:x.fL):(iZ x)[47]? =some (.int .u16 x.n):=aIf ok
theorem aEH(ok:x.fL):(iZ x)[48]? =some (.int .u8 x.c.toNat):=aIg ok
end
theorem UQ(x:gR):jx (iZ x)=true:=yJ (by
 intro u ap;unfold ln at ap;simp only[io,hP,yD,or_false]at ap;rcases ap with rfl|rfl|rfl|ap|rfl|rfl
 ·rfl
 ·rfl
 ·rfl
 ·have T:=Sw x.i;unfold jx at T;exact AD.1 T u (by simpa using ap)
 ·rfl
 ·rfl)
theorem agP:(prog.info? 132).map (λi=>i.zero.isSome)=some true:=by kernel_rfl
theorem agQ:kN prog 132=iZ ach:=by kernel_rfl
theorem av_:Bc prog 23 132 (.agg (iZ ach)) 49 80:=⟨underlying23,by kernel_rfl,ahK agK,by decide⟩
theorem av'{x:gR}(ok:x.fL)(w:M):(Instr.buildSlice 23 1 #[(0,.agg (iZ x))]).run prog w=.ok (.slice (some ⟨w.1.size,0,none⟩) 1 1) (w.alloc (.cells (iZ x) 132)):=
 SA (size:=49) (z:=.agg (iZ ach)) underlying23 Tryz.sizeOf132 (by kernel_rfl) (LX ok) (by decide) (by decide) w
abbrev aci(l:List gR):List N:=ei iZ l
theorem awa(x:gR):(iZ x)[3]? =some (.int .u8 x.i.k):=by simp[iZ,ln,aZ]
theorem awb(x:gR)(h:3<(iZ x).size):(iZ x)[3]'h=.int .u8 x.i.k:=by
 rfl
theorem aPA(x:gR)(k:Nat):(iZ x).setIfInBounds 3 (.int .u8 k)=iZ {x with i:={x.i with k:=k}}:=by simp[iZ,ln,aZ]
theorem axM(v:N)(l:List gR)(w:M)(ak:fC w v ln 49 l)(fo:∀x∈l,x.fL)(aq:l.length<=1000):
  bc prog 13 #[v] w λv' w'=>vS 132 49 w v' l.length (aci (l.map qi)) w':=by
 refine bz func13 ntmps13 λbk af=> ?_;have cu:=ak.len underlying23 3;simp[go_sem];refine di (λV f u=>∃i,V=l.length - i/\i<=l.length/\f 0=v/\f 4=aa i/\vS 132 49 w (f 3) i (aci ((l.take i).map qi)) u) l.length
  ⟨0,rfl,by omega,by simp,by simp,vS.nil 132 49 (H.refl al w)⟩ ?_
 rintro cQ bJ _ f u ⟨i,rfl,ad,f0,ck,aC⟩;by_cases aO:i<l.length
 ·have fy:(i:Int)<l.length:=by omega
  have eQ:IntKind.i64.wrap ((i:Int)+1)=(i:Int)+1:=by rw[cz];omega
  obtain⟨x,W⟩:∃x,l[i]? =some x:=⟨_,d_ aO⟩;have cG:=fo x (ib W);have eF:=LX cG;have hz:=LX agK;have acj:=alF cG;have MC:=LX acj.1;obtain⟨b,off,nT,cs,bv,fr,wZ,iQ,Dm,fd,_,mr⟩:=agL (ak.ch aC.ch λ_ _ _ e=>e) (by decide) W (Qv cG);have aat:cs.extract (off+i*49) (off+i*49+49)=iZ x:=by rw[show off+i*49=off+i*49+0 by omega,mr 0 49 (by omega)];exact agM cG
  have Fk:=agN cG;have ahJ:=agN acj.1;have dD:=cr u (.cells (iZ x) 132);have aU:=(H.refl al u).alloc (.cells (iZ x) 132);subst wZ;have iX:(l.take (i+1)).map qi=(l.take i).map qi++[qi x]:=by rw[nA,W];simp
  by_cases r:x.i.k=0
  ·have e:qi x=x:=by unfold qi;rw[be r]
   simp[↓Eh,go_sem,f0,ck,cu,aO,fy,Dm,fd,aat,pJ,agP,agQ,hz,eF,bS,UQ,awa,awb,r,dD,Fk];obtain⟨ai,dx⟩:=aD (u.alloc (.cells (iZ x) 132));rw[dx]at aU⊢;refine Ei (av' cG _) ?_;have gD:=aC.step aU;simp[go_sem];refine wJ (us:=ln x) (n:=i) av_ gD.own (Qv cG) (GX (UQ x)) (by unfold maxLen;omega) (by omega) λrS ec bn bh bA=> ?_;have aH:=gD.grow bn bh bA;simp[go_sem,ck,eQ];refine ct.intro (l.length -(i+1)) (by omega) (bJ _ _ _ ⟨i+1,rfl,by omega,by simp[f0],by simp,?_⟩);rw[iX];unfold aci;rw[AG,Cg];simpa[e,av9]using aH
  ·have fH:((x.i.k:Int)==0)=false:=hv (by omega);have oD:¬((x.i.k:Int)=0):=by omega
   have e:{x with i:={x.i with k:=1}}=qi x:=by unfold qi;rw[aQ r]
   have ha:(iZ x).setIfInBounds 3 (.int .u8 1)=iZ (qi x):=by rw[<-e];exact aPA x 1
   simp[↓Eh,go_sem,f0,ck,cu,aO,fy,Dm,fd,aat,pJ,agP,agQ,hz,eF,bS,UQ,awa,awb,r,fH,oD,bne,dD,Fk,ha,MC,ahJ];have fI:=(H.refl al u).alloc (.cells (iZ (qi x)) 132);obtain⟨ai,dx⟩:=aD (u.alloc (.cells (iZ (qi x)) 132));rw[dx]at fI⊢;refine Ei (av' acj.1 _) ?_;have gD:=aC.step fI;simp[go_sem];refine wJ (us:=ln (qi x)) (n:=i) av_ gD.own (Qv acj.1) (GX (UQ (qi x))) (by unfold maxLen;omega) (by omega) λrS ec bn bh bA=> ?_;have aH:=gD.grow bn bh bA;simp[go_sem,ck,eQ];refine ct.intro (l.length -(i+1)) (by omega) (bJ _ _ _ ⟨i+1,rfl,by omega,by simp[f0],by simp,?_⟩);rw[iX];unfold aci;rw[AG,Cg];simpa[av9]using aH
 ·have fy:¬(i:Int)<l.length:=by omega
  have Ku:i=l.length:=by omega
  simp[go_sem,f0,ck,cu,aO,fy];rw[Ku,wm]at aC;exact af _ _ aC
theorem aqz{l:List Nat}{i:Nat}{x:Nat}(h:l[i]? =some x):(hg l)[i]? =some (.int .u16 x):=by unfold hg;rw[oo,h];rfl
theorem ax5(v rD:N)(l:List gR)(xs:List Nat)(w:M)(ak:fC w v ln 49 l)(fo:∀x∈l,x.fL)(aq:l.length<=1000)(W:bC w rD xs.length (hg xs))(oP:∀x∈xs,x<65536)(sr:xs.length<=100000):
  bc prog 18 #[v,rD] w λv' w'=>∃ys,kD 39 w v' ys.length (hg ys) w'/\(∀y∈ys,y<65536)/\ys.length<=xs.length+l.length:=by
 refine bz func18 ntmps18 λbk af=> ?_;have cu:=ak.len underlying23 3;simp[go_sem];refine aOe Um W (DS _) (acD _) (by unfold maxLen;omega) (by omega) λfY ai bn bh bA=> ?_;have LG:kD 39 w fY xs.length (hg xs) ai:=⟨bn,bh,bA⟩;simp[go_sem];refine di (λV f u=>∃i ys,V=l.length - i/\i<=l.length/\f 0=v/\f 6=aa i/\kD 39 w (f 5) ys.length (hg ys) u/\(∀y∈ys,y<65536)/\ys.length<=xs.length+i) l.length
  ⟨0,xs,rfl,by omega,by simp,by simp,by simpa using LG,oP,by omega⟩ ?_
 rintro cQ bJ _ f u ⟨i,ys,rfl,ad,f0,f6,aC,Do,Em⟩;obtain⟨iz,Mc⟩:=aD (f 5);rw[Mc]at aC;by_cases aO:i<l.length
 ·have fy:(i:Int)<l.length:=by omega
  have eQ:IntKind.i64.wrap ((i:Int)+1)=(i:Int)+1:=by rw[cz];omega
  obtain⟨x,Gd⟩:∃x,l[i]? =some x:=⟨_,d_ aO⟩;have cG:=fo x (ib Gd);simp[go_sem,f0,f6,cu,aO,fy];refine di (λV bg u2=>∃k B,V=ys.length - k/\k<=ys.length/\bg 0=v/\bg 6=aa i/\bg 5=iz/\bg 7=.bool B/\bg 8=aa k/\kD 39 w iz ys.length (hg ys) u2) ys.length
   ⟨0,false,rfl,by omega,by simp[f0],by simp[f6],by simp[Mc],by simp,by simp,aC⟩ ?_
  rintro vq jR _ bg u2 ⟨k,B,rfl,r,hE,cA,cO,jp,eG,pc⟩;have xP:=ak.ch pc.ch λ_ _ _ e=>e;obtain⟨b,off,nT,cs,bv,fr,wZ,iQ,Dm,fd,fR,mr⟩:=agL xP (by decide) Gd (Qv cG);have nZ:cs[off+i*49+1]? =some (.int .u16 x.num.val):=by rw[fR 1 (by omega)];rfl
  have Cf:∀w:M,w.1[b]? =some (.cells cs bv fr)->w.cell? (bl b (off+i*49+1))=some (.int .u16 x.num.val):=λw h=>by rw[aG h];exact nZ
  have lx:bC u2 iz ys.length (hg ys):=.fF pc.own;have akD:=lx.len underlying30 3;by_cases ox:k<ys.length
  ·have kZ:(k:Int)<ys.length:=by omega
   have ej:IntKind.i64.wrap ((k:Int)+1)=(k:Int)+1:=by rw[cz];omega
   obtain⟨y,ar⟩:∃y,ys[k]? =some y:=⟨_,d_ ox⟩;obtain⟨bx,lI,mf⟩:=lx.drew.at Um (DS _) (aqz ar);simp[go_sem,hE,cA,cO,eG,akD,ox,kZ];refine cT [F 0,F 1,F 2,F 3,F 4,F 5,F 6,F 7,F 8,F 9,F 10,F 11,F 12,F 13] ?_
   cases B with
   |true=>
    simp[go_sem,hE,cA,cO,jp,eG,ej];exact ct.intro (ys.length -(k+1)) (by omega) (jR _ _ _ ⟨k+1,true,rfl,by omega,by simp[hE],by simp[cA],by simp[cO],by simp,by simp,pc.drew⟩)
   |false=>
    subst wZ;have uv:u2.drew.1[b]? =some (.cells cs bv fr):=Dm;simp[go_sem,hE,cA,cO,jp,eG,ej,lI,mf,aO,fy,uv,nZ,Cf _ uv];exact ct.intro (ys.length -(k+1)) (by omega) (jR _ _ _ ⟨k+1,_,rfl,by omega,by simp[hE],by simp[cA],by simp[cO],by simp;rfl,by simp,pc.drew⟩)
  ·have kZ:¬(k:Int)<ys.length:=by omega
   cases B with
   |true=>
    simp[go_sem,hE,cA,cO,jp,eG,akD,ox,kZ,eQ];exact ct.intro (l.length -(i+1)) (by omega) (bJ _ _ _ ⟨i+1,ys,rfl,by omega,by simp[hE],by simp,by simpa[cO]using pc,Do,by omega⟩)
   |false=>
    subst wZ;simp[go_sem,hE,cA,cO,jp,eG,akD,ox,kZ,aO,fy,Cf _ Dm];refine HP (n:=ys.length) Um pc.own rfl (by unfold maxLen;omega) (by omega) λrS ec hf eI jd=> ?_;have aH:=pc.grow hf eI jd;simp[go_sem,cA,eQ];refine ct.intro (l.length -(i+1)) (by omega) (bJ _ _ _ ⟨i+1,ys++[x.num.val],rfl,by omega,by simp[hE],by simp,?_,λy ar=> ?_,by simp;omega⟩)
    ·have e:hg (ys++[x.num.val])=hg ys++[Value.int .u16 x.num.val]:=by unfold hg;rw[AC];rfl
     rw[e];simpa using aH
    grind
 ·have fy:¬(i:Int)<l.length:=by omega
  simp[go_sem,f0,f6,cu,aO,fy,Mc];exact af _ _ ⟨ys,aC,Do,by omega⟩
def WQ:N->N->Bool
 |.int k x,.int lD y=>decide (k=lD)&&decide (x=y)
 |_,_=>false
noncomputable def akE(l:List N):List N->Bool:=List.rec (motive:=λ_=>List N->Bool) (λm=>m.isEmpty) (λa _ bL m=>match m with|[]=>false|b::m'=>cond (WQ a b) (bL m') false) l
theorem aPB{a b:N}(h:WQ a b=true):a=b:=by
 unfold WQ at h
 grind
theorem awc:∀{l m:List N},akE l m=true->l=m
 |[],m,h=>by
  have h:m.isEmpty=true:=h
  grind
 |a::l,m,h=>by
  cases m with
  |nil=>cases h
  |cons b m=>
   have h:cond (WQ a b) (akE l m) false=true:=h
   cases aM:WQ a b with
   |false=>rw[aM]at h;cases h
   |true=>
    rw[aM]at h;rw[aPB aM,awc h]
def Dl:List N:=ei aZ (List.replicate 256 bp)++List.replicate 16384 (aa 0)
theorem aPC:akE (kN prog 129).toList Dl=true:=by kernel_rfl
theorem aqa:kN prog 129=Dl.toArray:=by
 rw[<-awc aPC]
theorem ap':(prog.info? 129).map (λi=>i.zero.isSome)=some true:=by kernel_rfl
structure rl(cs:Array N)(aw:co):Prop where
 size:cs.size=27648
 x:∀k j,k<256->j<44->cs[k*44+j]? =(aZ (aw.x k))[j]?
 ok:∀k,fu (aw.x k)
 l:∀k o,k<256->o<64->cs[11264+k*64+o]? =some (aa (aw.l k o))
section
variable {cs:Array N}{aw:co}{k o:Nat}
theorem aar{a b:Array N}{p:Nat}(ab:p+b.size<=a.size)(i:Nat):(dT a p b)[i]? =if p<=i/\i<p+b.size then b[i - p]? else a[i]? :=by
 unfold dT;rw[yL,nv];have am:(a.toList.take p).length=p:=by rw[ol,wi];omega
 grind
theorem rl.ext(h:rl cs aw)(r:k<256):cs.extract (k*44) (k*44+44)=aZ (aw.x k):=by
 have aA:=hA (h.ok k);apply OQ;intro i;rw[Sd];by_cases ad:i<44
 ·have:=h.size;rw[be (by omega),h.x k i r ad]
 grind
theorem rl.sK(h:rl cs aw)(r:k<256){x:bF}(ok:fu x):rl (dT cs (k*44) (aZ x)) (aw.sK k x):=by
 have aA:=hA ok;have hz:=h.size;have ab:k*44+(aZ x).size<=cs.size:=by omega
 refine⟨by rw[uf ab,hz],λi j ad I=> ?_,λi=> ?_,λi o ad av=> ?_⟩
 ·rw[aar ab,aA];unfold co.sK;simp only;by_cases e:i=k
  ·grind
  ·rw[aQ (by omega),aQ e,h.x i j ad I]
 ·unfold co.sK;simp only;split
  ·exact ok
  ·exact h.ok i
 ·rw[aar ab,aA,aQ (by omega)];exact h.l i o ad av
theorem rl.kq(h:rl cs aw)(r:k<256)(av:o<64)(z:Int):rl (cs.setIfInBounds (11264+k*64+o) (aa z)) (aw.kq k o z):=by
 have hz:=h.size;refine⟨by grind,λi j ad I=> ?_,h.ok,λi j ad I=> ?_⟩
 ·rw[ac_,aQ (by omega)];exact h.x i j ad I
 ·rw[ac_];unfold co.kq;simp only;by_cases e:i=k/\j=o
  ·grind
  ·rw[aQ (by omega),aQ e];exact h.l i j ad I
theorem rl.congr{akF:co}(h:rl cs aw)(W:∀k,akF.x k=aw.x k)(ak:∀k o,k<256->o<64->akF.l k o=aw.l k o):rl cs akF:=
 ⟨h.size,λk j r I=>by rw[W];exact h.x k j r I,λk=>by rw[W];exact h.ok k,λk o r av=>by rw[ak k o r av];exact h.l k o r av⟩
end
theorem Gl{α:Type}{en:α->Array N}{n:Nat}:∀{l:List α},(∀a∈l,(en a).size=n)->0<n->∀{i j:Nat} {a:α},l[i]? =some a->j<n->(ei en l)[i*n+j]? =(en a)[j]?
 |[],_,_,_,_,_,h,_=>by cases h
 |b::l,aq,bi,i,j,a,h,I=>by
  have ab:=aq b (by simp);have e:ei en (b::l)=(en b).toList++ei en l:=by rfl
  rw[e]
  cases i with
  |zero=>
   grind
  |succ i=>
   have h:l[i]? =some a:=by simpa using h
   rw[DV (by grind),wi,ab,show(i+1)*n+j - n=i*n+j by rw[Sq];omega];exact Gl (λc Z=>aq c (by simp[Z])) bi h I
def Ol(i j:Nat):co:=⟨λ_=>bp,λk o=>if k<i\/(k=i/\o<j)then -1 else 0⟩
theorem agI:rl Dl.toArray (Ol 0 0):=by
 have fo:∀a∈List.replicate 256 bp,(aZ a).size=44:=λa ao=>by rw[(IB.1 ao).2];exact hA jy
 have cu:(ei aZ (List.replicate 256 bp)).length=11264:=by rw[St _ fo,yC]
 refine⟨?_,λk j r I=> ?_,λ_=>jy,λk o r av=> ?_⟩
 ·rw[XD];unfold Dl
  grind
 ·rw[yL];unfold Dl;rw[LA (by omega)];exact Gl fo (by decide) (by rw[DW,be r];rfl) I
 ·rw[yL];unfold Dl;rw[DV (by omega),cu,DW,be (by omega)];unfold Ol
  grind
def tu(w:M)(q:Nat)(aw:co):Prop:=∃cs,w.1[q]? =some (.cells cs 129 (0,0))/\rl cs aw
theorem aPD{w:M}{K:N->M->Prop}:jb prog 129 [] w K=K (.agg Dl.toArray) w:=
 ma underlying129 ap' (places:=#[(0,11264),(11264,16384)]) (by simp[go_sem]) (by simp[jw,aqa])
theorem axH(w:M):bc prog 12 #[] w λv' w'=>∃q,v'=az q/\tu w' q co.dv/\w.1.size<=q/\H al w w':=by
 refine bz func12 ntmps12 λbk af=> ?_;have hz:=agI.size;have dD:=cr w (.cells Dl.toArray 129);have aU:=(H.refl al w).alloc (.cells Dl.toArray 129);obtain⟨agJ,nR⟩:=aD (Dl.toArray);simp[go_sem,aPD,pJ,nR];obtain⟨q,au⟩:=aD (w.1.size);rw[nR,au]at dD;rw[nR]at aU;rw[au];refine di (λV f u=>∃i,V=256 - i/\i<=256/\f 1=az q/\f 2=aa i/\tu u q (Ol i 0)/\H al w u) 256
  ⟨0,rfl,by omega,by simp,by simp,⟨_,dD,by rw[<-nR];exact agI⟩,aU⟩ ?_
 rintro cQ bJ _ f u ⟨i,rfl,ad,aW,bg,hb,Z⟩;by_cases aO:i<256
 ·have fy:(i:Int)<256:=by omega
  have eQ:IntKind.i64.wrap ((i:Int)+1)=(i:Int)+1:=by rw[cz];omega
  simp[go_sem,bg,fy];refine di (λV g u2=>∃j,V=64 - j/\j<=64/\g 1=az q/\g 2=aa i/\g 3=aa j/\tu u2 q (Ol i j)/\H al w u2) 64
   ⟨0,rfl,by omega,by simp[aW],by simp[bg],by simp,hb,Z⟩ ?_
  rintro vq jR _ g u2 ⟨j,rfl,I,cC,cj,cp,⟨cs,ab,fp⟩,hV⟩;by_cases xa:j<64
  ·have qz:(j:Int)<64:=by omega
   have hN:IntKind.i64.wrap ((j:Int)+1)=(j:Int)+1:=by rw[cz];omega
   have mq:=aG ab (11264+i*64+j);rw[fp.l i j aO xa]at mq;have kP:=dJ ab (11264+i*64+j);simp[go_sem,cC,cj,cp,fy,qz,aO,xa,mq,kP,hN];refine ct.intro (64 -(j+1)) (by omega) (jR _ _ _ ⟨j+1,rfl,by omega,by simp[cC],by simp[cj],by simp,⟨_,by simp_all,(fp.kq aO xa (-1)).congr (λ_=>rfl) λk o r av=> ?_⟩,hV.setCell (.inr (by show _<=q;omega)) _⟩);unfold Ol co.kq
   grind
  ·have qz:¬(j:Int)<64:=by omega
   simp[go_sem,cC,cj,cp,qz,eQ];refine ct.intro (256 -(i+1)) (by omega) (bJ _ _ _ ⟨i+1,rfl,by omega,by simp[cC],by simp,⟨cs,ab,fp.congr (λ_=>rfl) λk o r av=> ?_⟩,hV⟩);unfold Ol
   grind
 ·have fy:¬(i:Int)<256:=by omega
  simp[go_sem,aW,bg,fy];obtain⟨cs,ab,fp⟩:=hb;refine af _ _ ⟨q,rfl,⟨cs,ab,fp.congr (λ_=>rfl) λk o r av=> ?_⟩,by omega,Z⟩;unfold Ol co.dv
  grind
end Go.Proofs.YtoohkhcpboldjaaGreatDoor
namespace Go.Proofs.YtoohkhcpboldjaaGreatDoor
open Go.RowKit Go.Kin Tryz
structure awd{aF:Type}(ba:aF->jf)(m:aF->Nat)(rd:Src aF)(sv:N):Prop where
 In:pL ba m rd sv
 aPE:∀(s:aF) (w:M) (O:Nat->Prop) (p:Pt) (K:N->M->Prop),16<=m s->ba s w O->cc p->hI w->iO ba O->
  (∀u w' O',bC w' u (rd s p).2.1.length (br (rd s p).2.1)->(rd s p).2.1.length<=1000000->ba (rd s p).1 w' O'->(∀j,O' j->aE O w w' j)->(∀j,u.ownBlock=some j->¬O' j/\w.1.size<=j)->H O w w'->K (.tuple #[u,aa (rd s p).2.2]) w')->Jk prog sv "Read" [.agg (ae p)] w K
theorem aFg{S:Nat->Prop}{w w':M}{v:N}{n:Nat}{xs:List N}(h:bC w v n xs)(Z:H S w w')(aq:∀k,k<w.1.size->v.ownBlock=some k->¬S k):bC w' v n xs:=by
 obtain⟨A,c,rfl,J,T,ag⟩:=h;refine⟨A,c,rfl,J,T,λam=> ?_⟩;obtain⟨bx,rfl,ax⟩:=ag am;refine⟨bx,rfl,λj u ap=>Z.cell (ax j u ap) ?_⟩;have:=xC w _ (ax j u ap);rw[IL]at this⊢;exact aq _ this rfl
section
variable {aF:Type}{ba:aF->jf}{m:aF->Nat}{rd:Src aF}{dy:TypeId}{ce:N}{s:aF}{w w':M}{O:Nat->Prop}{v:Nat}{st:et}
theorem aPF(aA:awd ba m rd (.iface dy ce))(aC:96<=m s)(aT:∀s,kB (ba s))(h:ba s w O)(aM:qA w v (.iface dy ce) st)(g_:¬O v)(ok:gi st)(num off:Nat)(nZ:num<65536)(iD:off<4294967296)(cv:hI w)(aH:iO ba O):
  bc prog 73 #[az v,.int .u16 num,.int .u32 off] w λv' w'=>∃u O',v'=.tuple #[u,aa (Ab rd s st num off).2.2]/\bC w' u (Ab rd s st num off).2.1.length (br (Ab rd s st num off).2.1)/\ba (Ab rd s st num off).1 w' O'/\(∀j,O' j->aE O w w' j)/\(∀j,u.ownBlock=some j->¬O' j/\w.1.size<=j)/\H O w w':=by
 refine bz func73 ntmps73 λbk af=> ?_;have ga:=(aT s).lt h;have n':=cd cH;have ic:=ef cH;simp[go_sem];refine(av5 aA.In (by omega) aT h aM g_ ok num off nZ iD cv aH).mono ?_;have WP:=aPf aA.In s st num off;have u':Ab rd s st num off=if(jO rd s st num off).2.2≠0\/(jO rd s st num off).2.1=ah then((jO rd s st num off).1,[],(jO rd s st num off).2.2)else rd (jO rd s st num off).1 (jO rd s st num off).2.1:=rfl
 obtain⟨⟨cR,jH,aR⟩,W⟩:∃y,jO rd s st num off=y:=⟨_,rfl⟩;rw[W]at WP u'⊢;simp only at WP u';rintro _ an ⟨rfl,hS,T,aK⟩;simp only at hS T⊢;have av6:=aK.size;have de:=cd hS;have da:=ef hS;have ky:qA an v (.iface dy ce) st:=aK.obj aM g_;have mj:=aH.cv cv aK ⟨_,T⟩ λ_ _ e=>e;have aI:=(H.refl al an).alloc (.cells (ae jH) 44);have cK:=cr an (.cells (ae jH) 44);have iC:(an.alloc (.cells (ae jH) 44)).1.size=an.1.size+1:=by simp
 obtain⟨aJ,ik⟩:=aD (an.alloc (.cells (ae jH) 44));rw[ik]at aI cK iC;have tk:∀w,(Op.equalIn 10000 44 (.agg (ae jH)) (.agg (ae ah))).run prog w=.ok (decide (jH=ah)) w:=λw=>tc w hS cH;have ag:=(aT _).ch T aI λ_ _ e=>e;have kn:=mj.ch aI λ_ _ e=>e;have zl:qA aJ v (.iface dy ce) st:=aI.obj ky id;have hK:H O w aJ:=aK.trans (aI.mono λ_ _ e=>e.elim);have CX:∀j,aE O w an j->aE O w aJ j:=λj I=>I.imp id λe=>⟨e.1,by omega⟩;have awe:∀{ek:Int},aR=ek->(ek≠0\/jH=ah)->bk (.tuple #[.slice none 0 0,aa ek]) aJ:=λ{ek} aV hz=>by
  subst aV;rw[be hz]at u';rw[u']at af;exact af _ _ ⟨_,_,rfl,by simp only[OK];exact bC.fF (pA aJ 0 5 1),(aT _).eK ag CX (aE.lt ga (by omega)),λ_ h=>h,λj I=>by simp[Value.ownBlock]at I,hK⟩
 by_cases aV:aR=0
 ·subst aV;have kH:((0:Int)!=0)=false:=by decide
  by_cases hz:jH=ah
  ·have yh:=λw=>(tk w).trans (by rw[ou hz]);simp[go_sem,gO,gP,n',ic,de,da,bS,ik,kH,cK,l',yh];exact awe rfl (.inr hz)
  ·rw[aQ (by simp[hz])]at u';simp[go_sem,gO,gP,n',ic,de,da,bS,ik,kH,cK,l',tk,hz];refine cT [F 0,F 1,F 2,F 3,F 4,(5,some []),F 6,F 7,F 8,F 9] ?_;have dH:=(H.refl al aJ).drew;obtain⟨hO,lq⟩:=aD (aJ.drew);have kW:hO.1.size=aJ.1.size:=by rw[<-lq];rfl
   rw[lq]at dH⊢;clear lq;have bm:=(aT _).ch ag dH λ_ _ e=>e;have akt:=kn.ch dH λ_ _ e=>e;have MS:=dH.obj cK id;have aku:qA hO v (.iface dy ce) st:=dH.obj zl id;have WN:=(aG aku 0).trans akr;simp[go_sem,WN,MS,de,da];refine aA.aPE cR hO _ jH _ (by omega) bm hS akt (aH.cN cv) λu bs avv ap Qr aP aPG ajG bo=> ?_;have jo:=bo.size;simp[go_sem];rw[u']at af;refine af _ _ ⟨_,avv,rfl,ap,aP,λj I=> ?_,λj I=>⟨(ajG j I).1,by have:=(ajG j I).2;omega⟩,(hK.trans (dH.mono λ_ _ e=>e.elim)).bZ bo λj I e=>e.elim id λe=>by omega⟩;rcases aPG j I with I|I
   ·exact(CX j I).imp id λe=>⟨e.1,by omega⟩
   ·exact .inr ⟨by omega,I.2⟩
 ·have gA:(aR !=0)=true:=by simpa using aV
  simp[go_sem,gO,gP,n',ic,de,da,bS,ik,gA,cK,l',tk];exact awe rfl (.inl aV)
end
section
variable {m p n cg v:Nat}{z:fV}{x:kY}{ep w w':M}{eB O:Nat->Prop}{cL:eb->Nat}{st:et}
theorem aPH(dC:kG cL)(e:sw ep eB):awd (sQ ep eB m p n cg z) (za cL) (lZ n) (up m):=by
 refine⟨aa3 dC e,λx w O q K aC h ok cv aH fW=> ?_⟩;obtain⟨lv,b_,_⟩:=h.cv e;obtain⟨gK,⟨a_,A,bn,bh,bA,ex,fJ,jZ⟩,T,ag,aP⟩:=h;obtain⟨aW,bg,bR⟩:=PG dC aC;rw[TD (arZ m _ _)];have fp:kF w m p n z x.s (gU z m p a_ A):=⟨a_,A,bn,λ_ e=>e,bn.ih⟩;refine(aeT fp q ok lv.qQ b_ aW (by omega) λy=>(T _ (ex _ y)).2 (e.d' _ (.inr (.inl rfl)))).mono ?_;rintro _ w' ⟨u,rfl,aN⟩;obtain⟨O',⟨jr,gM,fh,fv,iY⟩,oz,rB⟩:=aN.dI;have fd:=aN.ch.size;have W:∀j,gU z m p jr gM j->gU z m p a_ A j\/(w.1.size<=j/\j<w'.1.size):=λj I=>oz j (fv j I);have eY:=jZ cg fJ;refine fW u w' (λj=>aE O w w' j/\¬u.ownBlock=some j) aN.dR (dK (aeR n x.s q false) (by decide)) ⟨λj=>aE gK w w' j/\¬u.ownBlock=some j,⟨jr,gM,fh,aN.ch.obj bh bA,λy=> ?_,λj I=>⟨(W j I).imp (ex j) id,λaR=>(rB j aR).2 (fv j I)⟩,⟨.inl fJ,λaR=>by have:=(rB cg aR).1;omega⟩,λj I=>aE.lt jZ fd j I.1⟩,λj I=> ?_,λj I=>⟨⟨.inl (ag j I).1,λaR=>by grind⟩,?_⟩,λj I=>aE.lt aP fd j I.1⟩ (λj I=>I.1) (λj I=>⟨λaR=>aR.2 I,(rB j I).1⟩) (aN.ch.mono λj _ y=>(T j (ex j y)).1)
 ·grind
 ·obtain⟨I,awf⟩:=I;rcases I with I|I
  ·exact⟨⟨.inl (T j I).1,awf⟩,(T j I).2⟩
  ·exact⟨⟨.inr I,awf⟩,λab=>by grind⟩
 ·obtain⟨o,av⟩:∃o,w.1[j]? =some o:=⟨_,yP (aP j (ag j I).1)⟩;rw[aN.ch.obj av λy=>(T j (ex j y)).2 I,<-(ag j I).2,av]
theorem aE2(dC:kG cL)(cv:hI w)(fT:jz w)(gB:qO w)(h:km m p n cg z x w O)(jj:∀j,iK j->¬O j)(aC:96<=za cL x)(aM:qA w v (up m) st)(g_:¬O v/\¬iK v)(ok:gi st)(num off:Nat)(nZ:num<65536)(iD:off<4294967296):
  bc prog 73 #[az v,.int .u16 num,.int .u32 off] w λv' w'=>∃u O',v'=.tuple #[u,aa (Ab (lZ n) x st num off).2.2]/\bC w' u (Ab (lZ n) x st num off).2.1.length (br (Ab (lZ n) x st num off).2.1)/\km m p n cg z (Ab (lZ n) x st num off).1 w' O'/\(∀j,O' j->aE O w w' j)/\(∀j,u.ownBlock=some j->¬O' j/\w.1.size<=j)/\H O w w':=by
 have ak:=(km.ok m p n cg z x).lt h;have aH:=LV cv fT gB;have e:sw w iK:=⟨cv,fT,gB,λ_ h=>h⟩;have ab:sQ w iK m p n cg z x w (λj=>O j\/iK j):=⟨O,h,λj I=>⟨.inl I,λe=>jj j e I⟩,λj I=>⟨.inr I,rfl⟩,λj I=>I.elim (ak j) (aH j)⟩;refine(aPF (aPH dC e) aC (sQ.ok _ _ _ _ _ _ _) ab aM (λe=>e.elim g_.1 g_.2) ok num off nZ iD cv (sQ.d' e)).mono ?_;rintro v' w' ⟨u,O',rfl,aA,⟨gK,J,T,ag,aP⟩,tJ,ap,c⟩;have cs:=c.size;refine⟨u,gK,rfl,aA,J,λj I=> ?_,λj I=>⟨λe=>(ap j I).1 (T j e).1,(ap j I).2⟩,(H.mV (B:=iK) c λj I=>(ag j I).2).mono λj _ e=>e.1.resolve_right e.2⟩;rcases tJ j (T j I).1 with(k|k)|k
 ·exact .inl k
 ·exact absurd k (T j I).2
 ·exact .inr k
end
end Go.Proofs.YtoohkhcpboldjaaGreatDoor
