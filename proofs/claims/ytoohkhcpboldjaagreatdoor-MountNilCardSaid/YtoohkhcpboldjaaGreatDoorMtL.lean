/- A mount, in plain Lean: what it reads, marks and tells. They speak of no memory. No condition. -/
import Derived.Test.YtoohkhcpboldjaaGreatDoorRgS
set_option maxRecDepth 100000
set_option linter.unusedSimpArgs false
set_option linter.unusedVariables false
namespace Go.Proofs.YtoohkhcpboldjaaGreatDoor
open Go.RowKit Go.Kin
def FJ(n:Nat):hT:=⟨n,0,[],λ_=>[],λ_=>false,false⟩
def zX:List br:=List.replicate 256 bA
def Pj:lh:=⟨λ_=>bA,λ_=>dY,λ_=>List.replicate 64 ad⟩
theorem aaC(k:Nat):zX.getD k bA=bA:=by
 unfold zX
 grind
theorem axe{n:Nat}(av:n<=65536):rD (FJ n) ⟨ao.fh,[],[]⟩:=by
 refine⟨⟨λi=>⟨rfl,rfl,λ_=>rfl,λ_=>rfl⟩,λi _=>rfl,λ_=>rfl,λi _ a=>rfl,λi _ a _ _=> ?_,?_,λa am=>(by cases am),λp ah=>(by cases ah),λp ah=>(by cases ah),λp ah=>(by cases ah),λi _ a=> ?_,λi _ e aV=>(by cases aV),.inl λp ah=>(by cases ah),av⟩,λp ah=>(by cases ah),λ_=>rfl⟩
 ·rfl
 ·exact List.nodup_nil
 rfl
theorem axf(has:Pt->List UInt8->Prop):qQ has ad dY (List.replicate 64 ad) zX Pj λ_ _=>none:=
 ⟨lj.z,λn _ _=>(aaC n).symm,λn _ _=>mL.z rfl⟩
theorem axg(y:Pt)(ar:y≠ad):uv ad ad dY (List.replicate 64 ad) Pj y=0:=by
 have H:List.count y dY=0:=List.count_eq_zero.2 λe=>ar (List.mem_replicate.1 e).2;have I:List.count y (List.replicate 64 ad)=0:=List.count_eq_zero.2 λe=>ar (List.mem_replicate.1 e).2;have af:mM ad dY (List.replicate 64 ad) y=0:=by
  unfold mM
  grind
 unfold uv;rw[if_neg (Ne.symm ar),af];have:∀l:List Nat,hN l (Pj.eN y)=0:=λl=>by
  induction l with
  |nil=>rfl
  |cons a l bG=>
   have:Pj.eN y a=0:=af;unfold hN at bG⊢
   grind
 rw[this]
theorem iV.start{n:Nat}(av:n<=65536):iV n (λ_=>false) ⟨ao.fh,oT⟩ dO zX (λ_ _=>none) (FJ n) dY (List.replicate 64 ad) Pj:=
 ⟨rfl,rfl,axe av,axf _,λe=>(by cases e),λy ar=>by rw[show dO.top=ad from rfl,show dO.cO=ad from rfl,axg y ar];rfl,.inl ⟨rfl,rfl,rfl⟩,kR,Dv⟩
theorem hP.start:hP 0 ao.fh:=⟨λ_=>rfl,λ_=>rfl,rfl,λ_ _=>Nat.le_refl _⟩
section
variable{n:Nat}{bS:Nat->Bool}{x iC:hK}{st fT:e'}{v W:List br}{lf aIl:Nat->Nat->Option (List UInt8)}{c dg:hT}{dp aD wF qn:List Pt}{O O':lh}{i:Nat}
theorem iV.axh(h:iV n bS x st v lf c dp aD O)(aa:i<2):∀a,1<=a->a<n->x.s.use i a<3:=λa a1 a2=>by
 have:=h.ok.bL.use i aa a a1 (by rw[h.n];exact a2)
 grind
theorem iV.ajf(h:iV n bS x st v lf c dp aD O)(aa:i<2){a:Nat}(a1:1<=a)(a2:a<n):x.s.use i a=if a∈bp c.dP then 1 else 0:=by
 have:=h.ok.bL.use i aa a a1 (by rw[h.n];exact a2);rw[show({s:=x.s,bI:=[],fL:=[]}:dy).s.use i a=x.s.use i a from rfl]at this;rw[this];simp only[List.append_nil];rfl
end
def hV(a b c d e f:Value)(st:e'):Array Value:=#[a,b,c,d,e,f]++cz st
section
variable{a b c d e f y:Value}{st:e'}
theorem ajg(ok:gV st):(hV a b c d e f st).size=89:=by simp[hV,iQ ok]
@[simp] theorem aIm:(hV a b c d e f st)[0]? =some a:=by simp[hV,Array.getElem?_append]
@[simp] theorem axi:(hV a b c d e f st)[1]? =some b:=by simp[hV,Array.getElem?_append]
@[simp] theorem axj:(hV a b c d e f st)[2]? =some c:=by simp[hV,Array.getElem?_append]
@[simp] theorem aIn:(hV a b c d e f st)[3]? =some d:=by simp[hV,Array.getElem?_append]
@[simp] theorem aIo:(hV a b c d e f st)[4]? =some e:=by simp[hV,Array.getElem?_append]
@[simp] theorem axk:(hV a b c d e f st)[5]? =some f:=by simp[hV,Array.getElem?_append]
@[simp] theorem aIp:(hV a b c d e f st).setIfInBounds 1 y=hV a y c d e f st:=by apply Array.ext';simp[hV]
@[simp] theorem aIq:(hV a b c d e f st).setIfInBounds 2 y=hV a b y d e f st:=by apply Array.ext';simp[hV]
@[simp] theorem aIr:(hV a b c d e f st).setIfInBounds 3 y=hV a b c y e f st:=by apply Array.ext';simp[hV]
@[simp] theorem aIs:(hV a b c d e f st).setIfInBounds 4 y=hV a b c d y f st:=by apply Array.ext';simp[hV]
@[simp] theorem aIt:(hV a b c d e f st).setIfInBounds 5 y=hV a b c d e y st:=by apply Array.ext';simp[hV]
end
theorem axl:(Tryz.prog.info? 48).map (λi=>i.zero.isSome)=some true:=by kernel_rfl
theorem axm:ln Tryz.prog 48=hV (.pointer none) (.pointer none) (.pointer none) (.pointer none) (.pointer none) (.pointer none) dO:=by kernel_rfl
theorem axn{a:Option Addr}{w:World}{K:Value->World->Prop}:hX Tryz.prog 48 [(0,.pointer a)] w K=K (.agg (hV (.pointer a) (.pointer none) (.pointer none) (.pointer none) (.pointer none) (.pointer none) dO)) w:=by
 refine lp Tryz.underlying48 axl (places:=#[(0,1),(1,2),(3,1),(4,1),(5,1),(6,83)]) (by simp[go_sem]) ?_;have hz:=ajg (a:=.pointer none) (b:=.pointer none) (c:=.pointer none) (d:=.pointer none) (e:=.pointer none) (f:=.pointer none) (st:=dO) kR;simp[iH,axm,Value.cells,hz];unfold d' hV;apply Array.ext';simp
structure ty(w:World)(x p m bF:Nat)(z:fe)(st:e'):Prop where
 blk:w.1[x]? =some (.cells (hV (.pointer (some ⟨p,0,none⟩)) (.pointer (some ⟨z.d 0,0,none⟩)) (.pointer (some ⟨z.d 1,0,none⟩)) (.pointer (some ⟨z.b_,0,none⟩)) (.pointer (some ⟨m,0,none⟩)) (.pointer (some ⟨bF,0,none⟩)) st) 48 (0,0))
 ok:gV st
theorem aaD(n:Nat)(w:World)(H:1<=n)(I:n<=4096):aP Tryz.prog 11 #[.int .i64 n] w λW w'=>∃x p m bF z,W=.pointer (some ⟨x,0,none⟩)/\ty w' x p m bF z dO/\lc m p n bF z ⟨ao.fh,oT⟩ w' (λk=>(w.1.size<=k/\k<w'.1.size)/\k≠x)/\w.1.size<=x/\D ak w w':=by
 refine bn Tryz.func11 Tryz.ntmps11 λaZ Z=> ?_;simp[go_sem];refine(at9 w).mono ?_;rintro _ ab ⟨rfl,fW,aI⟩;obtain⟨p,K_⟩:=az (w.1.size);rw[K_]at fW⊢;have Sr:=ajg (a:=.pointer (some ⟨p,0,none⟩)) (b:=.pointer none) (c:=.pointer none) (d:=.pointer none) (e:=.pointer none) (f:=.pointer none) (st:=dO) kR;simp[go_sem,axn];have aA:=(D.refl ak ab).alloc (.cells (hV (.pointer (some ⟨p,0,none⟩)) (.pointer none) (.pointer none) (.pointer none) (.pointer none) (.pointer none) dO) 48);have cC:=cl ab (.cells (hV (.pointer (some ⟨p,0,none⟩)) (.pointer none) (.pointer none) (.pointer none) (.pointer none) (.pointer none) dO) 48);obtain⟨x,M⟩:=az (ab.1.size);rw[M]at cC⊢;have wp:p<x:=by rw[<-M];exact lt_of_block fW
 have nP:=fW.ch aA id;have yk:=aI.trans aA;revert cC nP yk;clear aA;generalize ab.alloc (.cells (hV (.pointer (some ⟨p,0,none⟩)) (.pointer none) (.pointer none) (.pointer none) (.pointer none) (.pointer none) dO) 48)=ai;intro cC nP aA;have fX:=λj=>aG cC j;have nO:=lt_of_block cC;refine cD [A 0,A 1,A 2,A 3,A 4,A 5,A 10,A 11,(6,some [0,10,11]),A 7,A 8,A 9,A 12,(13,some [9])] ?_;simp[go_sem,fX];refine(ahG n p ai.drew ek.on H I nP).mono ?_;rintro _ aC ⟨gq,rfl,axo,aE⟩;have aE:=D.iy aE;have cm:=aE.obj cC id;have jV:=λj=>aG cm j;have bV:=λj=>dD cm j;simp[go_sem,jV,bV];have ec:D (aj x) aC (aC.setCell ⟨x,1,none⟩ (.pointer (some ⟨gq,0,none⟩))):=(D.refl (aj x) aC).setCell (p:=⟨x,1,none⟩) (.inl rfl) _;have ci:(aC.setCell ⟨x,1,none⟩ (.pointer (some ⟨gq,0,none⟩))).1[x]? =some (.cells (hV (.pointer (some ⟨p,0,none⟩)) (.pointer (some ⟨gq,0,none⟩)) (.pointer none) (.pointer none) (.pointer none) (.pointer none) dO) 48 (0,0)):=by rw[eY,cm,gp];simp
 have dt:ai.1.size<=aC.1.size:=aE.size;have aW:=aA.size;have ajh:=(nP.ch aE id).ch ec λe=>by simp only[aj]at e;omega
 have aaE:=axo.ch ec (λk r e=>by simp only[aj]at e;have:ai.1.size<=k:=r.1;omega) λe=>by simp only[aj]at e;omega
 have cW:=ec.size;have bv:D ak w (aC.setCell ⟨x,1,none⟩ (.pointer (some ⟨gq,0,none⟩))):=(aA.trans aE).bJ ec λj F e=>by simp only[aj]at e;omega
 have aaF:∀k,ai.drew.1.size<=k/\k<aC.1.size->x<k:=λk r=>by have:ai.1.size<=k:=r.1;omega
 revert ci ajh aaE bv cW;clear ec;generalize aC.setCell ⟨x,1,none⟩ (.pointer (some ⟨gq,0,none⟩))=be;intro ci aji aaE cW bv;have eQ:=λj=>aG ci j;refine cD [A 0,A 1,A 2,A 3,A 4,A 5,A 10,A 11,(6,some [0,10,11]),A 7,A 8,A 9,A 12,(13,some [9])] ?_;simp[go_sem,eQ];refine(ahG n p be.drew ek.on H I aji).mono ?_;rintro _ bw ⟨cK,rfl,axp,bx⟩;have bx:=D.iy bx;have dj:=bx.obj ci id;have gS:=λj=>aG dj j;have cN:=λj=>dD dj j;simp[go_sem,gS,cN];have axq:=aaE.ch bx (λ_ _ e=>e) id;have fD:be.1.size<=bw.1.size:=bx.size;have Hu:∀k,be.drew.1.size<=k/\k<bw.1.size->aC.1.size<=k:=λk r=>by have:be.1.size<=k:=r.1;omega
 have iI:D (aj x) bw (bw.setCell ⟨x,2,none⟩ (.pointer (some ⟨cK,0,none⟩))):=(D.refl (aj x) bw).setCell (p:=⟨x,2,none⟩) (.inl rfl) _;have gx:(bw.setCell ⟨x,2,none⟩ (.pointer (some ⟨cK,0,none⟩))).1[x]? =some (.cells (hV (.pointer (some ⟨p,0,none⟩)) (.pointer (some ⟨gq,0,none⟩)) (.pointer (some ⟨cK,0,none⟩)) (.pointer none) (.pointer none) (.pointer none) dO) 48 (0,0)):=by rw[eY,dj,gp];simp
 have ajj:=(aji.ch bx id).ch iI λe=>by simp only[aj]at e;omega
 have aaG:=axq.ch iI (λk r e=>by simp only[aj]at e;have:=aaF k r;omega) λe=>by simp only[aj]at e;omega
 have aaH:=axp.ch iI (λk r e=>by simp only[aj]at e;have:=Hu k r;omega) λe=>by simp only[aj]at e;omega
 have co:D ak w (bw.setCell ⟨x,2,none⟩ (.pointer (some ⟨cK,0,none⟩))):=(bv.trans bx).bJ iI λj F e=>by simp only[aj]at e;omega
 have hw:=iI.size;revert gx ajj aaG aaH co hw;clear iI;generalize bw.setCell ⟨x,2,none⟩ (.pointer (some ⟨cK,0,none⟩))=cd;intro gx ajj aaG aaH co hw;refine(axr n cd H I).mono ?_;rintro _ cF ⟨b_,g,rfl,axs,dz⟩;have ib:=dz.obj gx id;have lk:=λj=>aG ib j;have cg:=λj=>dD ib j;simp[go_sem,lk,cg];have axt:=aaG.ch dz (λ_ _ e=>e) id;have axu:=aaH.ch dz (λ_ _ e=>e) id;have hi:=dz.size;have np:D (aj x) cF (cF.setCell ⟨x,3,none⟩ (.pointer (some ⟨b_,0,none⟩))):=(D.refl (aj x) cF).setCell (p:=⟨x,3,none⟩) (.inl rfl) _;have oj:(cF.setCell ⟨x,3,none⟩ (.pointer (some ⟨b_,0,none⟩))).1[x]? =some (.cells (hV (.pointer (some ⟨p,0,none⟩)) (.pointer (some ⟨gq,0,none⟩)) (.pointer (some ⟨cK,0,none⟩)) (.pointer (some ⟨b_,0,none⟩)) (.pointer none) (.pointer none) dO) 48 (0,0)):=by rw[eY,ib,gp];simp
 have aaI:=axt.ch np (λk r e=>by simp only[aj]at e;have:=aaF k r;omega) λe=>by simp only[aj]at e;omega
 have aaJ:=axu.ch np (λk r e=>by simp only[aj]at e;have:=Hu k r;omega) λe=>by simp only[aj]at e;omega
 obtain⟨bt,cw,gL,hv⟩:=axs;have t1:=np.obj bt λe=>by simp only[aj]at e;omega
 have dK:∀i,i<2->(cF.setCell ⟨x,3,none⟩ (.pointer (some ⟨b_,0,none⟩))).1[g i]? =some (.cells (ld ao.fh n i) 156 (0,0)):=λi aa=>np.obj (cw i aa) λe=>by
  simp only[aj]at e
  grind
 have ev:D ak w (cF.setCell ⟨x,3,none⟩ (.pointer (some ⟨b_,0,none⟩))):=(co.trans dz).bJ np λj F e=>by simp only[aj]at e;omega
 have lu:=np.size;revert oj aaI aaJ t1 dK ev lu;clear np;generalize cF.setCell ⟨x,3,none⟩ (.pointer (some ⟨b_,0,none⟩))=eA;intro oj aaI aaJ t1 dK ev lu;have rS:=λj=>aG oj j;refine cD [A 0,A 1,A 2,A 3,A 4,A 5,A 6,A 7,A 8,A 9,A 10,A 11,A 12,A 13,A 14,(15,some [0]),A 16,A 17,A 18,A 19,A 20,(21,some [18])] ?_;simp[go_sem,rS];have Xb:aP Tryz.prog 56 #[.pointer (some ⟨gq,0,none⟩),.pointer (some ⟨cK,0,none⟩),.pointer (some ⟨b_,0,none⟩)] eA.drew λW w'=>W=.tuple #[.pointer (some ⟨eA.1.size,0,none⟩),.int .i64 0]/\w'=eA.drew.alloc (.cells #[.pointer (some ⟨gq,0,none⟩),.pointer (some ⟨cK,0,none⟩),.pointer (some ⟨b_,0,none⟩),.int .i64 0,.int .i64 0,.int .i64 0,.int .i64 0,.slice none 0 0] 245):=by
  refine bn Tryz.func56 Tryz.ntmps56 λZD xY=> ?_;simp[go_sem];exact xY _ _ ⟨rfl,rfl⟩
 refine Xb.mono ?_;rintro _ dC ⟨rfl,H_⟩;obtain⟨m,aH⟩:=az (eA.1.size);have yl:=(D.refl ak eA.drew).alloc (.cells #[.pointer (some ⟨gq,0,none⟩),.pointer (some ⟨cK,0,none⟩),.pointer (some ⟨b_,0,none⟩),.int .i64 0,.int .i64 0,.int .i64 0,.int .i64 0,.slice none 0 0] 245);have aaK:=cl eA.drew (.cells #[.pointer (some ⟨gq,0,none⟩),.pointer (some ⟨cK,0,none⟩),.pointer (some ⟨b_,0,none⟩),.int .i64 0,.int .i64 0,.int .i64 0,.int .i64 0,.slice none 0 0] 245);have qE:dC.1.size=m+1:=by rw[H_];simp[aH]
 rw[<-H_]at yl aaK;rw[show eA.drew.1.size=m from aH]at aaK;rw[aH];clear H_ Xb;have yl:=D.iy yl;have rG:=yl.obj oj id;have Mt:=λj=>aG rG j;have ef:=λj=>dD rG j;simp[go_sem,Mt,ef];have FK:D (aj x) dC (dC.setCell ⟨x,4,none⟩ (.pointer (some ⟨m,0,none⟩))):=(D.refl (aj x) dC).setCell (p:=⟨x,4,none⟩) (.inl rfl) _;have Pk:(dC.setCell ⟨x,4,none⟩ (.pointer (some ⟨m,0,none⟩))).1[x]? =some (.cells (hV (.pointer (some ⟨p,0,none⟩)) (.pointer (some ⟨gq,0,none⟩)) (.pointer (some ⟨cK,0,none⟩)) (.pointer (some ⟨b_,0,none⟩)) (.pointer (some ⟨m,0,none⟩)) (.pointer none) dO) 48 (0,0)):=by rw[eY,rG,gp];simp
 have aaL:=FK.size;have aaM:=yl.size;have mP:D ak w (dC.setCell ⟨x,4,none⟩ (.pointer (some ⟨m,0,none⟩))):=(ev.trans yl).bJ FK λj F e=>by simp only[aj]at e;omega
 have md:∀j,j≠x->¬aj x j:=λj h e=>h e;obtain⟨kv,CG⟩:=az (g 0);obtain⟨cB,xn⟩:=az (g 1);have aIu:=lt_of_block t1;have aIv:=lt_of_block (dK 0 (by omega));have aIw:=lt_of_block (dK 1 (by omega));obtain⟨z,hz⟩:∃z:fe,z=⟨λi=>if i=0 then gq else cK,b_,g⟩:=⟨_,rfl⟩;obtain⟨ag,hm⟩:∃ag:Nat->Nat->Prop,ag=λi k=>if i=0 then ai.drew.1.size<=k/\k<aC.1.size else be.drew.1.size<=k/\k<bw.1.size:=⟨_,rfl⟩
 have xO:ag 0=λk=>ai.drew.1.size<=k/\k<aC.1.size:=by rw[hm];rfl
 have Ka:ag 1=λk=>be.drew.1.size<=k/\k<bw.1.size:=by rw[hm];rfl
 have axv:∀k,ag 0 k->ai.1.size<=k/\k<aC.1.size:=λk r=>by rw[xO]at r;exact r
 have axw:∀k,ag 1 k->be.1.size<=k/\k<bw.1.size:=λk r=>by rw[Ka]at r;exact r
 have pU:∀k,zH z m (.slice none 0 0) k->cd.1.size<=k/\k<dC.1.size:=λk r=>by
  rw[hz]at r;rcases r with r|r|r|r|r
  ·omega
  ·simp only at r;omega
  ·simp only at r;omega
  ·simp only at r;omega
  ·simp[Value.ownBlock]at r
 have dZ:eg (dC.setCell ⟨x,4,none⟩ (.pointer (some ⟨m,0,none⟩))) m p n z ao.fh (.slice none 0 0) ag:=by
  refine⟨?_,λi aa=> ?_,?_,λi aa=> ?_,World.ownsRow_nil _ _ _ _,λq aq=>by simp[ao.fh]at aq,λk H I=> ?_,?_,λk r=>⟨λe=> ?_,λe=> ?_,?_⟩,λk r=>by simp[Value.ownBlock]at r⟩
  ·rw[hz];exact FK.obj aaK (md _ (by omega))
  ·rcases jo aa with rfl|rfl
   ·rw[xO,hz];exact(aaI.ch yl (λ_ _ e=>e) id).ch FK (λk r=>md k (by have:=aaF k r;omega)) (md _ (by omega))
   ·rw[Ka,hz];exact(aaJ.ch yl (λ_ _ e=>e) id).ch FK (λk r=>md k (by have:=Hu k r;omega)) (md _ (by omega))
  ·rw[hz];exact FK.obj (yl.obj t1 id) (md _ (by show b_≠x;omega))
  ·rw[hz];refine FK.obj (yl.obj (dK i aa) id) (md _ ?_)
   grind
  ·grind
  ·rw[hz];exact⟨by simp only;omega,by simp only;omega,by simp only;omega,gL.1,gL.2.1,gL.2.2⟩
  ·grind
  ·grind
  ·have:=pU k r;omega
 have eV:∀k,fR z m p (.slice none 0 0) ag k->(w.1.size<=k/\k<(dC.setCell ⟨x,4,none⟩ (.pointer (some ⟨m,0,none⟩))).1.size)/\k≠x:=λk r=>by
  rcases r with r|r|r|r
  ·have:=pU k r;omega
  ·have:=axv k r;omega
  ·have:=axw k r;omega
  ·omega
 obtain⟨tr,axx⟩:=az (dC.setCell ⟨x,4,none⟩ (.pointer (some ⟨m,0,none⟩)));rw[axx]at FK Pk aaL mP dZ eV⊢;refine(axy p tr).mono ?_;rintro _ pP ⟨rfl,Tf,gl,axz⟩;obtain⟨bF,JO⟩:=az (tr.1.size);rw[JO]at Tf axz⊢;have aaN:=gl.obj Pk id;have axA:=λj=>aG aaN j;have axB:=λj=>dD aaN j;have wK:D (aj x) pP (pP.setCell ⟨x,5,none⟩ (.pointer (some ⟨bF,0,none⟩))):=(D.refl (aj x) pP).setCell (p:=⟨x,5,none⟩) (.inl rfl) _;have axC:(pP.setCell ⟨x,5,none⟩ (.pointer (some ⟨bF,0,none⟩))).1[x]? =some (.cells (hV (.pointer (some ⟨p,0,none⟩)) (.pointer (some ⟨gq,0,none⟩)) (.pointer (some ⟨cK,0,none⟩)) (.pointer (some ⟨b_,0,none⟩)) (.pointer (some ⟨m,0,none⟩)) (.pointer (some ⟨bF,0,none⟩)) dO) 48 (0,0)):=by rw[eY,aaN,gp];simp
 have aIx:=wK.size;simp[go_sem,axA,axB];have Do:=(dZ.ch gl λ_ _ e=>e).ch wK λj F=>md j (eV j F).2;have OT:qN (pP.setCell ⟨x,5,none⟩ (.pointer (some ⟨bF,0,none⟩))) bF p (ii oT.1 oT.2.1 oT.2.2):=by
  rw[show ii oT.1 oT.2.1 oT.2.2=cV 64 from rfl];exact wK.obj Tf (md bF (by omega))
 refine Z _ _ ⟨x,p,m,bF,z,rfl,⟨by rw[axC,hz];rfl,?_⟩,⟨.slice none 0 0,ag,Do,OT,λe=> ?_,λk r=>⟨⟨by have:=eV k r;omega,by have:=eV k r;omega⟩,(eV k r).2⟩,⟨⟨by omega,by omega⟩,by omega⟩,λk r=>r.1.2⟩,by omega,(mP.trans gl).bJ wK λj F e=>by simp only[aj]at e;omega⟩
 ·exact kR
 ·have:=eV _ e;omega
open Go.Maps
def HW(w w':World)(k:Nat):Prop:=w.1.size<=k/\k<w'.1.size
structure eI(N w:World)(K:Nat->Prop)(m p n bF:Nat)(z:fe)(X:hK):Prop where
 FF:∃O,lc m p n bF z X w O/\(∀k,O k->N.1.size<=k)/\∀k,K k->¬O k
 lt:∀k,K k->k<w.1.size
 ck:hj N
 fd:ja N
 fo:qs N
 dJ:∀k,jl k->K k
 ch:D ak N w
section
variable{N w w':World}{K S:Nat->Prop}{m p n bF:Nat}{z:fe}{X ow:hK}{cp:dy->Nat}{f:FuncId}{args:Array Value}{R:Value->World->Prop}
theorem eI.call(h:eI N w K m p n bF z X)(bU:∀O,lc m p n bF z X w O->(∀j,jl j->¬O j)->(∀k,K k->¬O k)->hj w->ja w->qs w->aP Tryz.prog f args w λv w'=>R v w'/\lc m p n bF z ow w' (ax O w w')/\D O w w'):
  aP Tryz.prog f args w λv w'=>R v w'/\eI N w' K m p n bF z ow/\D (λk=>¬K k) w w':=by
 obtain⟨O,a,b,c⟩:=h.FF;refine(bU O a (λj F=>c j (h.dJ j F)) c (h.ck.ch h.ch λ_ _ e=>e) (h.fd.ch h.ch id) (h.fo.ch h.ch id)).mono ?_;rintro v w' ⟨x,y,k⟩;have aw:=h.ch.size;have r:=k.size;exact⟨x,⟨⟨_,y,λk r=>r.elim (b k) λe=>by omega,λk r e=>e.elim (c k r) λe=>by have:=h.lt k r;omega⟩,λk r=>by have:=h.lt k r;omega,h.ck,h.fd,h.fo,h.dJ,h.ch.bJ k λj F e=>by have:=b j e;omega⟩,k.mono λj _ e F=>c j F e⟩
theorem eI.own(h:eI N w K m p n bF z X)(T:D S w w')(cf:∀k,S k->K k/\N.1.size<=k):eI N w' (λk=>K k\/HW w w' k) m p n bF z X:=by
 obtain⟨O,a,b,c⟩:=h.FF;have aw:=T.size;have al:=(lc.ok m p n bF z X).lt a;exact⟨⟨O,(lc.ok m p n bF z X).ch a T λj F e=>c j (cf j e).1 F,b,λk r e=>r.elim (λr=>c k r e) λr=>by have:=al k e;unfold HW at r;omega⟩,λk r=>r.elim (λr=>by have:=h.lt k r;omega) λr=>r.2,h.ck,h.fd,h.fo,λk r=>.inl (h.dJ k r),h.ch.bJ T λj F e=>by have:=(cf j e).2;omega⟩
theorem eI.li(h:eI N w K m p n bF z X)(T:D ak w w'):eI N w' (λk=>K k\/HW w w' k) m p n bF z X:=h.own T λ_ e=>e.elim
theorem eI.nI{K':Nat->Prop}(h:eI N w K m p n bF z X)(eS:∀k,K' k->K k)(aF:∀k,jl k->K' k):eI N w K' m p n bF z X:=by
 obtain⟨O,a,b,c⟩:=h.FF;exact⟨⟨O,a,b,λk r=>c k (eS k r)⟩,λk r=>h.lt k (eS k r),h.ck,h.fd,h.fo,aF,h.ch⟩
theorem eI.aiV(h:eI N w K m p n bF z X):hj w:=h.ck.ch h.ch λ_ _ e=>e
theorem eI.bk(ds:jM cp)(h:eI N w K m p n bF z X)(aH:96<=vu cp X){v:Nat}{st:e'}(aS:Pl w v (BQ m) st)(ok:gV st)(num:Nat)(Dh:num<65536){x:br}(ap:zY (kU n) X st num=(X,x,0)):
  aP Tryz.prog 52 #[.pointer (some ⟨v,0,none⟩),.int .u16 num] w λW w'=>(W=.tuple #[.agg (bk x),.int .i64 0]/\gR x)/\eI N w' K m p n bF z X/\D (λk=>¬K k) w w':=
 h.call λO eV aF _ e fd fo=>by
  have:=axD ds e fd fo eV aF (by omega) aS ok num Dh;rw[ap]at this;exact this
end
section
variable{L:fM}{a k:em}{l:List ajk}{xs:List em}
theorem Ul{ct:Type}[BEq ct][LawfulBEq ct]:∀(xs ae:List ct),xs.Nodup->(∀a∈xs,a∈ae)->xs.length<=ae.length
 |[],_,_,_=>Nat.zero_le _
 |a::xs,ae,bi,h=>by
  rw[List.nodup_cons]at bi;have aH:=h a (by simp);have H:=Ul xs (ae.erase a) bi.2 λb V=>(List.mem_erase_of_ne λe=>bi.1 (by rw[<-e];exact V)).2 (h b (by simp[V]))
  grind
end
section
variable{N w w':World}{K S:Nat->Prop}{m p n bF:Nat}{z:fe}{X ow:hK}{cp:dy->Nat}{o s_:Nat}{base hI:Value}{L:fM}{ajl bo:Nat->Prop}{Ba:xF}
theorem eI.ZX(ds:jM cp)(h:eI N w K m p n bF z X){aI:hT}(Dx:aI.n=n)(av:n<=65536)(aH:640000<=f_ cp ⟨X.s,[],[]⟩){st:e'}(ok:gV st)(me:uq X.cy)(gy:aI.aT=st.gen+1)(ia:st.gen+1<18446744073709551616)
  (aB:po w o base hI s_ L ajl bo Ba)(ajm:∀j,ajl j\/bo j->K j/\¬jl j)(dS:L.nB)(Bb:s_<=30000)(Hz:∀a o b,L.lf (a,o)=some b->b=[]\/b.length=512){xs:List em}(eU:Hv L xs)(lr:xs.length<=90)
  {fT:e'}{e:Int}(ap:rz aI X st L xs=(ow,fT,e)):
  aP Tryz.prog 21 #[.pointer (some ⟨m,0,none⟩),.pointer (some ⟨z.b_,0,none⟩),.pointer (some ⟨bF,0,none⟩),.agg (cz st),.pointer (some ⟨o,0,none⟩)] w λW w'=>(W=.tuple #[.agg (cz fT),.int .i64 e]/\gV fT)/\eI N w' K m p n bF z ow/\D (λk=>¬K k) w w':=by
 subst Dx;exact h.call λO eV aF eS ck fd fo=>by
  have:=ath ds ck fd fo av eV aF st ok me gy ia aB (λj F=>⟨eS j (ajm j F).1,(ajm j F).2⟩) dS Bb Hz xs eU lr aH;rw[ap]at this;exact this.mono λW w' ⟨a,b,c,d⟩=>⟨⟨a,b⟩,c,d⟩
theorem eI.count(h:eI N w K m p n bF z X){i:Nat}(aa:i<2)(av:n<=65536)(an:∀a,1<=a->a<n->X.s.use i a<3):aP Tryz.prog 19 #[.pointer (some ⟨z.b_,0,none⟩),.int .i64 i] w λW w'=>W=YS X.s i n/\D ak w w':=by
 obtain⟨O,⟨aL,ag,H,_⟩,_⟩:=h.FF;exact asH H aa av an
theorem eI.load(h:eI N w K m p n bF z X)(ok:uq X.cy):aP Tryz.prog 20 #[.pointer (some ⟨bF,0,none⟩)] w λW w'=>W=.agg (ol X.cy)/\D ak w w':=by
 obtain⟨O,⟨aL,ag,H,I,_⟩,_⟩:=h.FF;exact ajn bF p X.cy.1 X.cy.2.1 X.cy.2.2 w ok I
theorem eI.Pe(ds:jM cp)(h:eI N w K m p n bF z X)(aH:96<=vu cp X)(ok:uq X.cy){st:e'}(ap:uw (kU n) X X.cy=(X,st,0)):
  aP Tryz.prog 26 #[BQ m,.agg (ol X.cy)] w λW w'=>(W=.tuple #[.agg (cz st),.int .i64 0]/\gV st)/\eI N w' K m p n bF z X/\D (λk=>¬K k) w w':=
 h.call λO eV aF eS e fd fo=>by
  have:=axE ds e fd fo eV aF (by omega) X.cy ok;rw[ap]at this;exact this
end
end Go.Proofs.YtoohkhcpboldjaaGreatDoor
namespace Go.Proofs.YtoohkhcpboldjaaGreatDoor
open Go.RowKit Go.Kin
section
variable{ay:Type}{rd:Src ay}{s:ay}{has:Pt->List UInt8->Prop}{bu p:Pt}{top h:List Pt}{v:List br}
theorem ajo(g:Nat):qS g dY=[]:=by
 unfold qS;rw[List.filterMap_eq_nil_iff];intro k _;rw[DE,if_pos rfl]
theorem hy.ajp(ap:∀p b,has p b->rd s p=(s,b,0))(t:hy has bu top h):∀(l:List Nat),(∀g∈l,g<8)->∀(df:List (Nat×Pt)) (ce:List Pt),
  Go.Proofs.YtoohkhcpboldjaaGreatDoor.kw rd top l s df ce=(s,df++l.flatMap (λg=>qS g (it g h)),ce++(l.map λg=>top.getD g ad).filter (λp=>decide (p≠ad)),0)
 |[],_,df,ce=>by unfold Go.Proofs.YtoohkhcpboldjaaGreatDoor.kw;simp
 |g::l,al,df,ce=>by
  have zZ:=t.cq g (al g (by simp));have bG:=hy.ajp ap t l λx M=>al x (by simp[M]);unfold Go.Proofs.YtoohkhcpboldjaaGreatDoor.kw;by_cases ah:top.getD g ad=ad
  ·rw[if_pos ah,bG];have cR:=ajo g;rw[<-zZ.iff.1 ah]at cR
   grind
  ·rw[if_neg ah,zZ.u_ ap];simp only[ne_eq,not_true_eq_false,if_false];rw[bG]
   grind
theorem hy.aaO(ap:∀p b,has p b->rd s p=(s,b,0))(t:hy has bu top h):gU rd s bu=(s,nQ h 64,pD bu top,0):=by
 have key:jP rd s bu=(s,nQ h 64,pD bu top,0):=by
  unfold jP pD;rw[aaP];by_cases hz:bu=ad
  ·have bd:=t.ho.iff.1 hz;rw[if_pos hz,if_pos hz];have cR:(List.range 8).flatMap (λg=>qS g (it g h))=[]:=by
    rw[List.flatMap_eq_nil_iff];intro g aF;have zZ:=t.cq g (List.mem_range.1 aF);rw[bd,DE]at zZ;rw[zZ.iff.1 rfl,ajo]
   rw[cR]
  ·rw[if_neg hz,if_neg hz,t.ho.u_ ap];simp only[ne_eq,not_true_eq_false,if_false];rw[t.ajp ap _ λg aF=>List.mem_range.1 aF,<-TC t.ho.ez.len];rfl
 unfold gU;rw[t.BJ,key];simp
theorem ajq(ap:∀p b,has p b->rd s p=(s,b,0)):∀(l:List (Nat×Pt)) (kP:List (Nat×br)) (ps:List Pt),(∀x∈l,sH has x.2 (iv x.1 v))->
  BU rd l s kP ps=(s,kP++l.flatMap (λx=>ox x.1 (iv x.1 v) 4),ps++l.map (·.2),0)
 |[],kP,ps,_=>by simp[BU]
 |x::l,kP,ps,al=>by
  rw[BU,(al x (by simp)).u_ ap];simp only[ne_eq,not_true_eq_false,if_false];rw[ajq ap l _ _ λy ar=>al y (by simp[ar])];simp
theorem lj.ajr(t:lj has bu top h v):∀k,k<=64->(nQ h k).flatMap (λx=>ox x.1 (iv x.1 v) 4)=wL v (4*k)
 |0,_=>by simp[nQ,wL]
 |k+1,r=>by
  rw[ajs,axF v (by omega),List.flatMap_append,lj.ajr t k (by omega)];have l:=t.lf k (by omega);by_cases hz:h.getD k ad=ad
  ·rw[if_pos hz,l.iff.1 hz,axG];rfl
  ·rw[if_neg hz];simp
theorem lj.aaO(ap:∀p b,has p b->rd s p=(s,b,0))(t:lj has bu top h v):vv rd s bu=(s,wL v 256,pD bu top++(nQ h 64).map (·.2),0):=by
 unfold vv;rw[t.lK.aaO ap];simp only[ne_eq,not_true_eq_false,if_false];rw[ajq (v:=v) ap,List.nil_append,t.ajr 64 (Nat.le_refl _)];intro x M;obtain⟨o,aB,e⟩:=List.mem_filterMap.1 M;rw[List.mem_range]at aB;have:=t.lf o aB
 grind
end
def ao.iJ(n:Nat)(l:List Pt)(s:ao):ao:=l.foldl (λs p=>(k' p).foldl (ao.jp n 0 1) s) s
section
variable{n:Nat}{s:ao}{p:Pt}{l l':List Pt}
theorem awX(s:ao)(l l':List Pt):s.iJ n (l++l')=(s.iJ n l).iJ n l':=by simp[ao.iJ]
theorem aaQ:∀(l:List Pt) (s:ao),(∀p∈l,wz p)->hx s (s.iJ n l)/\∀i,i<2->∀a,1<=a->a<n->(s.iJ n l).use i a=if a∈bp l/\s.use i a=0 then 1 else s.use i a
 |[],s,_=>⟨hx.refl s,λi _ a _ _=>by simp[ao.iJ,bp]⟩
 |p::l,s,al=>by
  obtain⟨H,I⟩:=EP (n:=n) (f:=0) (t:=1) (by decide) (k' p) s;obtain⟨af,aU⟩:=aaQ l ((k' p).foldl (ao.jp n 0 1) s) λq aq=>al q (by simp[aq]);refine⟨H.trans af,λi aa a a1 a2=> ?_⟩;show(((k' p).foldl (ao.jp n 0 1) s).iJ n l).use i a=_;rw[aU i aa a a1 a2,I];have ahV:=Ft (al p (by simp)) i a;have BA:a∈bp (p::l)↔a∈pa p\/a∈bp l:=by
   unfold bp
   grind
  grind
structure tv(n:Nat)(s:ao)(l:List Pt):Prop where
 Um:∀p∈l,wz p
 bZ:(bp l).Nodup
 su:∀a∈bp l,1<=a/\a<n
 aaR:∀i,i<2->∀a∈bp l,s.use i a=0
theorem tv.left(h:tv n s (l++l')):tv n s l:=by
 have e:=wB l l';have av:=h.bZ;rw[e]at av;exact⟨λp ah=>h.Um p (by simp[ah]),(List.nodup_append.1 av).1,λa am=>h.su a (by rw[e];simp[am]),λi aa a am=>h.aaR i aa a (by rw[e];simp[am])⟩
theorem tv.right(h:tv n s (l++l')):tv n (s.iJ n l) l':=by
 have e:=wB l l';have av:=h.bZ;rw[e]at av;refine⟨λp ah=>h.Um p (by simp[ah]),(List.nodup_append.1 av).2.1,λa am=>h.su a (by rw[e];simp[am]),λi aa a am=> ?_⟩;have ap:=h.su a (by rw[e];simp[am]);rw[(aaQ l s λp ah=>h.Um p (by simp[ah])).2 i aa a ap.1 ap.2,h.aaR i aa a (by rw[e];simp[am])];have:a∉bp l:=λwy=>(List.nodup_append.1 av).2.2 a wy a am rfl;simp[this]
theorem tv.one(h:tv n s [p]):(k' p).Nodup/\∀x∈k' p,x.1<2/\1<=x.2/\x.2<n/\s.use x.1 x.2=0:=by
 have aw:=h.Um p (by simp);have e:bp [p]=pa p:=by simp[bp]
 have av:=h.bZ;have ap:=h.su;have bU:=h.aaR;rw[e]at av ap bU;refine⟨?_,λx M=> ?_⟩
 ·obtain⟨x,y,e,M,vd⟩:=aw;rw[ahP e M];split
  ·simp
  ·simp[vd]
 ·have:=(Ft aw x.1 x.2).1 M;exact⟨this.1,(ap _ this.2).1,(ap _ this.2).2,bU _ this.1 _ this.2⟩
end
theorem iV.axH{n:Nat}{bS:Nat->Bool}{x y:hK}{st:e'}{v:List br}{lf:Nat->Nat->Option (List UInt8)}{c:hT}{dp aD:List Pt}{O:lh}(h:iV n bS x st v lf c dp aD O)
  (bi:y.s.au=x.s.au)(dZ:y.s.P=x.s.P)(am:y.cy=x.cy)(aw:∀i,i<2->∀a,y.s.dV i a=false)(an:∀i,i<2->∀a,1<=a->a<n->y.s.use i a=if a∈bp c.dP then 1 else 0):iV n bS y st v lf c dp aD O:=by
 obtain⟨av,Bo,⟨⟨a_,bh,bV,cr,cN,f6,cg,bz,ef,eE,gD,dA,eW,f14⟩,aX,bq⟩,nX,oC,zR,sw,om,hL⟩:=h;have eR:∀p b,ku x.s p b↔ku y.s p b:=λp b=>by unfold ku p';rw[bi,dZ]
 have axI:qQ (λp b=>p∈c.dP/\ku y.s p b) st.cO dp aD v O lf:=nX.mono λq b e=>⟨e.1,(eR _ _).1 e.2⟩;refine⟨av,Bo,⟨⟨by rw[bi];exact a_,by rw[bi];exact bh,by rw[dZ];exact bV,aw,λi aa a a1 a2=> ?_,f6,cg,bz,ef,by rw[bi];exact eE,by rw[bi];exact gD,by rw[bi];exact dA,eW,f14⟩,λp ah=>(by cases ah),bq⟩,axI,oC,zR,?_,om,by rw[am];exact hL⟩
 ·rw[av]at a2;show y.s.use i a=_;rw[an i aa a a1 a2];simp[wB,bp]
 ·rcases sw with⟨t1,dK,t3⟩|⟨t1,dK,t3,t4,t5,xU⟩
  ·exact .inl ⟨t1,by rw[am];exact dK,t3⟩
  ·exact .inr ⟨t1,dK,t3,(eR _ _).1 t4,by rw[am];exact t5,by rw[am];exact xU⟩
end Go.Proofs.YtoohkhcpboldjaaGreatDoor
