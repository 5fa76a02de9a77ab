/- What inode's Take answers, as a contract on the call. Conditions: the variable ptr.wide holds what the text lays; sizes. -/
import Derived.Test.YtoohkhcpboldjaaGreatDoorBsl
set_option linter.unusedSimpArgs false
set_option linter.unusedVariables false
namespace Go.Proofs.YtoohkhcpboldjaaGreatDoor
open Go.RowKit Go.Kin Tryz
def mZ(ps:List Pt):List UInt8:=ps.flatMap kf
theorem YK:∀(ps:List Pt),(∀p∈ps,cc p)->(mZ ps).length=64*ps.length
 |[],_=>rfl
 |p::ps,h=>by
  have:=YK ps λq au=>h q (by simp[au]);have am:=DR (h p (by simp));simp only[mZ,Au,kR,qK]at*;rw[this,am];omega
theorem Yy{p:Pt}:gI p=true↔p=ah\/jY p=true:=by simp[gI]
def azH(ps:List Pt)(w:M)(v':N)(w':M):Prop:=
 (ps.all gI=true/\∃s,v'=.tuple #[s,aa 0]/\kD 5 w s 512 (br (mZ ps)) w')\/(ps.all gI=false/\v'=.tuple #[.slice none 0 0,aa 5]/\H al w w')
theorem azI(ps:List Pt)(w:M)(ok:iJ ps)(bM:mb w):bc prog 244 #[.agg (cn ps)] w (azH ps w):=by
 refine bz func244 ntmps244 λbk af=> ?_;have cU:=ll ok;have gV:=se ok;have Z:=(H.refl al w).alloc (.cells (cn ps) 339);simp[go_sem,cU,gV];revert Z;generalize w.alloc (.cells (cn ps) 339)=ai;intro Z;refine di (λV f bI=>∃k,k<=8/\V=8 - k/\f 7=.agg (cn ps)/\f 8=aa k/\(ps.take k).all gI=true/\kD 5 w (f 4) (64*k) (br (mZ (ps.take k))) bI) 8
  ⟨0,by omega,rfl,by simp,by simp,by simp,by simpa[mZ,br]using kD.nil _ Z⟩ ?_
 rintro cQ bJ _ f bI ⟨k,r,rfl,fi,er,ao,aC⟩;by_cases mT:k<8
 ·have eo:(k:Int)<8:=by omega
  obtain⟨p,am,hS⟩:=ok.dI mT;have rL:=adh ok mT am;have gF:=cd hS;have AH:=ef hS;have ho:=λw=>tc w hS cH;have ej:IntKind.i64.wrap ((k:Int)+1)=((k+1:Nat):Int):=by simp[cz];omega
  have iX:ps.take (k+1)=ps.take k++[p]:=by rw[nA,am];rfl
  have lO:=aC.step ((H.refl al bI).alloc (.cells (ae p) 44));have cZ:=cr bI (.cells (ae p) 44);have ux:(mZ (ps.take k)).length=64*k:=by
   rw[YK _ λq au=>ok.all q (DU au),ol,ok.len,Xm r]
  have bU:∀an,kD 5 w (f 4) (64*k) (br (mZ (ps.take k))) an->gI p=true->bc prog 185 #[f 4,.agg (ae p)] an λv3 aJ=>kD 5 w v3 (64*(k+1)) (br (mZ (ps.take (k+1)))) aJ:=λan T _=>by
   refine(XW (f 4) (64*k) (mZ (ps.take k)) p an hS (by omega) ux T.own).mono ?_;intro v3 aJ q;have:=T.grow q.1 q.2.1 q.2.2;rw[iX];simpa[mZ,BY]using this
  by_cases hz:p=ah
  ·subst hz;simp[go_sem,fi,er,eo,rL,gO,gP,cd cH,gF,AH,bS,l',ho];revert lO cZ;generalize bI.alloc (.cells (ae ah) 44)=an;intro lO cZ;refine(bU an lO (by simp[gI])).mono ?_;intro v3 aJ zx;simp[go_sem,fi,er,ej];refine ct.intro (8 -(k+1)) (by omega) (bJ _ _ _ ⟨k+1,by omega,rfl,by simp[fi],by simp,?_,by simpa using zx⟩);rw[iX,List.all_append,ao];simp[gI]
  ·simp[go_sem,fi,er,eo,rL,gO,gP,cd cH,gF,AH,bS,l',ho,hz];revert lO cZ;generalize bI.alloc (.cells (ae p) 44)=an;generalize bI.1.size=g;intro lO cZ;refine(DY p an hS (bM.ch lO.ch id)).mono ?_;rintro _ aJ ⟨rfl,aI⟩;have pc:=lO.step aI;have dm:=aI.am cZ id
   cases nQ:jY p
   ·simp[go_sem];refine af _ _ (.inr ⟨?_,rfl,pc.ch⟩);rw[List.all_eq_false];exact⟨p,ib am,by simp[gI,hz,nQ]⟩
   ·simp[go_sem,dm,gF,AH];refine(bU aJ pc (by simp[gI,nQ])).mono ?_;intro v3 bs zx;simp[go_sem,fi,er,ej];refine ct.intro (8 -(k+1)) (by omega) (bJ _ _ _ ⟨k+1,by omega,rfl,by simp[fi],by simp,?_,by simpa using zx⟩);rw[iX,List.all_append,ao];simp[gI,nQ]
 ·obtain rfl:k=8:=by omega
  rw[mP (by rw[ok.len];omega)]at ao aC;simp[go_sem,er];exact af _ _ (.inl ⟨ao,_,rfl,aC⟩)
def jA:Nat->List UInt8->Int->List Pt×List UInt8×Int
 |0,l,e=>([],l,e)
 |n+1,l,e=>((jA n l e).1++[(qc (jA n l e).2.1 (jA n l e).2.2).1],(qc (jA n l e).2.1 (jA n l e).2.2).2)
theorem Pw(l:List UInt8)(e:Int)(n:Nat):(dg l e n).2.1.length<=l.length:=by
 unfold dg
 grind
theorem aew(l:List UInt8)(e:Int):(qc l e).2.1.length<=l.length:=by
 have:=Pw l e 64;unfold qc
 grind
theorem Px(l:List UInt8)(e:Int):cc (qc l e).1:=by
 unfold qc;split
 ·exact cH
 ·split
  ·refine akL ?_;have:=Py l e 64;omega
  ·exact cH
theorem azJ(n:Nat)(l:List UInt8)(e:Int):(jA n l e).2.1.length<=l.length:=by
 induction n with
 |zero=>exact c_ _
 |succ n bL=>exact dK (aew _ _) bL
theorem Yz(n:Nat)(l:List UInt8)(e:Int):(jA n l e).1.length=n:=by
 induction n with
 |zero=>rfl
 |succ n bL=>simp[jA,bL]
theorem al'(n:Nat)(l:List UInt8)(e:Int):∀p∈(jA n l e).1,cc p:=by
 induction n with
 |zero=>simp[jA]
 |succ n bL=>
  intro p am;simp only[jA,hP,sc]at am;rcases am with am|rfl
  ·exact bL p am
  ·exact Px _ _
def vv(l:List UInt8):List Pt×Int:=if(tf (jA 8 l 0).2.1 (jA 8 l 0).2.2).2=0 then((jA 8 l 0).1,0)else(eE,5)
structure Pz(w0 w:M)(fQ hw cN o:Nat)(l:List UInt8)(k:Nat):Prop where
 cell:w.1[fQ]? =some (.cells #[az cN] 250 (0,0))
 xT:hH w cN o (jA k l 0).2.1 (jA k l 0).2.2
 aQ2:w.1[hw]? =some (.cells (cn ((jA k l 0).1++List.replicate (8 - k) ah)) 339 (0,0))
 ch:H (λj=>j=cN\/j=hw) w0 w
theorem amK(k:Nat)(r:k<=8)(l:List UInt8):iJ ((jA k l 0).1++List.replicate (8 - k) ah):=⟨by simp[Yz];omega,λp am=>by
 rcases hP.1 am with h|h
 ·exact al' _ _ _ p h
 ·rw[(IB.1 h).2];exact cH⟩
theorem azK(w0 w:M)(fQ hw cN o:Nat)(l:List UInt8)(k:Nat)(r:k<8)(ak:l.length<=1000000)(bM:mb w)(J:fQ≠hw)(T:fQ≠cN)(ag:cN≠hw)(aP:o≠hw)(bH:cN≠0)(av:o<w.1.size)(h:Pz w0 w fQ hw cN o l k):
  bc prog 256 #[.pointer (some ⟨hw,k*41,none⟩),az fQ] w λv' w'=>v'=.tuple #[]/\Pz w0 w' fQ hw cN o l (k+1):=by
 obtain⟨Z,ax,aq,zk⟩:=h;have dl:=λi=>aG Z i;refine bz func256 ntmps256 λbk af=> ?_;simp[go_sem,dl];have yW:=azJ k l 0;refine(acs cN o _ _ w (by omega) bM bH ax av).mono ?_;rintro _ an ⟨rfl,Av,aK⟩;have hV:=aK.am Z (by simp only[only];omega);have zy:=aK.am aq (by simp only[only];omega);have lP:=amK k (by omega) l;have hS:=Px (jA k l 0).2.1 (jA k l 0).2.2;have iQ:=ald lP r hS;simp[go_sem,zy,ll lP,cd hS,iQ,show k*41+41<=328 by omega];have aI:=(H.refl (only hw) an).setRow (g:=hw) (.inl rfl) (cn (((jA k l 0).1++List.replicate (8 - k) ah).set k (qc (jA k l 0).2.1 (jA k l 0).2.2).1));refine af _ _ ⟨rfl,?_,?_,?_,?_⟩
 ·simp_all
 ·exact Av.ch aI (by simp only[only];omega) (by simp only[only];omega)
 ·rw[gh,zy];simp only[azL];congr 3;rw[Lq _ _ (by rw[Yz];omega),Yz,Sg,show 8 - k=(8 -(k+1))+1 by omega,Oz,OA];simp[jA]
 ·exact(zk.trans (aK.mono λj _ e=>.inl e)).setRow (.inl (.inr rfl)) _
theorem azM(w:M)(fQ hw cN o:Nat)(l:List UInt8)(ak:l.length<=1000000)(bM:mb w)(J:fQ≠hw)(T:fQ≠cN)(ag:cN≠hw)(aP:o≠hw)(bH:cN≠0)(cS:hw≠0)(av:o<w.1.size)(h:Pz w w fQ hw cN o l 0):
  bc prog 255 #[.func (.func 256) #[] #[az fQ],az hw] w λv' w'=>v'=.tuple #[]/\Pz w w' fQ hw cN o l 8:=by
 refine bz func255 ntmps255 λbk af=> ?_;simp[go_sem];refine di (λV f bI=>∃k,k<=8/\V=8 - k/\f 0=.func (.func 256) #[] #[az fQ]/\f 1=az hw/\f 4=aa k/\Pz w bI fQ hw cN o l k) 8
  ⟨0,by omega,rfl,by simp,by simp,by simp,h⟩ ?_
 rintro cQ bJ _ f bI ⟨k,r,rfl,dk,aL,dl,aC⟩;by_cases mT:k<8
 ·have eo:(k:Int)<8:=by omega
  have ej:IntKind.i64.wrap ((k:Int)+1)=((k+1:Nat):Int):=by simp[cz];omega
  simp[go_sem,dk,aL,dl,eo];have oC:∀(a:List N) (w:M),(callFunc 256 a.toArray).run prog w=.ok (.enter 256 a.toArray) w:=λa w=>by simp[go_sem]
  rw[EJ _ _ _ _ [az fQ] _ (oC _ _)];refine(azK w bI fQ hw cN o l k mT ak (bM.ch aC.ch (by omega)) J T ag aP bH (gQ av aC.ch.size) aC).mono ?_;rintro _ an ⟨rfl,pc⟩;simp[go_sem,dl,ej];exact ct.intro (8 -(k+1)) (by omega) (bJ _ _ _ ⟨k+1,by omega,rfl,by simp[dk],by simp[aL],by simp,pc⟩)
 ·obtain rfl:k=8:=by omega
  simp[go_sem,dl];exact af _ _ ⟨rfl,aC⟩
theorem ayF(v:N)(l:List UInt8)(w:M)(ak:l.length<=1000000)(aA:bC w v l.length (br l))(bM:mb w):
  bc prog 234 #[v] w λv' w'=>v'=.tuple #[.agg (cn (vv l).1),aa (vv l).2]/\H al w w':=by
 refine bz func234 ntmps234 λbk af=> ?_;simp[go_sem,uh,ui];have aY:=(H.refl al w).alloc (.cells (cn eE) 339);have bt:=cr w (.cells (cn eE) 339);have fb:=bM.lt;revert aY bt;generalize w.alloc (.cells (cn eE) 339)=ai;generalize au:w.1.size=q;intro aY bt;refine(RO v l ai (by omega) (aA.ch aY λ_ _ e=>e)).mono ?_;rintro _ an ⟨cN,o,rfl,bn,W_,Ov,bh,bA⟩;have pj:=lt_of_block bt;have bt:=bA.am bt id;simp[go_sem,uh,ui];have aI:=((H.refl al an).alloc (.cells #[az cN] 250)).alloc (.cells (cn eE) 339);have cI:=oF an (.cells #[az cN] 250) (.cells (cn eE) 339);have dG:=nM an (.cells #[az cN] 250) (.cells (cn eE) 339);have CL:=bh.lt;revert aI cI dG;generalize(an.alloc (.cells #[az cN] 250)).alloc (.cells (cn eE) 339)=aJ;generalize ss:an.1.size=fQ at*;intro aI cI dG;have nR:=aY.size;have vC:=bA.size;have bt:=aI.am bt id;have oC:∀(a:List N) (w:M),(callFunc 255 a.toArray).run prog w=.ok (.enter 255 a.toArray) w:=λa w=>by simp[go_sem]
 rw[EJ _ _ _ _ [.pointer (some ⟨fQ+1,0,none⟩)] _ (oC _ _)];have ik:mb aJ:=((bM.ch aY id).ch bA id).ch aI id;have Tx:fQ+1<aJ.1.size:=lt_of_block dG;have LG:Pz aJ aJ fQ (fQ+1) cN o l 0:=⟨cI,bh.ch aI id id,by simpa[jA,eE]using dG,H.refl _ _⟩;refine(azM aJ fQ (fQ+1) cN o l ak ik (by omega) (by omega) (by omega) (by omega) (by omega) (by omega) (by omega) LG).mono ?_;rintro _ bs ⟨rfl,gD,gc,jT,qd⟩;have dl:=λi=>aG gD i;simp[go_sem,dl];refine(Xg cN _ _ bs gc).mono ?_;rintro _ bD ⟨rfl,wd,bE⟩;have bt:=bE.am (qd.am bt (by omega)) (by simp only[only];omega);have dG:=bE.am jT (by simp only[only];omega);have mC:=amK 8 (c_ _) l;have kz:cn ((jA 8 l 0).1++List.replicate (8 - 8) ah)=cn (jA 8 l 0).1:=by simp
 rw[kz]at dG;have mC:iJ (jA 8 l 0).1:=by simpa using mC
 have gv:H al w bD:=((aY.trans bA).trans aI).bZ qd (λj I e=>by omega)|>.bZ bE λj I e=>by simp only[only]at e;omega
 by_cases aV:(tf (jA 8 l 0).2.1 (jA 8 l 0).2.2).2=0
 ·have nD:vv l=((jA 8 l 0).1,0):=by unfold vv;rw[be aV]
  have gj:(bD.setRow q (cn (jA 8 l 0).1)).1[q]? =some (.cells (cn (jA 8 l 0).1) 339 (0,0)):=by rw[gh,bt];rfl
  simp[go_sem,aV,bt,dG,ll mC,ll rA,se mC,bS,gj];exact af _ _ ⟨by rw[nD],gv.setRow (.inr (by omega)) _⟩
 ·have nD:vv l=(eE,5):=by unfold vv;rw[aQ aV]
  have zz:((tf (jA 8 l 0).2.1 (jA 8 l 0).2.2).2 !=0)=true:=by simpa using aV
  have gj:(bD.setRow q (cn eE)).1[q]? =some (.cells (cn eE) 339 (0,0)):=by rw[gh,bt];rfl
  simp[go_sem,zz,bt,Sv,ll rA,se rA,bS,gj];exact af _ _ ⟨by rw[nD],gv.setRow (.inr (by omega)) _⟩
def si(l:List UInt8)(e:Int):=dg l e 1
def cf(l:List UInt8)(e:Int):=we (si l e).2.1 (si l e).2.2 1
def wD(l:List UInt8)(e:Int):=dg (cf l e).1 (cf l e).2 2
def CB(l:List UInt8)(e:Int):=dg (wD l e).2.1 (wD l e).2.2 4
def AV(l:List UInt8)(e:Int):=qc (CB l e).2.1 (CB l e).2.2
def YC(l:List UInt8)(e:Int):=we (AV l e).2.1 (AV l e).2.2 (128 -(l.length:Int)+(AV l e).2.1.length).toNat
def Jm(l:List UInt8)(e:Int):bF×List UInt8×Int:=(⟨em (si l e).1,em (wD l e).1,em (CB l e).1,(AV l e).1⟩,YC l e)
theorem azN(l:List UInt8)(dk e:Int):(om l dk e).1.length<=l.length:=by unfold om;split<;>simp
theorem amL(l:List UInt8)(e:Int)(n:Nat):(we l e n).1.length<=l.length:=by
 have J:=Pw l e n;have T:=azN (dg l e n).2.1 (dg l e n).2.2 5;unfold we
 grind
theorem amM(l:List UInt8)(e:Int):(si l e).2.1.length<=l.length:=Pw _ _ _
theorem amN(l:List UInt8)(e:Int):(cf l e).1.length<=l.length:=dK (amL _ _ _) (amM l e)
theorem amO(l:List UInt8)(e:Int):(wD l e).2.1.length<=l.length:=dK (Pw _ _ _) (amN l e)
theorem amP(l:List UInt8)(e:Int):(CB l e).2.1.length<=l.length:=dK (Pw _ _ _) (amO l e)
theorem amQ(l:List UInt8)(e:Int):(AV l e).2.1.length<=l.length:=dK (aew _ _) (amP l e)
theorem azO(l:List UInt8)(e:Int):(YC l e).1.length<=l.length:=dK (amL _ _ _) (amQ l e)
theorem JC(l:List UInt8)(e:Int)(n:Nat):em (dg l e n).1<256^n:=
 gQ (FT _) (LC (by decide) (Py l e n))
theorem azP(l:List UInt8)(e:Int):fu (Jm l e).1:=⟨by have:=JC l e 1;simpa[Jm,si]using this,JC _ _ 2,JC _ _ 4,Px _ _⟩
def kU:Nat->List UInt8->Int->List bF×List UInt8×Int
 |0,l,e=>([],l,e)
 |n+1,l,e=>((kU n l e).1++[(Jm (kU n l e).2.1 (kU n l e).2.2).1],(Jm (kU n l e).2.1 (kU n l e).2.2).2)
theorem azQ(n:Nat)(l:List UInt8)(e:Int):(kU n l e).2.1.length<=l.length:=by
 induction n with
 |zero=>exact c_ _
 |succ n bL=>exact dK (azO _ _) bL
theorem Mi(n:Nat)(l:List UInt8)(e:Int):(kU n l e).1.length=n:=by
 induction n with
 |zero=>rfl
 |succ n bL=>simp[kU,bL]
theorem ad7(n:Nat)(l:List UInt8)(e:Int):∀p∈(kU n l e).1,fu p:=by
 induction n with
 |zero=>simp[kU]
 |succ n bL=>
  intro p am;simp only[kU,hP,sc]at am;rcases am with am|rfl
  ·exact bL p am
  ·exact azP _ _
def sk(l:List UInt8):List bF×Int:=if(tf (kU 4 l 0).2.1 (kU 4 l 0).2.2).2=0/\(kU 4 l 0).1.all fc=true then((kU 4 l 0).1,0)else(hm,5)
def pQ(k:Nat)(l:List UInt8):List bF:=(kU k l 0).1++List.replicate (4 - k) bp
theorem azR(k:Nat)(r:k<=4)(l:List UInt8):me (pQ k l):=⟨by simp[pQ,Mi];omega,λp am=>by
 rcases hP.1 am with h|h
 ·exact ad7 _ _ _ p h
 ·rw[(IB.1 h).2];exact jy⟩
theorem azS{k:Nat}(r:k<4)(l:List UInt8):(pQ k l)[k]? =some bp:=by
 unfold pQ;rw[DV (by rw[Mi];omega),Mi,DW,be (by omega)]
theorem azT{k:Nat}(r:k<4)(l:List UInt8):(pQ k l).set k (Jm (kU k l 0).2.1 (kU k l 0).2.2).1=pQ (k+1) l:=by
 unfold pQ;rw[Lq _ _ (by rw[Mi];omega),Mi,Sg,show 4 - k=(4 -(k+1))+1 by omega,Oz,OA];simp[kU]
section
variable {xs:List bF}{k:Nat}{x:bF}
theorem azU(h:me xs)(r:xs[k]? =some x)(v:Nat):(dL xs).setIfInBounds (k*44) (.int .u8 v)=dL (xs.set k {x with k:=v}):=by
 have:=Su (i:=0) h.kw r (by decide) (awN v);rwa[Ec]at this
theorem azV(h:me xs)(r:xs[k]? =some x)(v:Nat):(dL xs).setIfInBounds (k*44+1) (.int .u16 v)=dL (xs.set k {x with n:=v}):=Su h.kw r (by decide) (awO v)
theorem azW(h:me xs)(r:xs[k]? =some x)(v:Nat):(dL xs).setIfInBounds (k*44+2) (.int .u32 v)=dL (xs.set k {x with s:=v}):=Su h.kw r (by decide) (awP v)
theorem azX(h:me xs)(r:xs[k]? =some x){q:Pt}(ov:cc q):dT (dL xs) (k*44+3) (ae q)=dL (xs.set k {x with V:=q}):=by
 have cG:=h.all x (ib r);exact awJ h.kw r (by rw[cd ov];decide) (XS cG ov) (hA ⟨cG.k,cG.n,cG.s,ov⟩)
theorem aex(h:me xs)(r:xs[k]? =some x){i:Nat}{u:N}(ap:(aZ x)[i]? =some u):(dL xs)[k*44+i]? =some u:=OT h.kw r ap
end
theorem azY(v:N)(l:List UInt8)(w:M)(ak:l.length<=1000000)(aA:bC w v l.length (br l))(bM:mb w):
  bc prog 147 #[v] w λv' w'=>v'=.tuple #[.agg (dL (sk l).1),aa (sk l).2]/\H al w w':=by
 refine bz func147 ntmps147 λbk af=> ?_;simp[go_sem,Gp,Gq];have aY:=((H.refl al w).alloc (.cells (dL hm) 279)).alloc (.cells (dL hm) 279);have cY:=oF w (.cells (dL hm) 279) (.cells (dL hm) 279);have cI:=nM w (.cells (dL hm) 279) (.cells (dL hm) 279);have fb:=bM.lt;revert aY cY cI;generalize(w.alloc (.cells (dL hm) 279)).alloc (.cells (dL hm) 279)=ai;generalize au:w.1.size=q;intro aY cY cI;have ss:=lt_of_block cI;refine(RO v l ai (by omega) (aA.ch aY λ_ _ e=>e)).mono ?_;rintro _ an ⟨cN,o,rfl,bn,W_,Ov,bh,bA⟩;have cY:=bA.am cY id;have cI:=bA.am cI id;have ii:mb an:=(bM.ch aY id).ch bA id;have vC:=bA.size;have CL:=bh.lt;simp[go_sem];refine di (λV f bI=>∃k,k<=4/\V=4 - k/\f 2=az q/\f 4=.pointer (some ⟨q+1,0,none⟩)/\f 5=az cN/\f 12=aa k/\
  hH bI cN o (kU k l 0).2.1 (kU k l 0).2.2/\bI.1[q+1]? =some (.cells (dL (pQ k l)) 279 (0,0))/\H (λj=>j=cN\/j=q+1) an bI) 4
  ⟨0,by omega,rfl,by simp,by simp,by simp,by simp,by simpa[kU]using bh,by simpa[pQ,kU,hm]using cI,H.refl _ _⟩ ?_
 rintro cQ bJ _ f bI ⟨k,r,rfl,bg,ck,f5,dj,ax,ab,Z⟩;have jM:=azQ k l 0;generalize b_:(kU k l 0).2.1=L at*;generalize hx:(kU k l 0).2.2=E at*;by_cases gq:k<4
 ·have eo:(k:Int)<4:=by omega
  have ej:IntKind.i64.wrap ((k:Int)+1)=((k+1:Nat):Int):=by simp[cz];omega
  simp[go_sem,f5,dj,eo];refine(RU cN L E bI ax).mono ?_;rintro _ tB ⟨rfl,bi⟩;rw[bi];simp[go_sem,f5];refine(act cN L E bI (by omega) ax).mono ?_;rintro _ gw ⟨rfl,ny,dc⟩;have CM:=azR k r l;have qp:=azS gq l;have aey:=xF CM;have gD:=dc.am ab (by simp only[only];omega);have qX:k*44+44<=176:=by omega
  have azZ:(dL (pQ k l))[k*44]? =some (.int .u8 (0:Nat)):=by
   have:=aex CM qp (i:=0) Gn;rwa[Ec]at this
  have aL:=(aG gD (k*44)).trans azZ;have pk:=λi=>dJ gD i;generalize fW:em (si L E).1=oK;rw[show em (dg L E 1).1=oK from fW];have zA:oK<256:=by rw[<-fW];have:=JC L E 1;simpa[si]using this
  have az0:fu {bp with k:=oK}:=⟨zA,by show(0:Nat)<65536;decide,by show(0:Nat)<4294967296;decide,cH⟩;simp[go_sem,ck,f5,eo,aL,pk];have amR:=(H.refl (only (q+1)) gw).setCell (p:=⟨q+1,k*44,none⟩) (.inl rfl) (.int .u8 oK);have ny:=ny.ch amR (by simp only[only];omega) (by simp only[only];omega);have gc:(gw.setCell ⟨q+1,k*44,none⟩ (.int .u8 oK)).1[q+1]? =some (.cells (dL ((pQ k l).set k {bp with k:=oK})) 279 (0,0)):=by
   rw[eU,gD,fU,azU CM qp]
  have Z:=(Z.trans (dc.mono λj _ e=>.inl e)).setCell (p:=⟨q+1,k*44,none⟩) (.inl (.inr rfl)) (.int .u8 oK);clear amR aL pk;revert ny gc Z;generalize gw.setCell ⟨q+1,k*44,none⟩ (.int .u8 oK)=u2;intro ny gc Z;have YL:=CM.set k az0;have YM:((pQ k l).set k {bp with k:=oK})[k]? =some {bp with k:=oK}:=Sh (by rw[CM.len];exact gq);have aQ3:=amM L E;refine(Xf cN _ _ 1 u2 (by decide) (by show(si L E).2.1.length<=_;omega) ny).mono ?_;rintro _ jl ⟨rfl,Av,hl⟩;have jT:=hl.am gc (by simp only[only];omega);have Z:=Z.trans (hl.mono λj _ e=>.inl e);simp[go_sem];refine cT [F 0,F 1,F 2,F 4,(3,some [0,1,4]),F 6,F 7,(5,some [0,1,6,7]),(8,some [1]),F 9,F 10,(11,some [])] ?_;simp[go_sem,ck,f5];have aQ4:=amN L E;refine(Xc cN (cf L E).1 (cf L E).2 jl.drew (by omega) (Av.ch ((H.refl al jl).drew) id id)).mono ?_;rintro _ rE ⟨rfl,xx,ew⟩;generalize dO:em (wD L E).1=tC;rw[show em (dg (cf L E).1 (cf L E).2 2).1=tC from dO];have amS:tC<65536:=by rw[<-dO];exact JC _ _ 2
  simp[go_sem,ck,f5,eo];have aQ5:=amO L E;refine(akV cN (wD L E).2.1 (wD L E).2.2 rE (by omega) xx).mono ?_;rintro _ sg ⟨rfl,iV,iB⟩;generalize cl:em (CB L E).1=CN;rw[show em (dg (wD L E).2.1 (wD L E).2.2 4).1=CN from cl];have az1:CN<4294967296:=by rw[<-cl];exact JC _ _ 4
  have Ax:=iB.am (ew.am (show jl.drew.1[q+1]? =_ from jT) (by simp only[only];omega)) (by simp only[only];omega);have Z:=(Z.drew.trans (ew.mono λj _ e=>.inl e)).trans (iB.mono λj _ e=>.inl e);have az2:fu {{bp with k:=oK}with n:=tC}:=⟨zA,amS,by show(0:Nat)<4294967296;decide,cH⟩;have YN:=YL.set k az2;have amT:((((pQ k l).set k {bp with k:=oK})).set k {{bp with k:=oK}with n:=tC})[k]? =some {{bp with k:=oK}with n:=tC}:=Sh (by rw[YL.len];exact gq);have gL:=(aG Ax (k*44+1)).trans (aex YL YM LI);have z5:=λi=>dJ Ax i;have IA:(sg.setCell ⟨q+1,k*44+1,none⟩ (.int .u16 tC)).1[q+1]? =some (.cells (dL (((pQ k l).set k {bp with k:=oK}).set k {{bp with k:=oK}with n:=tC})) 279 (0,0)):=by
   rw[eU,Ax,fU,azV YL YM]
  have je:=(aG IA (k*44+2)).trans (aex YN amT LJ);have PA:=λi=>dJ IA i;simp[go_sem,ck,f5,eo,gL,z5,je,PA];have az3:fu {{{bp with k:=oK}with n:=tC}with s:=CN}:=⟨zA,amS,az1,cH⟩;have aez:=YN.set k az3;have amU:(((((pQ k l).set k {bp with k:=oK})).set k {{bp with k:=oK}with n:=tC}).set k {{{bp with k:=oK}with n:=tC}with s:=CN})[k]? =some {{{bp with k:=oK}with n:=tC}with s:=CN}:=Sh (by rw[YN.len];exact gq);have FY:((sg.setCell ⟨q+1,k*44+1,none⟩ (.int .u16 tC)).setCell ⟨q+1,k*44+2,none⟩ (.int .u32 CN)).1[q+1]? =some (.cells (dL ((((pQ k l).set k {bp with k:=oK}).set k {{bp with k:=oK}with n:=tC}).set k {{{bp with k:=oK}with n:=tC}with s:=CN})) 279 (0,0)):=by
   rw[eU,IA,fU,azW YN amT]
  have qY:=((H.refl (only (q+1)) sg).setCell (p:=⟨q+1,k*44+1,none⟩) (.inl rfl) (.int .u16 tC)).setCell (p:=⟨q+1,k*44+2,none⟩) (.inl rfl) (.int .u32 CN);have wd:=iV.ch qY (by simp only[only];omega) (by simp only[only];omega);have Z:=(Z.setCell (p:=⟨q+1,k*44+1,none⟩) (.inl (.inr rfl)) (.int .u16 tC)).setCell (p:=⟨q+1,k*44+2,none⟩) (.inl (.inr rfl)) (.int .u32 CN);clear qY gL z5 je PA IA Ax;revert wd FY Z;generalize(sg.setCell ⟨q+1,k*44+1,none⟩ (.int .u16 tC)).setCell ⟨q+1,k*44+2,none⟩ (.int .u32 CN)=tp;intro FY wd Z;simp only[List.set_set]at FY aez amU;have aQ6:=amP L E;refine(acs cN o (CB L E).2.1 (CB L E).2.2 tp (by omega) (ii.ch Z (by omega)) (by omega) wd (by have:=Z.size;omega)).mono ?_;rw[show qc (CB L E).2.1 (CB L E).2.2=AV L E from rfl];rintro _ pH ⟨rfl,Ow,zB⟩;have gI:cc (AV L E).1:=Px _ _;have yF:=zB.am FY (by simp only[only];omega);have Z:=Z.trans (zB.mono λj _ e=>.inl e);have iQ:=azX aez amU gI;rw[List.set_set]at iQ;have az4:=xF aez;have az5:=cd gI;have CO:=azT gq l;rw[b_,hx,show(Jm L E).1=({{{{bp with k:=oK}with n:=tC}with s:=CN}with V:=(AV L E).1}:bF)by rw[<-fW,<-dO,<-cl];rfl]at CO;rw[CO]at iQ;simp[go_sem,ck,f5,eo,yF,az4,az5,iQ,show k*44+3+41<=176 by omega];have amV:=(H.refl (only (q+1)) pH).setRow (g:=q+1) (.inl rfl) (dL (pQ (k+1) l));have YO:=Ow.ch amV (by simp only[only];omega) (by simp only[only];omega);have FZ:(pH.setRow (q+1) (dL (pQ (k+1) l))).1[q+1]? =some (.cells (dL (pQ (k+1) l)) 279 (0,0)):=by rw[gh,yF];rfl
  have Z:=Z.setRow (g:=q+1) (.inl (.inr rfl)) (dL (pQ (k+1) l));clear amV yF zB FY iB ew jT hl gc gD dc;revert YO FZ Z;generalize pH.setRow (q+1) (dL (pQ (k+1) l))=u8;intro YO FZ Z;have aQ7:=amQ L E;refine(RU cN _ _ u8 YO).mono ?_;rintro _ aeA ⟨rfl,ir⟩;rw[ir];have aeB:IntKind.i64.wrap (128 -(L.length:Int))=128 - L.length:=by rw[cz];omega
  have CP:IntKind.i64.wrap (128 -(L.length:Int)+(AV L E).2.1.length)=128 - L.length+(AV L E).2.1.length:=by rw[cz];omega
  simp[go_sem,aeB,CP];refine(Xf cN _ _ _ u8 (by omega) (by omega) YO).mono ?_;rintro _ Er ⟨rfl,aeC,CQ⟩;have az6:=CQ.am FZ (by simp only[only];omega);have Z:=Z.trans (CQ.mono λj _ e=>.inl e);simp[go_sem,dj,ej];refine ct.intro (4 -(k+1)) (by omega) (bJ _ _ _ ⟨k+1,by omega,rfl,by simpa using bg,by simpa using ck,by simpa using f5,by simp,?_,az6,Z⟩);simp only[kU,b_,hx];exact aeC
 ·obtain rfl:k=4:=by omega
  simp[go_sem,f5,dj];clear bJ cQ;refine(Xg cN L E bI ax).mono ?_;rintro _ bD ⟨rfl,wd,bE⟩;have ab:=bE.am ab (by simp only[only];omega);have Z:=Z.trans (bE.mono λj _ e=>.inl e);have cY:=Z.am cY (by omega);have CM:me (kU 4 l 0).1:=⟨Mi _ _ _,ad7 _ _ _⟩;have az7:pQ 4 l=(kU 4 l 0).1:=by simp[pQ]
  rw[az7]at ab;generalize az8:(kU 4 l 0).1=X at*;have aey:=xF CM;have amW:=IQ CM;have cU:=xF yT;have amX:=IQ yT;have gv:H al w bD:=(aY.trans bA).bZ Z (λj I e=>by omega);have qq:=bM.ch gv id;by_cases aV:(tf L E).2=0
  ·simp[go_sem,aV,ck,ab,aey,amW];refine di (λV f bI=>∃k,k<=4/\V=4 - k/\f 2=az q/\f 4=.pointer (some ⟨q+1,0,none⟩)/\f 51=.agg (dL X)/\f 52=aa k/\(X.take k).all fc=true/\H al bD bI) 4
    ⟨0,by omega,rfl,by simp[bg],by simp[ck],by simp,by simp,by simp,H.refl _ _⟩ ?_
   clear bg ck f5 dj f;rintro cQ bJ _ f bI ⟨k,r,rfl,bg,ck,amY,Mr,ao,AP⟩;have cY:=AP.am cY id;have ab:=AP.am ab id;by_cases gq:k<4
   ·have eo:(k:Int)<4:=by omega
    have ej:IntKind.i64.wrap ((k:Int)+1)=((k+1:Nat):Int):=by simp[cz];omega
    obtain⟨x,W,cG⟩:=CM.dI gq;have rL:=alj CM gq W;have gF:=hA cG;have AH:=tj cG;have iX:X.take (k+1)=X.take k++[x]:=by rw[nA,W];rfl
    have cx:=(H.refl al bI).alloc (.cells (aZ x) 113);simp[go_sem,amY,Mr,eo,rL,uj,uk,hA jy,gF,AH,bS];refine(XT x _ cG (qq.ch (AP.trans cx) id)).mono ?_;rintro _ cD ⟨rfl,cF⟩
    cases Eg:fc x
    ·have cY:=cF.am (cx.am cY id) id;have dl:sk l=(hm,5):=by
      unfold sk;rw[az8,aQ];rintro⟨_,h⟩;have:=vg.1 h x (ib W);rw[Eg]at this;cases this
     have kk:(cD.setRow q (dL hm)).1[q]? =some (.cells (dL hm) 279 (0,0)):=by rw[gh,cY];rfl
     simp[go_sem,bg,cY,Gr,cU,amX,bS,kk];exact af _ _ ⟨by rw[dl],(((gv.trans AP).trans cx).trans cF).setRow (g:=q) (.inr (by omega)) _⟩
    ·simp[go_sem,Mr,ej];refine ct.intro (4 -(k+1)) (by omega) (bJ _ _ _ ⟨k+1,by omega,rfl,by simpa using bg,by simpa using ck,by simpa using amY,by simp,?_,(AP.trans cx).trans cF⟩)
     grind
   ·obtain rfl:k=4:=by omega
    rw[mP (by rw[CM.len];omega)]at ao;have dl:sk l=(X,0):=by
     unfold sk
     grind
    have kk:(bI.setRow q (dL X)).1[q]? =some (.cells (dL X) 279 (0,0)):=by rw[gh,cY];rfl
    simp[go_sem,bg,ck,Mr,cY,ab,aey,amW,cU,bS,kk];exact af _ _ ⟨by rw[dl],(gv.trans AP).setRow (g:=q) (.inr (by omega)) _⟩
  ·have zz:((tf L E).2 !=0)=true:=by simpa using aV
   have dl:sk l=(hm,5):=by
    unfold sk;rw[aQ];rintro⟨h,_⟩;rw[b_,hx]at h;exact aV h
   have kk:(bD.setRow q (dL hm)).1[q]? =some (.cells (dL hm) 279 (0,0)):=by rw[gh,cY];rfl
   simp[go_sem,zz,bg,cY,Gr,cU,amX,bS,kk];exact af _ _ ⟨by rw[dl],gv.setRow (g:=q) (.inr (by omega)) _⟩
end Go.Proofs.YtoohkhcpboldjaaGreatDoor
