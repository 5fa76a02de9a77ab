/- Package disk's block and comes, as contracts on calls. No condition. -/
import Derived.Test.YtoohkhcpboldjaaGreatDoorInE
import Derived.Test.YtoohkhcpboldjaaGreatDoorOvG
set_option maxRecDepth 100000
set_option linter.unusedSimpArgs false
set_option linter.unusedVariables false
namespace Go.Proofs.YtoohkhcpboldjaaGreatDoor
open Go.RowKit Go.Kin Tryz
theorem ayC(b V:List UInt8)(ab:b.length=64):dg (b++V) 0 64=(b,V,0):=by
 simp[dg,ab]
theorem al8{p:Pt}(ok:cc p)(h:gI p=true)(V:List UInt8):qc (kf p++V) 0=(p,V,0):=by
 have ak:=DR ok;unfold qc;rw[ayC _ _ ak];simp only[ak,FX,if_false];rw[be (awm ok (Yy.1 h)),Oq ok]
theorem ayD{ps:List Pt}(ok:∀p∈ps,cc p)(h:ps.all gI=true)(V:List UInt8):∀k,k<=ps.length->jA k (mZ ps++V) 0=(ps.take k,mZ (ps.drop k)++V,0):=by
 intro k
 induction k with
 |zero=>intro _;simp[jA]
 |succ k bL=>
  intro r;have aO:k<ps.length:=by omega
  simp only[jA,bL (by omega)];have aL:=xD aO;have aR:mZ (ps.drop k)++V=kf ps[k]++(mZ (ps.drop (k+1))++V):=by
   rw[aL,mZ,Au,nv];rfl
  rw[aR,al8 (ok _ (wj aO)) (vg.1 h _ (wj aO)),nA,d_ aO];rfl
theorem al9{ps:List Pt}(ok:iJ ps)(h:ps.all gI=true):vv (mZ ps)=(ps,0):=by
 have:=ayD ok.all h [] 8 (by rw[ok.len];omega);rw[mP (by rw[ok.len];omega),Xv (by rw[ok.len];omega),va]at this;unfold vv;rw[this];simp[tf,mZ]
theorem al_(l:List UInt8):iJ (vv l).1:=by
 unfold vv;split
 ·exact⟨Yz _ _ _,al' _ _ _⟩
 ·exact rA
end Go.Proofs.YtoohkhcpboldjaaGreatDoor
namespace Go.Kin
open Go Go.RowKit
def aE(O:Nat->Prop)(w w':M):Nat->Prop:=λk=>O k\/(w.1.size<=k/\k<w'.1.size)
theorem aE.lt{O:Nat->Prop}{w w':M}(h:∀k,O k->k<w.1.size)(aA:w.1.size<=w'.1.size):∀k,aE O w w' k->k<w'.1.size:=λk r=>r.elim (λe=>gQ (h k e) aA) λe=>e.2
abbrev jf:=M->(Nat->Prop)->Prop
structure kB(ba:jf):Prop where
 lt:∀{w O},ba w O->∀k,O k->k<w.1.size
 ch:∀{w w' O S},ba w O->H S w w'->(∀k,O k->¬S k)->ba w' O
 eK:∀{w O O'},ba w O->(∀k,O k->O' k)->(∀k,O' k->k<w.1.size)->ba w O'
def rI(Cx Cy:jf):jf:=λw O=>∃gK ka,Cx w gK/\Cy w ka/\(∀k,gK k->¬ka k)/\(∀k,gK k\/ka k->O k)/\∀k,O k->k<w.1.size
theorem rI.ok{Cx Cy:jf}(J:kB Cx)(T:kB Cy):kB (rI Cx Cy):=by
 refine⟨λ⟨_,_,_,_,_,_,h⟩=>h,?_,?_⟩
 ·rintro w w' O S ⟨gK,ka,a,b,c,d,e⟩ Z cl;exact⟨gK,ka,J.ch a Z λk r=>cl k (d k (.inl r)),T.ch b Z λk r=>cl k (d k (.inr r)),c,d,λk r=>gQ (e k r) Z.size⟩
 ·rintro w O O' ⟨gK,ka,a,b,c,d,e⟩ h h';exact⟨gK,ka,a,b,c,λk r=>h k (d k r),h'⟩
section
variable {P:Program}{f:FuncId}{args:Array N}{R:N->M->Prop}{Cx Cy ba Pk:jf}{w w':M}{O:Nat->Prop}
theorem rI.ama(h:rI Cx Cy w O)(J:kB Cx)(T:kB Cy)(mi:kB Pk)(bP:∀gK,Cx w gK->(∀k,gK k->O k)->bc P f args w λv w'=>R v w'/\Pk w' (aE gK w w')/\H gK w w'):
  bc P f args w λv w'=>R v w'/\rI Pk Cy w' (aE O w w')/\H O w w':=by
 obtain⟨gK,ka,a,b,c,d,e⟩:=h;refine(bP gK a λk r=>d k (.inl r)).mono ?_;rintro v w' ⟨x,y,z⟩;refine⟨x,⟨_,_,y,T.ch b z λk r e=>c k e r,λk r ab=> ?_,λk r=> ?_,aE.lt e z.size⟩,z.mono λk _ r=>d k (.inl r)⟩
 ·rcases r with r|r
  ·exact c k r ab
  grind
 ·rcases r with(r|r)|r
  ·exact .inl (d k (.inl r))
  ·exact .inr r
  ·exact .inl (d k (.inr r))
theorem rI.ad0(h:rI Cx Cy w O)(J:kB Cx)(T:kB Cy)(bP:∀gK,Cy w gK->(∀k,gK k->O k)->bc P f args w λv w'=>R v w'/\Pk w' (aE gK w w')/\H gK w w'):
  bc P f args w λv w'=>R v w'/\rI Cx Pk w' (aE O w w')/\H O w w':=by
 obtain⟨gK,ka,a,b,c,d,e⟩:=h;refine(bP ka b λk r=>d k (.inr r)).mono ?_;rintro v w' ⟨x,y,z⟩;refine⟨x,⟨_,_,J.ch a z λk r e=>c k r e,y,λk r ab=> ?_,λk r=> ?_,aE.lt e z.size⟩,z.mono λk _ r=>d k (.inr r)⟩
 ·rcases ab with ab|ab
  ·exact c k r ab
  grind
 ·rcases r with r|r|r
  ·exact .inl (d k (.inl r))
  ·exact .inl (d k (.inr r))
  ·exact .inr r
end
section
variable {P:Program}{f:FuncId}{args:Array N}{R:N->M->Prop}{ba Pk:jf}{Y w w':M}{l:List jf}
end
end Go.Kin
namespace Go.Proofs.YtoohkhcpboldjaaGreatDoor
open Go.RowKit Go.Kin Tryz
def alr(w:M):Prop:=∃cs bv fr,w.1[2]? =some (.cells cs bv fr)/\cs.extract 0 41=ae ah/\41<=cs.size
structure hI(w:M):Prop where
 qQ:mb w
 nO:alr w
def Pl(k:Nat):Prop:=k=0\/k=2
theorem hI.ch{S:Nat->Prop}{w w':M}(h:hI w)(Z:H S w w')(aq:∀k,Pl k->¬S k):hI w':=by
 obtain⟨cs,bv,fr,J,T,ag⟩:=h.nO;exact⟨h.qQ.ch Z (aq _ (.inl rfl)),cs,bv,fr,Z.obj J (aq _ (.inr rfl)),T,ag⟩
theorem hI.lt{w:M}(h:hI w):∀k,Pl k->k<w.1.size:=λk r=>by
 rcases r with rfl|rfl
 ·exact h.qQ.lt
 ·obtain⟨cs,bv,fr,J,_,_⟩:=h.nO;exact lt_of_block J
def iO{aF:Type}(ba:aF->jf)(O:Nat->Prop):Prop:=(∀k,Pl k->¬O k)\/∀s w O,ba s w O->hI w
theorem iO.cv{aF:Type}{ba:aF->jf}{O S:Nat->Prop}{w w':M}{s:aF}(aH:iO ba O)(cv:hI w)(c:H S w w')(h:∃O',ba s w' O')(cl:∀k,Pl k->S k->O k):hI w':=
 aH.elim (λaH=>cv.ch c λk r e=>aH k r (cl k r e)) λaH=>h.elim λO' h=>aH _ _ _ h
theorem iO.cN{aF:Type}{ba:aF->jf}{O:Nat->Prop}{w w':M}(aH:iO ba O)(cv:hI w):iO ba (aE O w w'):=
 aH.imp (λaH k r e=>e.elim (aH k r) λe=>by have:=cv.lt k r;omega) id
theorem iO.mono{aF:Type}{ba:aF->jf}{O O':Nat->Prop}(aH:iO ba O)(h:∀k,O' k->O k):iO ba O':=
 aH.imp (λaH k r e=>aH k r (h k e)) id
abbrev Src(aF:Type):=aF->Pt->aF×List UInt8×Int
structure pL{aF:Type}(ba:aF->jf)(m:aF->Nat)(rd:Src aF)(sv:N):Prop where
 step:∀(s:aF) (p:Pt),m s<=m (rd s p).1+16
 run:∀(s:aF) (w:M) (O:Nat->Prop) (p:Pt) (K:N->M->Prop),16<=m s->ba s w O->cc p->hI w->iO ba O->
 (∀u w',bC w' u (rd s p).2.1.length (br (rd s p).2.1)->(rd s p).2.1.length<=1000000->ba (rd s p).1 w' (aE O w w')->H O w w'->K (.tuple #[u,aa (rd s p).2.2]) w')->Jk prog sv "Read" [.agg (ae p)] w K
def cM{aF:Type}(rd:Src aF)(s:aF)(p:Pt):aF×List Pt×Int:=
 if p=ah then(s,eE,0)else if(rd s p).2.2≠0 then((rd s p).1,eE,(rd s p).2.2)else if(vv (rd s p).2.1).2≠0 then((rd s p).1,eE,21)else((rd s p).1,(vv (rd s p).2.1).1,0)
def uu(p:Pt):Bool:=decide (p=ah)||(jY p&&decide (p.k=3)&&decide (p.l=2))
theorem Jl{aF:Type}(rd:Src aF)(s:aF)(p:Pt):iJ (cM rd s p).2.1:=by
 have g:∀(a:aF) (b:List Pt) (c:Int),iJ b->iJ ((a,b,c):aF×List Pt×Int).2.1:=λ_ _ _ h=>h;have ad1:∀(c:Prop) [Decidable c] (x y:aF×List Pt×Int),iJ x.2.1->iJ y.2.1->iJ (if c then x else y).2.1:=λc _ x y W ar=>by
  grind
 exact ad1 _ _ _ (g _ _ _ rA) (ad1 _ _ _ (g _ _ _ rA) (ad1 _ _ _ (g _ _ _ rA) (g _ _ _ (al_ _))))
theorem ad2(p:Pt)(w:M)(ok:cc p)(cv:hI w):bc prog 149 #[.agg (ae p)] w λv' w'=>v'=.bool (uu p)/\H al w w':=by
 refine bz func149 ntmps149 λbk af=> ?_;have de:=cd ok;have da:=ef ok;have aU:=(H.refl al w).alloc (.cells (ae p) 44);have bu:=cr w (.cells (ae p) 44);have fq:=cv.ch aU λ_ _ e=>e;obtain⟨cs,bv,fr,aN,W,hz⟩:=fq.nO;have wC:∀aO,(w.alloc (.cells (ae p) 44)).1[2]'aO=.cells cs bv fr:=λaO=>by
  grind
 have ho:∀w,(Op.equalIn 10000 44 (.agg (ae p)) (.agg (ae ah))).run prog w=.ok (decide (p=ah)) w:=λw=>tc w ok cH;by_cases am:p=ah
 ·subst am;simp[go_sem,bu,de,da,aN,wC,W,hz,ho];exact af _ _ ⟨by simp[uu],aU⟩
 ·simp[go_sem,bu,de,da,aN,wC,W,hz,ho,am];clear wC aN;obtain⟨g,aH⟩:=aD (w.1.size);rw[aH]at bu⊢;revert aU bu fq;generalize w.alloc (.cells (ae p) 44)=ai;intro aU fq bu;refine(DY p ai ok fq.qQ).mono ?_;rintro _ an ⟨rfl,aK⟩;have cY:=aK.obj bu id;have xG:=(aG cY 0).trans FW;have hB:=(aG cY 1).trans Iu
  cases aC:jY p with
  |false=>
   simp[go_sem];exact af _ _ ⟨by simp[uu,am,aC],aU.trans aK⟩
  |true=>
   by_cases r:p.k=3
   ·by_cases ak:p.l=2
    ·simp[go_sem,xG,hB,r,ak];exact af _ _ ⟨by simp[uu,aC,r,ak],aU.trans aK⟩
    ·have xP:((p.l:Int)==2)=false:=hv (by omega);simp[go_sem,xG,hB,r,xP];exact af _ _ ⟨by simp[uu,am,ak],aU.trans aK⟩
   ·have oD:((p.k:Int)==3)=false:=hv (by omega);simp[go_sem,xG,hB,oD];exact af _ _ ⟨by simp[uu,am,r],aU.trans aK⟩
section
variable {aF:Type}{ba:aF->jf}{m:aF->Nat}{rd:Src aF}{dy:TypeId}{ce sv:N}{s:aF}{w w':M}{O:Nat->Prop}
theorem ED(aA:pL ba m rd sv)(s:aF)(p:Pt):m s<=m (cM rd s p).1+16:=by
 have h:=aA.step s p;unfold cM
 grind
theorem YA(aA:pL ba m rd (.iface dy ce))(aC:16<=m s)(aT:∀s,kB (ba s))(h:ba s w O)(p:Pt)(ok:cc p)(cv:hI w)(aH:iO ba O):
  bc prog 198 #[.iface dy ce,.agg (ae p)] w λv' w'=>v'=.tuple #[.agg (cn (cM rd s p).2.1),aa (cM rd s p).2.2]/\ba (cM rd s p).1 w' (aE O w w')/\H O w w':=by
 refine bz func198 ntmps198 λbk af=> ?_;have de:=cd ok;have da:=ef ok;have o_:=ll rA;have oE:=se rA;have ga:=(aT s).lt h;have aU:=((H.refl al w).alloc (.cells (ae p) 44)).alloc (.cells (cn eE) 339);have bu:=oF w (.cells (ae p) 44) (.cells (cn eE) 339);have bt:=nM w (.cells (ae p) 44) (.cells (cn eE) 339);have fq:=cv.ch aU λ_ _ e=>e;have gZ:((w.alloc (.cells (ae p) 44)).alloc (.cells (cn eE) 339)).1.size=w.1.size+2:=by simp
 obtain⟨cs,bv,fr,EE,W,hz⟩:=cv.nO;have pD:=lt_of_block EE;have Mg:=aU.obj EE id;have ho:∀w,(Op.equalIn 10000 44 (.agg (ae p)) (.agg (ae ah))).run prog w=.ok (decide (p=ah)) w:=λw=>tc w ok cH;have Te:=dJ bt 0;have wC:∀aO,((w.alloc (.cells (ae p) 44)).alloc (.cells (cn eE) 339)).1[2]'aO=.cells cs bv fr:=λaO=>by
  grind
 have ad3:=((H.refl al w).alloc (.cells (ae p) 44)).obj EE id;have ad4:∀aO,(w.alloc (.cells (ae p) 44)).1[2]'aO=.cells cs bv fr:=λaO=>by
  grind
 by_cases am:p=ah
 ·have bj:cM rd s p=(s,eE,0):=by unfold cM;rw[be am]
  rw[bj]at af;subst am;simp[go_sem,de,da,uh,ui,Mg,ad3,wC,ad4,W,hz,ho,Sv,o_,oE,bS];exact af _ _ ⟨rfl,(aT s).eK ((aT s).ch h (aU.setRow (.inr (by omega)) _) λ_ _ e=>e) (λk r=>.inl r) (aE.lt ga (by simp;omega)),(aU.setRow (.inr (by omega)) _).mono λ_ _ e=>e.elim⟩
 ·simp[go_sem,de,da,uh,ui,Mg,ad3,wC,ad4,W,hz,ho,am];have J:=(aT s).ch h aU λ_ _ e=>e;have ff:∀j,w.1.size<=j->¬O j:=λj I e=>by have:=ga j e;omega
  have mg:=aU.size;obtain⟨V,ax⟩:=aD (rd s p);have bU:∀{Y:M} {W1:M} {x:aF×List Pt×Int},cM rd s p=x->ba x.1 Y (aE O W1 Y)->w.1.size<=W1.1.size->W1.1.size<=Y.1.size->H O w Y->bk (.tuple #[.agg (cn x.2.1),aa x.2.2]) Y:=λ{Y W1 x} e a b c d=>by
   subst e;exact af _ _ ⟨rfl,(aT _).eK a (λk r=>r.imp id λe=>⟨by omega,e.2⟩) (aE.lt ga (by omega)),d⟩
  clear af ad4 ad3;revert J bu bt gZ aU fq Te Mg wC mg;generalize(w.alloc (.cells (ae p) 44)).alloc (.cells (cn eE) 339)=ai;intro aU bu bt fq gZ Mg Te wC J mg;refine aA.run s ai O p _ aC J ok fq aH λu an dR dm T aK=> ?_;have mj:=aH.cv fq aK ⟨_,T⟩ λ_ _ e=>e;have jS:=aK.obj bt (ff _ (by omega));have kg:=aK.size;have gx:H O w an:=(aU.mono λ_ _ e=>e.elim).trans aK;rw[ax]at dR dm T⊢;have ayE:=dJ jS 0;have t0:cM rd s p=if V.2.2≠0 then(V.1,eE,V.2.2)else if(vv V.2.1).2≠0 then(V.1,eE,21)else(V.1,(vv V.2.1).1,0):=by
   unfold cM;rw[aQ am,ax]
  have Mh:∀{Y:M} {x:aF×List Pt×Int},cM rd s p=x->x.1=V.1->H al an Y->bk (.tuple #[.agg (cn x.2.1),aa x.2.2]) (Y.setRow (w.1.size+1) (cn x.2.1)):=λ{Y x} e aL c=>by
   have dA:H (aj (w.1.size+1)) an (Y.setRow (w.1.size+1) (cn x.2.1)):=(c.mono (S':=aj (w.1.size+1)) λ_ _ e=>e.elim).setRow (.inl rfl) _;have Cz:=dA.size;refine bU (W1:=ai) e ?_ (by omega) (by omega) (gx.bZ dA λk r e=>by simp only[aj]at e;omega);rw[aL];exact(aT V.1).eK ((aT V.1).ch T dA λk r e=>by simp only[aj]at e;exact r.elim (ff k (by omega)) λe=>by omega) (λk r=>r.imp id λe=>⟨e.1,by omega⟩) (aE.lt (λk r=>by have:=ga k r;omega) (by omega))
  by_cases aV:V.2.2=0
  ·rw[aQ (by omega)]at t0;simp[go_sem,aV];refine(ayF u V.2.1 an dm dR mj.qQ).mono ?_;rintro _ aJ ⟨rfl,aI⟩;have mC:=al_ V.2.1;obtain⟨zh,ad5⟩:=aD ((vv V.2.1).1);obtain⟨nD,ad6⟩:=aD ((vv V.2.1).2);rw[ad5]at mC t0⊢;rw[ad6]at t0⊢;have CA:=ll mC;have EF:=se mC;have jK:=aI.obj jS id;have bo:=aI.alloc (.cells (cn eE) 339);have m_:=((H.refl al aJ).alloc (.cells (cn eE) 339)).obj jK id;have sj:=((H.refl al aJ).alloc (.cells (cn zh) 339)).obj jK id;by_cases er:nD=0
   ·rw[aQ (by omega)]at t0;subst er;simp[go_sem,uh,ui,CA,EF,o_,oE,m_,sj,bS];have:=Mh t0 rfl (aI.alloc (.cells (cn zh) 339));exact this
   ·rw[be er]at t0;have Tf:(nD==0)=false:=hv er;simp[go_sem,uh,ui,CA,EF,o_,oE,m_,sj,bS,er,Tf,bne,Sv];have:=Mh t0 rfl (aI.alloc (.cells (cn zh) 339));exact this
  ·rw[be aV]at t0;have qW:(V.2.2==0)=false:=hv aV;simp[go_sem,aV,qW,bne,Sv,jS,o_,oE,bS];have:=Mh t0 rfl (H.refl al an);exact this
end
theorem YB{a V:List UInt8}{n:Nat}(h:a.length=n):dg (a++V) 0 n=(a,V,0):=by
 subst h;simp[dg]
theorem amb(n:Nat)(V:List UInt8):we (dh n++V) 0 n=(V,0):=by
 unfold we;rw[YB (nu n)];have:qM (dh n)=false:=(acp _).2 (by rw[nu]);rw[this];rfl
theorem ayG{x:bF}(ok:fu x)(h:gI x.V=true)(V:List UInt8):Jm (ul x++V) 0=(x,V,0):=by
 have ak:=alm ok;have hf:si (ul x++V) 0=(ci x.k 1,dh 1++(ci x.n 2++(ci x.s 4++(kf x.V++(dh 56++V)))),0):=by
  unfold si;rw[alk];simp only[nv];exact YB (ku _ _)
 have eI:cf (ul x++V) 0=(ci x.n 2++(ci x.s 4++(kf x.V++(dh 56++V))),0):=by
  unfold cf;rw[hf];exact amb 1 _
 have jd:wD (ul x++V) 0=(ci x.n 2,ci x.s 4++(kf x.V++(dh 56++V)),0):=by
  unfold wD;rw[eI];exact YB (ku _ _)
 have fQ:CB (ul x++V) 0=(ci x.s 4,kf x.V++(dh 56++V),0):=by
  unfold CB;rw[jd];exact YB (ku _ _)
 have hw:AV (ul x++V) 0=(x.V,dh 56++V,0):=by
  unfold AV;rw[fQ];exact al8 ok.V h _
 have vj:YC (ul x++V) 0=(V,0):=by
  unfold YC;rw[hw];have:(128 -((ul x++V).length:Int)+(x.V,dh 56++V,(0:Int)).2.1.length).toNat=56:=by
   simp only[kR,ak,nu];omega
  rw[this];exact amb 56 V
 unfold Jm;rw[hf,jd,fQ,hw,vj];have r:=ok.k;have aq:=ok.n;have aA:=ok.s;simp only[RM,Cb (show x.k<256^1 by omega),Cb (show x.n<256^2 by omega),Cb (show x.s<256^4 by omega)]
theorem ayH{xs:List bF}(ok:∀x∈xs,fu x)(h:xs.all fc=true)(V:List UInt8):∀k,k<=xs.length->kU k (my xs++V) 0=(xs.take k,my (xs.drop k)++V,0):=by
 intro k
 induction k with
 |zero=>intro _;simp[kU]
 |succ k bL=>
  intro r;have aO:k<xs.length:=by omega
  simp only[kU,bL (by omega)];have aL:=xD aO;have aR:my (xs.drop k)++V=ul xs[k]++(my (xs.drop (k+1))++V):=by
   rw[aL,my,Au,nv];rfl
  rw[aR,ayG (ok _ (wj aO)) (Yy.2 (awV (vg.1 h _ (wj aO)))),nA,d_ aO];rfl
theorem amc{xs:List bF}(ok:me xs)(h:xs.all fc=true):sk (my xs)=(xs,0):=by
 have:=ayH ok.all h [] 4 (by rw[ok.len];omega);rw[mP (by rw[ok.len];omega),Xv (by rw[ok.len];omega),va]at this;unfold sk;rw[this];simp[tf,my,h]
theorem amd(l:List UInt8):me (sk l).1:=by
 unfold sk;split
 ·exact⟨Mi _ _ _,ad7 _ _ _⟩
 ·exact yT
end Go.Proofs.YtoohkhcpboldjaaGreatDoor
namespace Go.Kin
open Go Go.RowKit
def oG(g:Nat)(bv e size:Nat)(n:Nat)(xs:List N):jf:=λw O=>∃v,w.1[g]? =some (.cells #[v] bv (0,0))/\w.ownsRow 0 e size v n xs/\(∀k,v.ownBlock=some k->g<k)/\O g/\(∀k,v.ownBlock=some k->O k)/\∀k,O k->k<w.1.size
theorem oG.ok(g bv e size n:Nat)(xs:List N):kB (oG g bv e size n xs):=
 ⟨λ⟨_,_,_,_,_,_,h⟩=>h,λ⟨v,a,b,c,d,e,f⟩ Z cl=>⟨v,Z.obj a (cl g d),gu b Z λk r=>cl k (e k r),c,d,e,λk r=>gQ (f k r) Z.size⟩,λ⟨v,a,b,c,d,e,_⟩ h h'=>⟨v,a,b,c,h g d,λk r=>h k (e k r),h'⟩⟩
theorem oG.ame{w:M}{g bv e size:Nat}{O:Nat->Prop}(ab:w.1[g]? =some (.cells #[.slice none 0 0] bv (0,0)))(eZ:O g)(ak:∀k,O k->k<w.1.size):oG g bv e size 0 [] w O:=
 ⟨_,ab,pA _ _ _ _,λk r=>by simp[Value.ownBlock]at r,eZ,λk r=>by simp[Value.ownBlock]at r,ak⟩
theorem oG.Pm{w ai:M}{g bv e size fB:Nat}{jn:List N}{v v':N}{O:Nat->Prop}(ab:w.1[g]? =some (.cells #[v] bv (0,0)))(aq:∀k,v.ownBlock=some k->g<k)(eZ:O g)(g_:∀k,v.ownBlock=some k->O k)(ak:∀k,O k->k<w.1.size)
  (own:ai.ownsRow 0 e size v' fB jn)(Z:H (λk=>v.ownBlock=some k) w ai)(bP:v'.ownBlock=v.ownBlock\/gr w.1.size v')(aO:∀k,v'.ownBlock=some k->k<ai.1.size):
  oG g bv e size fB jn (ai.setCell ⟨g,0,none⟩ v') (aE O w (ai.setCell ⟨g,0,none⟩ v'))/\H O w (ai.setCell ⟨g,0,none⟩ v'):=by
 have jj:=ak g eZ;have vw:∀k,v'.ownBlock=some k->g<k:=by
  intro k h;rcases bP with bP|bP
  ·rw[bP]at h;exact aq k h
  ·have:=bP k h;omega
 have aY:H (aj g) ai (ai.setCell ⟨g,0,none⟩ v'):=(H.refl (aj g) ai).setCell (p:=bl g 0) (.inl rfl) v';have ayI:H O w ai:=Z.mono λk _ r=>g_ k r;have amf:H O w (ai.setCell ⟨g,0,none⟩ v'):=ayI.setCell (p:=bl g 0) (.inl eZ) v';refine⟨⟨v',?_,gu own aY λk r e=> ?_,vw,.inl eZ,λk r=> ?_,aE.lt ak amf.size⟩,amf⟩
 ·rw[eU,Z.obj ab (λe=>FX _ (aq _ e)),fU];rfl
 ·simp only[aj]at e
  grind
 ·rcases bP with bP|bP
  ·rw[bP]at r;exact .inl (g_ k r)
  ·exact .inr ⟨bP k r,by simp_all⟩
end Go.Kin
namespace Go.Proofs.YtoohkhcpboldjaaGreatDoor
open Go.RowKit Go.Kin Tryz
def AW(w:M)(g:Nat)(off:Bool)(dS:Int):Prop:=w.1[g]? =some (.cells #[.bool off,aa dS] 176 (0,0))
theorem AW.ch{S:Nat->Prop}{w w':M}{g:Nat}{off:Bool}{dS:Int}(h:AW w g off dS)(Z:H S w w')(aq:¬S g):AW w' g off dS:=Z.obj h aq
theorem ayJ(w:M):bc prog 53 #[] w λv' w'=>v'=.pointer (some ⟨w.1.size,0,none⟩)/\AW w' w.1.size false (-1)/\H al w w'/\w'.1.size=w.1.size+1:=by
 refine bz func53 ntmps53 λbk af=> ?_;simp[go_sem];exact af _ _ ⟨rfl,heap_alloc_new w _,(H.refl al w).alloc _,by simp⟩
theorem amg(g:Nat)(off:Bool)(dS:Int)(w:M)(h:AW w g off dS):bc prog 75 #[az g] w λv' w'=>v'=.bool (!off)/\w'=w:=by
 have bi:=aG h 0;refine bz func75 ntmps75 λbk af=> ?_;simp[go_sem,bi];exact af _ _ ⟨rfl,rfl⟩
def vx(off:Bool)(dS:Int):Bool×Bool×Int:=if off then(false,true,dS)else if dS=0 then(false,true, -1)else if 0<dS then(true,false,dS - 1)else(true,false,dS)
theorem ad8(g:Nat)(off:Bool)(dS:Int)(w:M)(h:AW w g off dS)(aC:dS<=9223372036854775807):bc prog 128 #[az g] w λv' w'=>
  v'=.bool (vx off dS).1/\AW w' g (vx off dS).2.1 (vx off dS).2.2/\H (aj g) w w'/\w'.1.size=w.1.size:=by
 have bi:=aG h;have bP:=dJ h;refine bz func128 ntmps128 λbk af=> ?_;simp[go_sem];refine(amg g off dS w h).mono ?_;rintro _ w ⟨rfl,rfl⟩
 cases off
 ·by_cases hz:dS=0
  ·subst hz;have aL:(w.setCell ⟨g,0,none⟩ (.bool true)).1[g]? =some (.cells #[.bool true,aa 0] 176 (0,0)):=by rw[eU,h,fU];simp
   have J:=aG aL;have CC:=dJ aL;simp[go_sem,bi,bP,J,CC];refine af _ _ ⟨rfl,?_,((H.refl (aj g) _).setCell (p:=bl g 0) (.inl rfl) _).setCell (p:=bl g 1) (.inl rfl) _,by simp[World.setCell]⟩;unfold AW;rw[eU,aL,fU];simp[vx]
  ·have zi:(dS==0)=false:=by simpa using hz
   by_cases am:0<dS
   ·have bM:IntKind.i64.wrap (dS - 1)=dS - 1:=by simp[cz];omega
    simp[go_sem,bi,bP,zi,am,bM];refine af _ _ ⟨by simp[vx,hz,am],?_,(H.refl (aj g) _).setCell (p:=bl g 1) (.inl rfl) _,by simp[World.setCell]⟩;unfold AW;rw[eU,h,fU];simp[vx,hz,am]
   ·simp[go_sem,bi,zi,am];exact af _ _ ⟨by simp[vx,hz,am],by simpa[vx,hz,am]using h,H.refl _ _,rfl⟩
 ·simp[go_sem];exact af _ _ ⟨by simp[vx],by simpa[vx]using h,H.refl _ _,rfl⟩
def ty(w:M)(p:Nat)(P:eL):Prop:=AW w p P.off P.dS
theorem ad9(P:eL):vx P.off P.dS=(P.bX,P.step.off,P.step.dS):=by
 obtain⟨off,dS⟩:=P;unfold vx eL.bX eL.step
 grind
def AX(w:M)(bw:Nat->Prop)(v:N)(b:cW):Prop:=bC w v b.length (br b)/\∀k,v.ownBlock=some k->bw k/\k<w.1.size
def CD(w:M)(g:Nat)(m:Nat->Option cW)(bw:Nat->Prop):Prop:=∃a',o' w g a'/\∀a,(m a=none->a' a=none)/\∀b,m a=some b->∃v,a' a=some v/\AX w bw v b
def Mj(w:M)(g:Nat)(s:Nat->Bool):Prop:=∃a',o' w g a'/\∀a,(a' a).getD (.bool false)=.bool (s a)
def rJ(x:Nat×N):Array N:=#[.int .u16 x.1,x.2]
theorem ad_(l:List (Nat×N)):∀x∈l,(rJ x).size=2:=λ_ _=>rfl
structure zj(w:M)(v:N)(c:List (Nat×cW))(bw:Nat->Prop)(cB:List (Nat×N)):Prop where
 own:w.ownsRow 0 178 2 v c.length (ei rJ cB)
 len:cB.length=c.length
 Pn:∀(i a:Nat) (b:cW),c[i]? =some (a,b)->∃u,cB[i]? =some (a,u)/\AX w bw u b
def GK(w:M)(v:N)(a:Option Nat)(bw:Nat->Prop):Prop:=match a with
 |none=>v=.pointer none
 |some a=>∃x,v=az x/\w.1[x]? =some (.cells #[.int .u16 a] 39 (0,0))/\bw x
structure qm where
 jL:Nat
 bb:Nat
 oH:Nat
 dY:N
 mz:N
def CE(n p:Nat)(z:qm)(D:cb):Array N:=#[aa n,az p,.map (some z.jL),z.dY,.map (some z.bb),.map (some z.oH),.bool D.bY,.bool D.wE,z.mz]
def qm.X(z:qm)(d:Nat):Nat->Prop:=λk=>k=d\/k=z.jL\/k=z.bb\/k=z.oH\/z.dY.ownBlock=some k
structure g'(w:M)(d p n:Nat)(D:cb)(O:Nat->Prop)(z:qm)(cB:List (Nat×N))(bw:Nat->Prop):Prop where
 blk:w.1[d]? =some (.cells (CE n p z D) 138 (0,0))
 pb:CD w z.jL D.m bw
 dN:Mj w z.bb D.dN
 stuck:Mj w z.oH D.stuck
 bT:zj w z.dY D.bT bw cB
 gl:GK w z.mz D.gl bw
 iN:∀k,z.X d k->O k
 GL:∀k,bw k->O k
 pM:∀k,bw k->¬z.X d k
 ne:z.jL≠z.bb/\z.jL≠z.oH/\z.bb≠z.oH/\z.dY.ownBlock≠some d
 ok:D.fL n
 ih:∀k,O k->k<w.1.size
def Jn(w:M)(d p n:Nat)(D:cb)(O:Nat->Prop):Prop:=∃z cB bw,g' w d p n D O z cB bw
section
variable {w w':M}{S bw Y':Nat->Prop}
theorem AX.ch{v:N}{b:cW}(h:AX w bw v b)(Z:H S w w')(aq:∀k,bw k->¬S k):AX w' bw v b:=
 ⟨h.1.ch Z λk r=>aq k (h.2 k r).1,λk r=>⟨(h.2 k r).1,gQ (h.2 k r).2 Z.size⟩⟩
theorem AX.mono{v:N}{b:cW}(h:AX w bw v b)(ar:∀k,bw k->Y' k):AX w Y' v b:=⟨h.1,λk r=>⟨ar k (h.2 k r).1,(h.2 k r).2⟩⟩
theorem CD.ch{g:Nat}{m:Nat->Option cW}(h:CD w g m bw)(Z:H S w w')(aH:¬S g)(aq:∀k,bw k->¬S k):CD w' g m bw:=by
 obtain⟨a',J,T⟩:=h;refine⟨a',J.ch Z aH,λa=>⟨(T a).1,λb ab=> ?_⟩⟩;obtain⟨v,ag,aP⟩:=(T a).2 b ab;exact⟨v,ag,aP.ch Z aq⟩
theorem CD.mono{g:Nat}{m:Nat->Option cW}(h:CD w g m bw)(ar:∀k,bw k->Y' k):CD w g m Y':=by
 obtain⟨a',J,T⟩:=h;refine⟨a',J,λa=>⟨(T a).1,λb ab=> ?_⟩⟩;obtain⟨v,ag,aP⟩:=(T a).2 b ab;exact⟨v,ag,aP.mono ar⟩
theorem Mj.ch{g:Nat}{s:Nat->Bool}(h:Mj w g s)(Z:H S w w')(aH:¬S g):Mj w' g s:=by
 obtain⟨a',J,T⟩:=h;exact⟨a',J.ch Z aH,T⟩
theorem zj.ch{v:N}{c:List (Nat×cW)}{cB:List (Nat×N)}(h:zj w v c bw cB)(Z:H S w w')(aM:∀k,v.ownBlock=some k->¬S k)(aq:∀k,bw k->¬S k):zj w' v c bw cB:=by
 refine⟨gu h.own Z aM,h.len,λi a b ad=> ?_⟩;obtain⟨u,J,T⟩:=h.Pn i a b ad;exact⟨u,J,T.ch Z aq⟩
theorem zj.mono{v:N}{c:List (Nat×cW)}{cB:List (Nat×N)}(h:zj w v c bw cB)(ar:∀k,bw k->Y' k):zj w v c Y' cB:=by
 refine⟨h.own,h.len,λi a b ad=> ?_⟩;obtain⟨u,J,T⟩:=h.Pn i a b ad;exact⟨u,J,T.mono ar⟩
theorem zj.nil(w:M)(bw:Nat->Prop):zj w (.slice none 0 0) [] bw []:=⟨pA _ _ _ _,rfl,λi a b h=>by simp at h⟩
theorem GK.ch{v:N}{a:Option Nat}(h:GK w v a bw)(Z:H S w w')(aq:∀k,bw k->¬S k):GK w' v a bw:=by
 cases a with
 |none=>exact h
 |some a=>
  obtain⟨x,J,T,ag⟩:=h;exact⟨x,J,Z.obj T (aq x ag),ag⟩
theorem GK.mono{v:N}{a:Option Nat}(h:GK w v a bw)(ar:∀k,bw k->Y' k):GK w v a Y':=by
 cases a with
 |none=>exact h
 |some a=>
  obtain⟨x,J,T,ag⟩:=h;exact⟨x,J,T,ar x ag⟩
variable {d p n:Nat}{D:cb}{O O':Nat->Prop}{z:qm}{cB:List (Nat×N)}
theorem g'.lt(h:g' w d p n D O z cB bw):d<w.1.size:=lt_of_block h.blk
theorem g'.Tg(h:g' w d p n D O z cB bw):z.jL≠d/\z.bb≠d/\z.oH≠d:=by
 have key:∀g a',o' w g a'->g≠d:=λg a' aC e=>by
  obtain⟨ha,mD,ab,_⟩:=aC;rw[e,h.blk]at ab
  cases ab
 obtain⟨a',J,_⟩:=h.pb;obtain⟨Pe,T,_⟩:=h.dN;obtain⟨Yn,ag,_⟩:=h.stuck
 grind
theorem g'.Jo(h:g' w d p n D O z cB bw):∀k,z.dY.ownBlock=some k->k≠d/\k≠z.jL/\k≠z.bb/\k≠z.oH:=by
 intro k r;have key:∀g a',o' w g a'->k≠g:=λg a' aC e=>by
  obtain⟨ha,mD,ab,_⟩:=aC;subst e;rcases h.bT.own.2 with⟨aM,_⟩|⟨g,cap,dF,aM,_,aH,_⟩
  ·rw[aM]at r;simp[Value.ownBlock]at r
  ·rw[aM]at r;simp[Value.ownBlock]at r
   grind
 obtain⟨a',J,_⟩:=h.pb;obtain⟨Pe,T,_⟩:=h.dN;obtain⟨Yn,ag,_⟩:=h.stuck;exact⟨λe=>h.ne.2.2.2 (by rw[r,e]),key _ _ J,key _ _ T,key _ _ ag⟩
theorem g'.ch(h:g' w d p n D O z cB bw)(Z:H S w w')(aq:∀k,O k->¬S k):g' w' d p n D O z cB bw:=
 ⟨Z.obj h.blk (aq _ (h.iN _ (.inl rfl))),h.pb.ch Z (aq _ (h.iN _ (.inr (.inl rfl)))) λk r=>aq k (h.GL k r),h.dN.ch Z (aq _ (h.iN _ (.inr (.inr (.inl rfl))))),h.stuck.ch Z (aq _ (h.iN _ (.inr (.inr (.inr (.inl rfl)))))),
  h.bT.ch Z (λk r=>aq k (h.iN _ (.inr (.inr (.inr (.inr r)))))) λk r=>aq k (h.GL k r),h.gl.ch Z λk r=>aq k (h.GL k r),h.iN,h.GL,h.pM,h.ne,h.ok,λk r=>gQ (h.ih k r) Z.size⟩
theorem g'.mono(h:g' w d p n D O z cB bw)(av:∀k,O k->O' k)(ak:∀k,O' k->k<w.1.size):g' w d p n D O' z cB bw:=⟨h.blk,h.pb,h.dN,h.stuck,h.bT,h.gl,λk r=>av k (h.iN k r),λk r=>av k (h.GL k r),h.pM,h.ne,h.ok,ak⟩
theorem Jn.ch(h:Jn w d p n D O)(Z:H S w w')(aq:∀k,O k->¬S k):Jn w' d p n D O:=by
 obtain⟨z,cB,bw,h⟩:=h;exact⟨z,cB,bw,h.ch Z aq⟩
theorem ty.ch{P:eL}(h:ty w p P)(Z:H S w w')(aq:¬S p):ty w' p P:=Z.obj h aq
end
section
variable {w:M}{d p n:Nat}{D:cb}{O bw:Nat->Prop}{z:qm}{cB:List (Nat×N)}
theorem Th(a:Nat)(ao:a<65536)(h:g' w d p n D O z cB bw):bc prog 155 #[az d,.int .u16 a] w λv' w'=>v'=.bool (decide (a<n))/\w'=w:=by
 refine bz func155 ntmps155 λbk af=> ?_;have gs:w.cell? (bl d 0)=some (aa n):=aG h.blk 0;have bM:IntKind.i64.wrap (a:Int)=a:=by rw[cz];omega
 simp[go_sem,gs,bM];exact af _ _ ⟨rfl,rfl⟩
theorem amh(h:g' w d p n D O z cB bw):bc prog 92 #[az d] w λv' w'=>v'=.bool D.bY/\w'=w:=by
 refine bz func92 ntmps92 λbk af=> ?_;have cF:w.cell? (bl d 6)=some (.bool D.bY):=aG h.blk 6;simp[go_sem,cF];exact af _ _ ⟨rfl,rfl⟩
theorem ayK{w:M}{e s n:Nat}{v:N}{xs:List N}(h:w.ownsRow 0 e s v n xs){t ek:TypeId}(bj:prog.underlying t=some (.slice ek))(bV:TypeId)(w':M):(Builtin.len_ #[t] bV #[v]).run prog w'=.ok (aa n) w':=by
 rcases h.2 with⟨rfl,rfl⟩|⟨g,cap,dF,rfl,_⟩<;>simp[Builtin.len_,run_underlying bj,goInt]
def vy(D:cb)(P:eL):Int:=if D.gb P then 0 else 3
theorem ad'(P:eL)(h:g' w d p n D O z cB bw)(am:ty w p P):bc prog 186 #[az d] w λv' w'=>v'=aa (vy D P)/\w'=w:=by
 refine bz func186 ntmps186 λbk af=> ?_;have aY:w.cell? (bl d 1)=some (az p):=aG h.blk 1;have cF:w.cell? (bl d 6)=some (.bool D.bY):=aG h.blk 6
 cases bm:D.bY with
 |true=>
  rw[bm]at cF;simp[go_sem,aY,cF];exact af _ _ ⟨by simp[vy,cb.gb,bm],rfl⟩
 |false=>
  rw[bm]at cF;simp[go_sem,aY,cF];refine(amg p P.off P.dS w am).mono ?_;rintro _ w' ⟨rfl,bM⟩;subst w'
  cases av:P.off
  ·simp[go_sem];exact af _ _ ⟨by simp[vy,cb.gb,bm,av],rfl⟩
  ·simp[go_sem];exact af _ _ ⟨by simp[vy,cb.gb,bm,av],rfl⟩
theorem g'.own(h:g' w d p n D O z cB bw){w':M}{D':cb}{z':qm}(ab:w'.1[d]? =some (.cells (CE n p z' D') 138 (0,0)))(Z:H (λk=>k=d\/z.dY.ownBlock=some k) w w')
  (aC:D'.m=D.m)(wF:D'.dN=D.dN)(eS:D'.stuck=D.stuck)(hz:z'.jL=z.jL/\z'.bb=z.bb/\z'.oH=z.oH){ami:List (Nat×N)}{Y' O':Nat->Prop}(GM:zj w' z'.dY D'.bT Y' ami)(has:GK w' z'.mz D'.gl Y')(fs:D'.fL n)
  (jB:∀k,z'.dY.ownBlock=some k->O' k/\¬Y' k/\k≠d)(eZ:∀k,O k->O' k)(jm:∀k,bw k->Y' k)(ws:∀k,Y' k->O' k/\k≠d/\k≠z.jL/\k≠z.bb/\k≠z.oH)(AY:∀k,O' k->k<w'.1.size):g' w' d p n D' O' z' ami Y':=by
 obtain⟨aL,aR,dB⟩:=hz;obtain⟨iW,kh,jP⟩:=h.Tg;have Jp:∀k,bw k->¬(k=d\/z.dY.ownBlock=some k):=λk r e=>e.elim (ws k (jm k r)).2.1 λe=>h.pM k r (.inr (.inr (.inr (.inr e))));have aH:∀g,g≠d->(g=z.jL\/g=z.bb\/g=z.oH)->¬(g=d\/z.dY.ownBlock=some g):=λg J T e=>e.elim J λe=>by
  obtain⟨_,cC,cj,cp⟩:=h.Jo g e;omega
 refine⟨ab,?_,?_,?_,GM,has,?_,λk r=>(ws k r).1,?_,?_,fs,AY⟩
 ·rw[aL,aC];exact(h.pb.ch Z (aH _ iW (.inl rfl)) Jp).mono jm
 ·rw[aR,wF];exact h.dN.ch Z (aH _ kh (.inr (.inl rfl)))
 ·rw[dB,eS];exact h.stuck.ch Z (aH _ jP (.inr (.inr rfl)))
 ·rintro k (r|r|r|r|r)
  ·exact eZ k (h.iN k (.inl r))
  ·exact eZ k (h.iN k (.inr (.inl (by rw[<-aL];exact r))))
  ·exact eZ k (h.iN k (.inr (.inr (.inl (by rw[<-aR];exact r)))))
  ·exact eZ k (h.iN k (.inr (.inr (.inr (.inl (by rw[<-dB];exact r))))))
  ·exact(jB k r).1
 ·rintro k r (W|W|W|W|W)
  ·exact(ws k r).2.1 W
  ·grind
  ·grind
  ·grind
  ·exact(jB k W).2.1 r
 ·rw[aL,aR,dB];exact⟨h.ne.1,h.ne.2.1,h.ne.2.2.1,λe=>(jB d e).2.2 rfl⟩
theorem g'.AZ(h:g' w d p n D O z cB bw):∀k,bw k->O k/\k≠d/\k≠z.jL/\k≠z.bb/\k≠z.oH:=λk r=>
 ⟨h.GL k r,λe=>h.pM k r (.inl e),λe=>h.pM k r (.inr (.inl e)),λe=>h.pM k r (.inr (.inr (.inl e))),λe=>h.pM k r (.inr (.inr (.inr (.inl e))))⟩
theorem g'.Jq(h:g' w d p n D O z cB bw):∀k,z.dY.ownBlock=some k->O k/\¬bw k/\k≠d:=λk r=>⟨h.iN k (.inr (.inr (.inr (.inr r)))),λar=>h.pM k ar (.inr (.inr (.inr (.inr r)))),(h.Jo k r).1⟩
theorem g'.ayL(h:g' w d p n D O z cB bw){i:Nat}{u:N}{D':cb}(aA:(CE n p z D).setIfInBounds i u=CE n p z D')(aC:D'.m=D.m)(Z:D'.bT=D.bT)(ab:D'.dN=D.dN)(eS:D'.stuck=D.stuck)(ao:D'.gl=D.gl):
  g' (w.setCell ⟨d,i,none⟩ u) d p n D' O z cB bw:=by
 have zk:H (aj d) w (w.setCell ⟨d,i,none⟩ u):=(H.refl (aj d) w).setCell (p:=bl d i) (.inl rfl) _;have Jp:∀k,bw k->¬aj d k:=λk r e=>by simp only[aj]at e;exact(h.AZ k r).2.1 e
 refine h.own ?_ (zk.mono λ_ _ e=>.inl e) aC ab eS ⟨rfl,rfl,rfl⟩ ?_ ?_ ⟨by rw[aC];exact h.ok.m,by rw[Z];exact h.ok.bT⟩ h.Jq (λ_=>id) (λ_=>id) h.AZ (λk r=>gQ (h.ih k r) zk.size)
 ·rw[eU,h.blk,fU,<-aA]
 ·rw[Z];exact h.bT.ch zk (λk r e=>by simp only[aj]at e;exact(h.Jo k r).1 e) Jp
 ·rw[ao];exact h.gl.ch zk Jp
end
end Go.Proofs.YtoohkhcpboldjaaGreatDoor
namespace Go.Kin
open Go Go.RowKit
theorem ayM{P:Program}{w:M}{t e bV:TypeId}{z:N}{bytes:Nat}{K:N->M->Prop}(bv:sd P t e z bytes){v y:N}{n m:Nat}{xs ys:List N}(fG:w.ownsRow 0 e 1 v n xs)(aq:0<n)(ar:bC w y m ys)(aC:ys.length=m)(aea:m<=n)(J:∀u∈ys,u.oneCell'=true)
  (h:∀w',w'.ownsRow 0 e 1 v n (ys++xs.drop m)->H (λk=>v.ownBlock=some k) w w'->K (aa m) w'):pN P .copy #[t,t] bV #[v,y] w K:=by
 obtain⟨i,ad,hz,cU,AF⟩:=info_parts bv.yR;have aA:(P.info? e).map (·.size)=some 1:=by rw[ad];simp[cU]
 have go:∀w',(Builtin.copy_ #[t,t] bV #[v,y]).run P w=.ok (aa m) w'->K (aa m) w'->pN P .copy #[t,t] bV #[v,y] w K:=λw' ax r=>by
  unfold pN gH;simp only[ax];exact r
 obtain⟨ak,bm⟩:=fG;rcases bm with⟨_,bi⟩|⟨g,cap,dF,rfl,xK,aH,Cf,pC,fd,Jr⟩
 ·omega
 obtain⟨A,c,rfl,eh,aQR,ax⟩:=ar;by_cases LG:m=0
 ·subst LG;obtain rfl:ys=[]:=wh aC;refine go w (run_copy_none (P:=P) w t t bV e (some ⟨g,0,none⟩) A n cap 0 c bv.oX aA (by simp[Nat.min])) (h w ⟨by simpa using ak,.inr ⟨g,cap,dF,rfl,xK,aH,Cf,pC,fd,by simpa using Jr⟩⟩ (H.refl _ _))
 ·obtain⟨bx,rfl,aeb⟩:=ax (by omega);have qX:0+ys.length<=dF.size:=by omega
  have CF:=run_copy_row (P:=P) w t t bV e g 0 n cap bx m c dF e ys bv.oX aA aH (by grind) aeb qX J;rw[aC]at CF;have jj:=lt_of_block aH;refine go _ CF (h _ ⟨by simp;omega,.inr ⟨g,cap,_,rfl,xK,by rw[gh,aH];rfl,Cf,pC,by simp;omega,?_⟩⟩ (H.setRow (S:=λk=>(Value.slice (some ⟨g,0,none⟩) n cap).ownBlock=some k) (H.refl _ w) (.inl rfl) _));rw[Sc]at Jr⊢;simp only[List.take_zero,xu,xB];rw[List.take_append,mP (by omega),<-Jr,List.drop_take,aC]
theorem aec{P:Program}{w w':M}{gm:Array TypeId}{bV:TypeId}{args:Array N}{v:N}{K:N->M->Prop}(h:(Builtin.delete_ gm bV args).run P w=.ok v w')(r:K v w'):pN P .delete gm bV args w K:=by
 unfold pN gH;simp only[h];exact r
end Go.Kin
namespace Go.Proofs.YtoohkhcpboldjaaGreatDoor
open Go.RowKit Go.Kin Tryz
theorem ayN(w:M):(Instr.makeSlice 101 (aa 512) (aa 512)).run prog w=.ok (.slice (some ⟨w.1.size,0,none⟩) 512 512) (w.alloc (.cells (br Go.Kin.dh).toArray 5)):=amj 512 w (by decide)
theorem ayO(w:M):bC (w.alloc (.cells (br Go.Kin.dh).toArray 5)) (.slice (some ⟨w.1.size,0,none⟩) 512 512) 512 (br Go.Kin.dh):=bC.fF (bC.lit w 5 Go.Kin.dh 512 amk (by decide))
section
variable {w:M}{d p n:Nat}{D:cb}{O bw:Nat->Prop}{z:qm}{cB:List (Nat×N)}
theorem aml(a:Nat)(h:g' w d p n D O z cB bw):bc prog 130 #[az d,.int .u16 a] w λv' w'=>bC w' v' 512 (br (kC D.m a))/\(kC D.m a).length=512/\H al w w':=by
 refine bz func130 ntmps130 λbk af=> ?_;have aK:w.cell? (bl d 2)=some (.map (some z.jL)):=aG h.blk 2;obtain⟨a',aC,hn⟩:=h.pb;have jM:=aC.look_ok underlying133 underlying39 (amm w) a;have cu:=h.ok.block a
 cases Ti:D.m a with
 |none=>
  have aed:=(hn a).1 Ti;rw[aed]at jM;have ls:kC D.m a=Go.Kin.dh:=by simp[kC,Ti]
  have rK:=ayN w;simp at jM;simp[go_sem,aK,jM,rK];exact af _ _ ⟨by rw[ls];exact ayO w,cu,(H.refl al w).alloc _⟩
 |some b=>
  obtain⟨v,aed,aM⟩:=(hn a).2 b Ti;rw[aed]at jM;have ls:kC D.m a=b:=by simp[kC,Ti]
  have ab:=h.ok.m a b Ti;simp at jM;simp[go_sem,aK,jM];exact af _ _ ⟨by rw[ls,<-ab];exact aM.1,cu,H.refl _ _⟩
theorem g'.aee(h:g' w d p n D O z cB bw){w':M}{D':cb}{S Y' O':Nat->Prop}(Z:H S w w')(cl:∀k,S k->k=z.jL\/k=z.bb\/k=z.oH)(aC:CD w' z.jL D'.m Y')(ab:Mj w' z.bb D'.dN)(eS:Mj w' z.oH D'.stuck)
  (e:D'.bT=D.bT/\D'.bY=D.bY/\D'.wE=D.wE/\D'.gl=D.gl)(fs:D'.fL n)(jm:∀k,bw k->Y' k)(eZ:∀k,O k->O' k)(ws:∀k,Y' k->bw k\/w.1.size<=k)(ayP:∀k,Y' k->O' k)(AY:∀k,O' k->k<w'.1.size):g' w' d p n D' O' z cB Y':=by
 obtain⟨aL,aR,dB,dl⟩:=e;obtain⟨iW,kh,jP⟩:=h.Tg;have W:∀k,z.X d k->k<w.1.size:=by
  obtain⟨a',gD,_⟩:=h.pb;obtain⟨Pe,gc,_⟩:=h.dN;obtain⟨Yn,jT,_⟩:=h.stuck;rintro k (rfl|rfl|rfl|rfl|r)
  ·exact h.lt
  ·exact gD.lt
  ·exact gc.lt
  ·exact jT.lt
  ·rcases h.bT.own.2 with⟨aM,_⟩|⟨g,cap,dF,aM,_,aH,_⟩
   ·rw[aM]at r;simp[Value.ownBlock]at r
   ·rw[aM]at r;simp[Value.ownBlock]at r
    grind
 have Tj:∀k,bw k->¬S k:=λk r aA=>by
  rcases cl k aA with e|e|e
  ·exact(h.AZ k r).2.2.1 e
  ·exact(h.AZ k r).2.2.2.1 e
  ·exact(h.AZ k r).2.2.2.2 e
 refine⟨?_,aC,ab,eS,?_,?_,λk r=>eZ k (h.iN k r),ayP,?_,h.ne,fs,AY⟩
 ·have:=Z.am h.blk (λaA=>by
   grind)
  rw[this];unfold CE;rw[aR,dB]
 ·rw[aL];exact(h.bT.ch Z (λk r aA=>by
   obtain⟨_,cC,cj,cp⟩:=h.Jo k r
   grind) Tj).mono jm
 ·rw[dl];exact(h.gl.ch Z Tj).mono jm
 ·intro k r YD;rcases ws k r with ar|ar
  ·exact h.pM k ar YD
  ·have:=W k YD;omega
theorem ayQ(a:Nat)(v:N)(b:cW)(k:Nat)(ab:b.length=512)(r:k<=512)(h:g' w d p n D O z cB bw)(aM:bC w v 512 (br b))(aO:∀j,v.ownBlock=some j->j<w.1.size):
  bc prog 76 #[az d,.agg #[.int .u16 a,v],aa k] w λv' w'=>v'=.tuple #[]/\(∃Y',g' w' d p n (D.pO (a,b) k) (aE O w w') z cB Y'/\(∀j,bw j->Y' j)/\∀j,Y' j->bw j\/w.1.size<=j)/\H (λj=>j=z.jL\/j=z.bb) w w':=by
 refine bz func76 ntmps76 λbk af=> ?_;have au:=(H.refl al w).alloc (.cells #[.int .u16 a,v] 178);have cZ:=cr w (.cells #[.int .u16 a,v] 178);have J:=h.ch au λ_ _ e=>e;have sl:=λi=>aG cZ i;simp[go_sem,sl];revert au cZ J sl;generalize w.alloc (.cells #[.int .u16 a,v] 178)=ai;generalize aH:w.1.size=g;intro au cZ J sl;refine(aml a J).mono ?_;rintro hk an ⟨cR,lh,aK⟩;simp[go_sem];refine(GN hk 512 (kC D.m a) an (by omega) lh cR).mono ?_;rintro v3 aJ ⟨lm,aI,bR⟩;have O_:=aK.trans aI;have ayR:=λi=>aG (O_.am cZ id) i;have amn:=au.trans O_;obtain⟨v4,jo,cI,iV⟩:=(aM.ch amn λ_ _ e=>e).ak9 lE (by rw[eO];exact ab) k r;simp[go_sem,ayR,iV];refine ayM lE lm (by decide) jo (by rw[ol,eO];omega) r (λu ap=>AB _ u (DU ap)) λbs nC bo=> ?_;have zl:∀j,v3.ownBlock=some j->w.1.size<=j:=λj I=>dK (dK au.size aK.size) (bR j I)|>λe=>by have:=aH;omega
 have aef:H al w bs:=amn.bZ bo λj I e=>absurd (zl j e) (by omega);have xL:H al ai bs:=O_.bZ bo λj I e=>by have:=bR j e;have:=aK.size;omega
 have aP:=J.ch xL.drew λ_ _ e=>e;have hl:bs.drew.cell? (bl d 2)=some (.map (some z.jL)):=aG aP.blk 2;have cy:bs.drew.1[g]? =some (.cells #[.int .u16 a,v] 178 (0,0)):=xL.am cZ id;have ayS:=λi=>aG cy i;obtain⟨a',aC,hn⟩:=aP.pb;obtain⟨bD,ap,rF,aS,aQS⟩:=aC.hW underlying133 underlying39 a v3;simp[go_sem];refine cT [F 0,F 1,F 2,F 3,F 4,F 5,F 6,(7,some [])] ?_;simp[go_sem,hl,ayS,ap];have ayT:d≠z.jL/\d≠z.bb/\d≠z.oH:=⟨h.Tg.1.symm,h.Tg.2.1.symm,h.Tg.2.2.symm⟩;have aQT:=aC.lt;have ayU:g≠z.jL/\g≠z.bb:=by
  obtain⟨ayV,CG,_⟩:=h.pb;obtain⟨GC,gD,_⟩:=h.dN;have:=CG.lt;have:=gD.lt;omega
 have dG:=aS.drew.am aP.blk ayT.1;have iB:bD.drew.cell? (bl d 4)=some (.map (some z.bb)):=aG dG 4;have ayW:=λi=>aG (aS.drew.am cy ayU.1) i;obtain⟨Pe,pc,ayX⟩:=aP.dN.ch aS.drew h.ne.1.symm;obtain⟨cD,AM,adx,dH,zd⟩:=pc.del underlying135 underlying39 a 0;refine cT [F 0,F 1,F 2,F 3,F 4,F 5,(6,some [])] ?_;simp[go_sem,iB,ayW];refine aec AM ?_;simp[go_sem];have Po:H (λj=>j=z.jL\/j=z.bb) w cD:=((aef.drew.mono λ_ _ e=>e.elim).bZ aS λj _ e=>.inl e).drew.bZ dH λj _ e=>.inr e;have IM:∀j,bw j->j≠z.jL/\j≠z.bb:=λj I=>⟨(h.AZ j I).2.2.1,(h.AZ j I).2.2.2.1⟩;have wG:H (λj=>j=z.jL\/j=z.bb) bs.drew cD:=((aS.mono λj _ e=>.inl e).drew.bZ dH λj _ e=>.inr e);have aQU:z.jL<w.1.size/\z.bb<w.1.size:=by
  obtain⟨ayV,CG,_⟩:=h.pb;obtain⟨GC,gD,_⟩:=h.dN;exact⟨CG.lt,gD.lt⟩
 have ayY:∀j,v3.ownBlock=some j->¬(j=z.jL\/j=z.bb):=λj I e=>by have:=zl j I;omega
 have amo:∀j,v3.ownBlock=some j->j<cD.1.size:=λj I=>by
  have:j<bs.1.size:=by
   rcases nC.2 with⟨_,bi⟩|⟨g,cap,dF,aM,_,aH,_⟩
   ·omega
   ·rw[aM]at I;simp[Value.ownBlock]at I
    grind
  simp_all
 have A_:bC cD v3 512 (br (b.take k++(kC D.m a).drop k)):=by
  have e:br (b.take k++(kC D.m a).drop k)=(br b).take k++(br (kC D.m a)).drop k:=by rw[Gc];simp[br,LB,OI]
  rw[e];exact(bC.fF (gu (gu nC (H.refl al bs).drew λ_ _ e=>e) wG ayY))
 have cu:(b.take k++(kC D.m a).drop k).length=512:=by simp;omega
 refine af _ _ ⟨rfl,⟨λj=>bw j\/v3.ownBlock=some j,?_,λj=>.inl,?_⟩,Po⟩
 ·refine h.aee Po (λj e=>e.imp id .inl) ⟨_,rF.ch (H.refl al bD).drew id|>.ch dH h.ne.1,λx=> ?_⟩ ⟨_,adx,λx=> ?_⟩ (h.stuck.ch Po ?_) ⟨rfl,rfl,rfl,rfl⟩ (h.ok.pO (e:=(a,b)) ab k r) (λj=>.inl) (λj=>.inl) ?_ ?_ (aE.lt h.ih Po.size)
  ·by_cases W:x=a
   ·subst W;simp only[cb.pO,if_true];refine⟨λe=>by simp at e,λc Z=>⟨v3,rfl,?_⟩⟩;simp only[OJ]at Z;subst Z;exact⟨by rw[cu];exact A_,λj I=>⟨.inr I,amo j I⟩⟩
   ·simp only[cb.pO,aQ W];refine⟨(hn x).1,λc Z=> ?_⟩;obtain⟨u,uq,vr⟩:=(hn x).2 c Z;exact⟨u,uq,(vr.ch wG λj I e=>by have:=IM j I;omega).mono λj=>.inl⟩
  ·show((if x=a then none else Pe x).getD (.bool false))=.bool ((D.pO (a,b) k).dN x);by_cases W:x=a
   ·simp[W,cb.pO]
   ·simp only[cb.pO,aQ W];exact ayX x
  ·intro e;rcases e with e|e
   ·exact h.ne.2.1 e.symm
   ·exact h.ne.2.2.1 e.symm
  ·grind
  ·rintro j (I|I)
   ·exact .inl (h.GL j I)
   ·exact .inr ⟨zl j I,amo j I⟩
 grind
end
end Go.Proofs.YtoohkhcpboldjaaGreatDoor
