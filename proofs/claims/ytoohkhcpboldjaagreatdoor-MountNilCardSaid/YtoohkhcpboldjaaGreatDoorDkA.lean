/- What a disk, and what power, is in memory. No condition. -/
import Derived.Test.YtoohkhcpboldjaaGreatDoorInE
import Derived.Test.YtoohkhcpboldjaaGreatDoorOvG
import Derived.ChangeMaps4
set_option maxRecDepth 100000
set_option linter.unusedSimpArgs false
set_option linter.unusedVariables false
namespace Go.Proofs.YtoohkhcpboldjaaGreatDoor
open Go.RowKit Go.Kin
theorem apa(b J:List UInt8)(V:b.length=64):cQ (b++J) 0 64=(b,J,0):=by
 simp[cQ,V]
theorem aer{p:Pt}(ok:bN p)(h:fy p=true)(J:List UInt8):oy (jq p++J) 0=(p,J,0):=by
 have al:=Ax ok;unfold oy;rw[apa _ _ al];simp only[al,Nat.lt_irrefl,if_false];rw[if_pos (aoi ok (RF.1 h)),Jb ok]
theorem apb{ps:List Pt}(ok:∀p∈ps,bN p)(h:ps.all fy=true)(J:List UInt8):∀k,k<=ps.length->iA k (lS ps++J) 0=(ps.take k,lS (ps.drop k)++J,0):=by
 intro k
 induction k with
 |zero=>intro _;simp[iA]
 |succ k bG=>
  intro r;have aO:k<ps.length:=by omega
  simp only[iA,bG (by omega)];have aK:=List.drop_eq_getElem_cons aO;have aW:lS (ps.drop k)++J=jq ps[k]++(lS (ps.drop (k+1))++J):=by
   rw[aK,lS,List.flatMap_cons,List.append_assoc];rfl
  rw[aW,aer (ok _ (List.getElem_mem aO)) (List.all_eq_true.1 h _ (List.getElem_mem aO)),List.take_add_one,List.getElem?_eq_getElem aO];rfl
theorem aes{ps:List Pt}(ok:hE ps)(h:ps.all fy=true):sT (lS ps)=(ps,0):=by
 have:=apb ok.all h [] 8 (by rw[ok.len];omega);rw[List.take_of_length_le (by rw[ok.len];omega),List.drop_of_length_le (by rw[ok.len];omega),List.append_nil]at this;unfold sT;rw[this];simp[rf,lS]
theorem aet(l:List UInt8):hE (sT l).1:=by
 unfold sT;split
 ·exact⟨RG _ _ _,aeu _ _ _⟩
 ·exact pL
end Go.Proofs.YtoohkhcpboldjaaGreatDoor
namespace Go.Kin
open Go Go.RowKit
def ax(O:Nat->Prop)(w w':World):Nat->Prop:=λk=>O k\/(w.1.size<=k/\k<w'.1.size)
theorem ax.lt{O:Nat->Prop}{w w':World}(h:∀k,O k->k<w.1.size)(aw:w.1.size<=w'.1.size):∀k,ax O w w' k->k<w'.1.size:=λk r=>r.elim (λe=>Nat.lt_of_lt_of_le (h k e) aw) λe=>e.2
abbrev h_:=World->(Nat->Prop)->Prop
structure kk(bc:h_):Prop where
 lt:∀{w O},bc w O->∀k,O k->k<w.1.size
 ch:∀{w w' O S},bc w O->D S w w'->(∀k,O k->¬S k)->bc w' O
 ex:∀{w O O'},bc w O->(∀k,O k->O' k)->(∀k,O' k->k<w.1.size)->bc w O'
def pO(yO yP:h_):h_:=λw O=>∃fP iK,yO w fP/\yP w iK/\(∀k,fP k->¬iK k)/\(∀k,fP k\/iK k->O k)/\∀k,O k->k<w.1.size
theorem pO.ok{yO yP:h_}(H:kk yO)(I:kk yP):kk (pO yO yP):=by
 refine⟨λ⟨_,_,_,_,_,_,h⟩=>h,?_,?_⟩
 ·rintro w w' O S ⟨fP,iK,a,b,c,d,e⟩ T cf;exact⟨fP,iK,H.ch a T λk r=>cf k (d k (.inl r)),I.ch b T λk r=>cf k (d k (.inr r)),c,d,λk r=>Nat.lt_of_lt_of_le (e k r) T.size⟩
 ·rintro w O O' ⟨fP,iK,a,b,c,d,e⟩ h h';exact⟨fP,iK,a,b,c,λk r=>h k (d k r),h'⟩
section
variable{P:Program}{f:FuncId}{args:Array Value}{R:Value->World->Prop}{yO yP bc Jt:h_}{w w':World}{O:Nat->Prop}
theorem pO.aev(h:pO yO yP w O)(H:kk yO)(I:kk yP)(lT:kk Jt)(bU:∀fP,yO w fP->(∀k,fP k->O k)->aP P f args w λv w'=>R v w'/\Jt w' (ax fP w w')/\D fP w w'):
  aP P f args w λv w'=>R v w'/\pO Jt yP w' (ax O w w')/\D O w w':=by
 obtain⟨fP,iK,a,b,c,d,e⟩:=h;refine(bU fP a λk r=>d k (.inl r)).mono ?_;rintro v w' ⟨x,y,z⟩;refine⟨x,⟨_,_,y,I.ch b z λk r e=>c k e r,λk r V=> ?_,λk r=> ?_,ax.lt e z.size⟩,z.mono λk _ r=>d k (.inl r)⟩
 ·rcases r with r|r
  ·exact c k r V
  grind
 ·rcases r with(r|r)|r
  ·exact .inl (d k (.inl r))
  ·exact .inr r
  ·exact .inl (d k (.inr r))
theorem pO.WR(h:pO yO yP w O)(H:kk yO)(I:kk yP)(bU:∀fP,yP w fP->(∀k,fP k->O k)->aP P f args w λv w'=>R v w'/\Jt w' (ax fP w w')/\D fP w w'):
  aP P f args w λv w'=>R v w'/\pO yO Jt w' (ax O w w')/\D O w w':=by
 obtain⟨fP,iK,a,b,c,d,e⟩:=h;refine(bU iK b λk r=>d k (.inr r)).mono ?_;rintro v w' ⟨x,y,z⟩;refine⟨x,⟨_,_,H.ch a z λk r e=>c k r e,y,λk r V=> ?_,λk r=> ?_,ax.lt e z.size⟩,z.mono λk _ r=>d k (.inr r)⟩
 ·rcases V with V|V
  ·exact c k r V
  grind
 ·rcases r with r|r|r
  ·exact .inl (d k (.inl r))
  ·exact .inl (d k (.inr r))
  ·exact .inr r
end
section
variable{P:Program}{f:FuncId}{args:Array Value}{R:Value->World->Prop}{bc Jt:h_}{N w w':World}{l:List h_}
end
end Go.Kin
namespace Go.Proofs.YtoohkhcpboldjaaGreatDoor
open Go.RowKit Go.Kin
def aew(w:World):Prop:=∃cs bl fr,w.1[2]? =some (.cells cs bl fr)/\cs.extract 0 41=Y ad/\41<=cs.size
structure hj(w:World):Prop where
 qt:lN w
 mx:aew w
def Ju(k:Nat):Prop:=k=0\/k=2
theorem hj.ch{S:Nat->Prop}{w w':World}(h:hj w)(T:D S w w')(av:∀k,Ju k->¬S k):hj w':=by
 obtain⟨cs,bl,fr,H,I,af⟩:=h.mx;exact⟨h.qt.ch T (av _ (.inl rfl)),cs,bl,fr,T.obj H (av _ (.inr rfl)),I,af⟩
theorem hj.lt{w:World}(h:hj w):∀k,Ju k->k<w.1.size:=λk r=>by
 rcases r with rfl|rfl
 ·exact h.qt.lt
 ·obtain⟨cs,bl,fr,H,_,_⟩:=h.mx;exact lt_of_block H
def ik{ay:Type}(bc:ay->h_)(O:Nat->Prop):Prop:=(∀k,Ju k->¬O k)\/∀s w O,bc s w O->hj w
theorem ik.ck{ay:Type}{bc:ay->h_}{O S:Nat->Prop}{w w':World}{s:ay}(aF:ik bc O)(ck:hj w)(c:D S w w')(h:∃O',bc s w' O')(cf:∀k,Ju k->S k->O k):hj w':=
 aF.elim (λaF=>ck.ch c λk r e=>aF k r (cf k r e)) λaF=>h.elim λO' h=>aF _ _ _ h
theorem ik.cq{ay:Type}{bc:ay->h_}{O:Nat->Prop}{w w':World}(aF:ik bc O)(ck:hj w):ik bc (ax O w w'):=
 aF.imp (λaF k r e=>e.elim (aF k r) λe=>by have:=ck.lt k r;omega) id
theorem ik.mono{ay:Type}{bc:ay->h_}{O O':Nat->Prop}(aF:ik bc O)(h:∀k,O' k->O k):ik bc O':=
 aF.imp (λaF k r e=>aF k r (h k e)) id
abbrev Src(ay:Type):=ay->Pt->ay×List UInt8×Int
structure qu{ay:Type}(bc:ay->h_)(m:ay->Nat)(rd:Src ay)(sv:Value):Prop where
 step:∀(s:ay) (p:Pt),m s<=m (rd s p).1+16
 run:∀(s:ay) (w:World) (O:Nat->Prop) (p:Pt) (K:Value->World->Prop),16<=m s->bc s w O->bN p->hj w->ik bc O->
 (∀u w',bD w' u (rd s p).2.1.length (bm (rd s p).2.1)->(rd s p).2.1.length<=1000000->bc (rd s p).1 w' (ax O w w')->D O w w'->K (.tuple #[u,.int .i64 (rd s p).2.2]) w')->GP Tryz.prog sv "Read" [.agg (Y p)] w K
def cv{ay:Type}(rd:Src ay)(s:ay)(p:Pt):ay×List Pt×Int:=
 if p=ad then(s,dY,0)else if(rd s p).2.2≠0 then((rd s p).1,dY,(rd s p).2.2)else if(sT (rd s p).2.1).2≠0 then((rd s p).1,dY,21)else((rd s p).1,(sT (rd s p).2.1).1,0)
def r'(p:Pt):Bool:=decide (p=ad)||(iX p&&decide (p.k=3)&&decide (p.l=2))
theorem Ex{ay:Type}(rd:Src ay)(s:ay)(p:Pt):hE (cv rd s p).2.1:=by
 have g:∀(a:ay) (b:List Pt) (c:Int),hE b->hE ((a,b,c):ay×List Pt×Int).2.1:=λ_ _ _ h=>h;have iY:∀(c:Prop) [Decidable c] (x y:ay×List Pt×Int),hE x.2.1->hE y.2.1->hE (if c then x else y).2.1:=λc _ x y M ar=>by
  grind
 exact iY _ _ _ (g _ _ _ pL) (iY _ _ _ (g _ _ _ pL) (iY _ _ _ (g _ _ _ pL) (g _ _ _ (aet _))))
theorem WS(p:Pt)(w:World)(ok:bN p)(ck:hj w):aP Tryz.prog 149 #[.agg (Y p)] w λW w'=>W=.bool (r' p)/\D ak w w':=by
 refine bn Tryz.func149 Tryz.ntmps149 λaZ Z=> ?_;have cU:=bW ok;have cT:=dW ok;have aY:=(D.refl ak w).alloc (.cells (Y p) 44);have bj:=cl w (.cells (Y p) 44);have eJ:=ck.ch aY λ_ _ e=>e;obtain⟨cs,bl,fr,aD,M,hz⟩:=eJ.mx;have tW:∀aO,(w.alloc (.cells (Y p) 44)).1[2]'aO=.cells cs bl fr:=λaO=>by
  grind
 have gI:∀w,(Op.equalIn 10000 44 (.agg (Y p)) (.agg (Y ad))).run Tryz.prog w=.ok (decide (p=ad)) w:=λw=>sO w ok cE;by_cases ah:p=ad
 ·subst ah;simp[go_sem,bj,cU,cT,aD,tW,M,hz,gI];exact Z _ _ ⟨by simp[r'],aY⟩
 ·simp[go_sem,bj,cU,cT,aD,tW,M,hz,gI,ah];clear tW aD;obtain⟨g,aF⟩:=az (w.1.size);rw[aF]at bj⊢;revert aY bj eJ;generalize w.alloc (.cells (Y p) 44)=ab;intro aY eJ bj;refine(AB p ab ok eJ.qt).mono ?_;rintro _ ai ⟨rfl,aA⟩;have cC:=aA.obj bj id;have qr:=(aG cC 0).trans Cl;have iZ:=(aG cC 1).trans Ef
  cases aH:iX p with
  |false=>
   simp[go_sem];exact Z _ _ ⟨by simp[r',ah,aH],aY.trans aA⟩
  |true=>
   by_cases r:p.k=3
   ·by_cases al:p.l=2
    ·simp[go_sem,qr,iZ,r,al];exact Z _ _ ⟨by simp[r',aH,r,al],aY.trans aA⟩
    ·have yQ:((p.l:Int)==2)=false:=beq_false_of_ne (by omega);simp[go_sem,qr,iZ,r,yQ];exact Z _ _ ⟨by simp[r',ah,al],aY.trans aA⟩
   ·have jX:((p.k:Int)==3)=false:=beq_false_of_ne (by omega);simp[go_sem,qr,iZ,jX];exact Z _ _ ⟨by simp[r',ah,r],aY.trans aA⟩
section
variable{ay:Type}{bc:ay->h_}{m:ay->Nat}{rd:Src ay}{dB:TypeId}{ca sv:Value}{s:ay}{w w':World}{O:Nat->Prop}
theorem AK(aw:qu bc m rd sv)(s:ay)(p:Pt):m s<=m (cv rd s p).1+16:=by
 have h:=aw.step s p;unfold cv
 grind
theorem RH(aw:qu bc m rd (.iface dB ca))(aH:16<=m s)(aN:∀s,kk (bc s))(h:bc s w O)(p:Pt)(ok:bN p)(ck:hj w)(aF:ik bc O):
  aP Tryz.prog 198 #[.iface dB ca,.agg (Y p)] w λW w'=>W=.tuple #[.agg (bZ (cv rd s p).2.1),.int .i64 (cv rd s p).2.2]/\bc (cv rd s p).1 w' (ax O w w')/\D O w w':=by
 refine bn Tryz.func198 Tryz.ntmps198 λaZ Z=> ?_;have cU:=bW ok;have cT:=dW ok;have kG:=kh pL;have mW:=qp pL;have gc:=(aN s).lt h;have aY:=((D.refl ak w).alloc (.cells (Y p) 44)).alloc (.cells (bZ dY) 339);have bj:=oa w (.cells (Y p) 44) (.cells (bZ dY) 339);have ba:=ny w (.cells (Y p) 44) (.cells (bZ dY) 339);have eJ:=ck.ch aY λ_ _ e=>e;have gd:((w.alloc (.cells (Y p) 44)).alloc (.cells (bZ dY) 339)).1.size=w.1.size+2:=by simp
 obtain⟨cs,bl,fr,AL,M,hz⟩:=ck.mx;have nY:=lt_of_block AL;have GQ:=aY.obj AL id;have gI:∀w,(Op.equalIn 10000 44 (.agg (Y p)) (.agg (Y ad))).run Tryz.prog w=.ok (decide (p=ad)) w:=λw=>sO w ok cE;have MF:=dD ba 0;have tW:∀aO,((w.alloc (.cells (Y p) 44)).alloc (.cells (bZ dY) 339)).1[2]'aO=.cells cs bl fr:=λaO=>by
  grind
 have WT:=((D.refl ak w).alloc (.cells (Y p) 44)).obj AL id;have WU:∀aO,(w.alloc (.cells (Y p) 44)).1[2]'aO=.cells cs bl fr:=λaO=>by
  grind
 by_cases ah:p=ad
 ·have bd:cv rd s p=(s,dY,0):=by unfold cv;rw[if_pos ah]
  rw[bd]at Z;subst ah;simp[go_sem,cU,cT,rW,rX,GQ,WT,tW,WU,M,hz,gI,Ms,kG,mW,bQ];exact Z _ _ ⟨rfl,(aN s).ex ((aN s).ch h (aY.setRow (.inr (by omega)) _) λ_ _ e=>e) (λk r=>.inl r) (ax.lt gc (by simp;omega)),(aY.setRow (.inr (by omega)) _).mono λ_ _ e=>e.elim⟩
 ·simp[go_sem,cU,cT,rW,rX,GQ,WT,tW,WU,M,hz,gI,ah];have H:=(aN s).ch h aY λ_ _ e=>e;have eO:∀j,w.1.size<=j->¬O j:=λj F e=>by have:=gc j e;omega
  have lw:=aY.size;obtain⟨J,ap⟩:=az (rd s p);have bL:∀{N:World} {W1:World} {x:ay×List Pt×Int},cv rd s p=x->bc x.1 N (ax O W1 N)->w.1.size<=W1.1.size->W1.1.size<=N.1.size->D O w N->aZ (.tuple #[.agg (bZ x.2.1),.int .i64 x.2.2]) N:=λ{N W1 x} e a b c d=>by
   subst e;exact Z _ _ ⟨rfl,(aN _).ex a (λk r=>r.imp id λe=>⟨by omega,e.2⟩) (ax.lt gc (by omega)),d⟩
  clear Z WU WT;revert H bj ba gd aY eJ MF GQ tW lw;generalize(w.alloc (.cells (Y p) 44)).alloc (.cells (bZ dY) 339)=ab;intro aY bj ba eJ gd GQ MF tW H lw;refine aw.run s ab O p _ aH H ok eJ aF λu ai dI dk I aA=> ?_;have mX:=aF.ck eJ aA ⟨_,I⟩ λ_ _ e=>e;have i_:=aA.obj ba (eO _ (by omega));have jg:=aA.size;have eF:D O w ai:=(aY.mono λ_ _ e=>e.elim).trans aA;rw[ap]at dI dk I⊢;have apc:=dD i_ 0;have t0:cv rd s p=if J.2.2≠0 then(J.1,dY,J.2.2)else if(sT J.2.1).2≠0 then(J.1,dY,21)else(J.1,(sT J.2.1).1,0):=by
   unfold cv;rw[if_neg ah,ap]
  have GR:∀{N:World} {x:ay×List Pt×Int},cv rd s p=x->x.1=J.1->D ak ai N->aZ (.tuple #[.agg (bZ x.2.1),.int .i64 x.2.2]) (N.setRow (w.1.size+1) (bZ x.2.1)):=λ{N x} e aK c=>by
   have dg:D (aj (w.1.size+1)) ai (N.setRow (w.1.size+1) (bZ x.2.1)):=(c.mono (S':=aj (w.1.size+1)) λ_ _ e=>e.elim).setRow (.inl rfl) _;have AM:=dg.size;refine bL (W1:=ab) e ?_ (by omega) (by omega) (eF.bJ dg λk r e=>by simp only[aj]at e;omega);rw[aK];exact(aN J.1).ex ((aN J.1).ch I dg λk r e=>by simp only[aj]at e;exact r.elim (eO k (by omega)) λe=>by omega) (λk r=>r.imp id λe=>⟨e.1,by omega⟩) (ax.lt (λk r=>by have:=gc k r;omega) (by omega))
  by_cases aV:J.2.2=0
  ·rw[if_neg (by omega)]at t0;simp[go_sem,aV];refine(apd u J.2.1 ai dk dI mX.qt).mono ?_;rintro _ aC ⟨rfl,aE⟩;have lx:=aet J.2.1;obtain⟨vW,WV⟩:=az ((sT J.2.1).1);obtain⟨lu,WW⟩:=az ((sT J.2.1).2);rw[WV]at lx t0⊢;rw[WW]at t0⊢;have yR:=kh lx;have AN:=qp lx;have iL:=aE.obj i_ id;have bv:=aE.alloc (.cells (bZ dY) 339);have lU:=((D.refl ak aC).alloc (.cells (bZ dY) 339)).obj iL id;have qv:=((D.refl ak aC).alloc (.cells (bZ vW) 339)).obj iL id;by_cases eb:lu=0
   ·rw[if_neg (by omega)]at t0;subst eb;simp[go_sem,rW,rX,yR,AN,kG,mW,lU,qv,bQ];have:=GR t0 rfl (aE.alloc (.cells (bZ vW) 339));exact this
   ·rw[if_pos eb]at t0;have MG:(lu==0)=false:=beq_false_of_ne eb;simp[go_sem,rW,rX,yR,AN,kG,mW,lU,qv,bQ,eb,MG,bne,Ms];have:=GR t0 rfl (aE.alloc (.cells (bZ vW) 339));exact this
  ·rw[if_pos aV]at t0;have mY:(J.2.2==0)=false:=beq_false_of_ne aV;simp[go_sem,aV,mY,bne,Ms,i_,kG,mW,bQ];have:=GR t0 rfl (D.refl ak ai);exact this
end
theorem RI{a J:List UInt8}{n:Nat}(h:a.length=n):cQ (a++J) 0 n=(a,J,0):=by
 subst h;simp[cQ]
theorem aex(n:Nat)(J:List UInt8):tK (cV n++J) 0 n=(J,0):=by
 unfold tK;rw[RI (lM n)];have:nU (cV n)=false:=(V_ _).2 (by rw[lM]);rw[this];rfl
theorem ape{x:br}(ok:gR x)(h:fy x.J=true)(J:List UInt8):Ey (rY x++J) 0=(x,J,0):=by
 have al:=aeg ok;have ig:rj (rY x++J) 0=(bX x.k 1,cV 1++(bX x.n 2++(bX x.s 4++(jq x.J++(cV 56++J)))),0):=by
  unfold rj;rw[aef];simp only[List.append_assoc];exact RI (jC _ _)
 have fX:bY (rY x++J) 0=(bX x.n 2++(bX x.s 4++(jq x.J++(cV 56++J))),0):=by
  unfold bY;rw[ig];exact aex 1 _
 have jV:tX (rY x++J) 0=(bX x.n 2,bX x.s 4++(jq x.J++(cV 56++J)),0):=by
  unfold tX;rw[fX];exact RI (jC _ _)
 have eQ:yS (rY x++J) 0=(bX x.s 4,jq x.J++(cV 56++J),0):=by
  unfold yS;rw[jV];exact RI (jC _ _)
 have gS:uW (rY x++J) 0=(x.J,cV 56++J,0):=by
  unfold uW;rw[eQ];exact aer ok.J h _
 have uT:Jv (rY x++J) 0=(J,0):=by
  unfold Jv;rw[gS];have:(128 -((rY x++J).length:Int)+(x.J,cV 56++J,(0:Int)).2.1.length).toNat=56:=by
   simp only[List.length_append,al,lM];omega
  rw[this];exact aex 56 J
 unfold Ey;rw[ig,jV,eQ,gS,uT];have r:=ok.k;have av:=ok.n;have aw:=ok.s;simp only[Mb,Nat.mod_eq_of_lt (show x.k<256^1 by omega),Nat.mod_eq_of_lt (show x.n<256^2 by omega),Nat.mod_eq_of_lt (show x.s<256^4 by omega)]
theorem apf{xs:List br}(ok:∀x∈xs,gR x)(h:xs.all fI=true)(J:List UInt8):∀k,k<=xs.length->jY k (lv xs++J) 0=(xs.take k,lv (xs.drop k)++J,0):=by
 intro k
 induction k with
 |zero=>intro _;simp[jY]
 |succ k bG=>
  intro r;have aO:k<xs.length:=by omega
  simp only[jY,bG (by omega)];have aK:=List.drop_eq_getElem_cons aO;have aW:lv (xs.drop k)++J=rY xs[k]++(lv (xs.drop (k+1))++J):=by
   rw[aK,lv,List.flatMap_cons,List.append_assoc];rfl
  rw[aW,ape (ok _ (List.getElem_mem aO)) (RF.2 (aoQ (List.all_eq_true.1 h _ (List.getElem_mem aO)))),List.take_add_one,List.getElem?_eq_getElem aO];rfl
theorem aey{xs:List br}(ok:kW xs)(h:xs.all fI=true):qw (lv xs)=(xs,0):=by
 have:=apf ok.all h [] 4 (by rw[ok.len];omega);rw[List.take_of_length_le (by rw[ok.len];omega),List.drop_of_length_le (by rw[ok.len];omega),List.append_nil]at this;unfold qw;rw[this];simp[rf,lv,h]
theorem aez(l:List UInt8):kW (qw l).1:=by
 unfold qw;split
 ·exact⟨GS _ _ _,WX _ _ _⟩
 ·exact uR
end Go.Proofs.YtoohkhcpboldjaaGreatDoor
namespace Go.Kin
open Go Go.RowKit
def mZ(g:Nat)(bl e size:Nat)(n:Nat)(xs:List Value):h_:=λw O=>∃v,w.1[g]? =some (.cells #[v] bl (0,0))/\w.ownsRow 0 e size v n xs/\(∀k,v.ownBlock=some k->g<k)/\O g/\(∀k,v.ownBlock=some k->O k)/\∀k,O k->k<w.1.size
theorem mZ.ok(g bl e size n:Nat)(xs:List Value):kk (mZ g bl e size n xs):=
 ⟨λ⟨_,_,_,_,_,_,h⟩=>h,λ⟨v,a,b,c,d,e,f⟩ T cf=>⟨v,T.obj a (cf g d),ej b T λk r=>cf k (e k r),c,d,e,λk r=>Nat.lt_of_lt_of_le (f k r) T.size⟩,λ⟨v,a,b,c,d,e,_⟩ h h'=>⟨v,a,b,c,h g d,λk r=>h k (e k r),h'⟩⟩
theorem mZ.aeA{w:World}{g bl e size:Nat}{O:Nat->Prop}(V:w.1[g]? =some (.cells #[.slice none 0 0] bl (0,0)))(eV:O g)(al:∀k,O k->k<w.1.size):mZ g bl e size 0 [] w O:=
 ⟨_,V,World.ownsRow_nil _ _ _ _,λk r=>by simp[Value.ownBlock]at r,eV,λk r=>by simp[Value.ownBlock]at r,al⟩
theorem mZ.Jw{w ab:World}{g bl e size fi:Nat}{il:List Value}{v W:Value}{O:Nat->Prop}(V:w.1[g]? =some (.cells #[v] bl (0,0)))(av:∀k,v.ownBlock=some k->g<k)(eV:O g)(hS:∀k,v.ownBlock=some k->O k)(al:∀k,O k->k<w.1.size)
  (own:ab.ownsRow 0 e size W fi il)(T:D (λk=>v.ownBlock=some k) w ab)(bU:W.ownBlock=v.ownBlock\/fZ w.1.size W)(aO:∀k,W.ownBlock=some k->k<ab.1.size):
  mZ g bl e size fi il (ab.setCell ⟨g,0,none⟩ W) (ax O w (ab.setCell ⟨g,0,none⟩ W))/\D O w (ab.setCell ⟨g,0,none⟩ W):=by
 have iw:=al g eV;have xn:∀k,W.ownBlock=some k->g<k:=by
  intro k h;rcases bU with bU|bU
  ·rw[bU]at h;exact av k h
  ·have:=bU k h;omega
 have aI:D (aj g) ab (ab.setCell ⟨g,0,none⟩ W):=(D.refl (aj g) ab).setCell (p:=⟨g,0,none⟩) (.inl rfl) W;have RJ:D O w ab:=T.mono λk _ r=>hS k r;have aeB:D O w (ab.setCell ⟨g,0,none⟩ W):=RJ.setCell (p:=⟨g,0,none⟩) (.inl eV) W;refine⟨⟨W,?_,ej own aI λk r e=> ?_,xn,.inl eV,λk r=> ?_,ax.lt al aeB.size⟩,aeB⟩
 ·rw[eY,T.obj V (λe=>Nat.lt_irrefl _ (av _ e)),gp];rfl
 ·simp only[aj]at e
  grind
 ·rcases bU with bU|bU
  ·rw[bU]at r;exact .inl (hS k r)
  ·exact .inr ⟨bU k r,by simp_all⟩
open Go.MapKept Go.ChangeMaps
def oF:List MapEntry->Nat->Option Value
 |[],_=>none
 |e::gC,a=>if intOf e.key=(a:Int)then some e.val else oF gC a
structure apg(gC:List MapEntry):Prop where
 yT:∀e∈gC,∃k:Nat,e.key=.int .u16 k
 AO:gC.Pairwise λx y=>intOf x.key≠intOf y.key
def nz(w:World)(b:Nat)(aR:Nat->Option Value):Prop:=∃gC ly,w.1[b]? =some (.map gC ly)/\apg gC.toList/\∀a,oF gC.toList a=aR a
theorem MH{a:Nat}:∀{l:List MapEntry},(∀e∈l,intOf e.key≠(a:Int))->oF l a=none
 |[],_=>rfl
 |e::l,h=>by rw[oF,if_neg (h e (by simp))];exact MH λx M=>h x (by simp[M])
theorem WY{a:Nat}{e:MapEntry}:∀{l:List MapEntry} {j:Nat},l.Pairwise (λx y=>intOf x.key≠intOf y.key)->l[j]? =some e->intOf e.key=(a:Int)->oF l a=some e.val
 |[],_,_,h,_=>by simp at h
 |x::l,0,_,h,r=>by
  simp at h;subst h;rw[oF,if_pos r]
 |x::l,j+1,ah,h,r=>by
  simp at h;have M:=(List.pairwise_cons.1 ah).1 e (List.mem_of_getElem? h);rw[oF,if_neg (by rw[<-r];exact M)];exact WY (List.pairwise_cons.1 ah).2 h r
theorem aeC{a c:Nat}{e:MapEntry}(r:intOf e.key=(c:Int)):∀{l:List MapEntry},(∀x∈l,intOf x.key≠(c:Int))->oF (l++[e]) a=if a=c then some e.val else oF l a
 |[],_=>by
  simp only[List.nil_append,oF,r]
  grind
 |x::l,h=>by
  have M:=h x (by simp);rw[List.cons_append,oF,aeC r λy ar=>h y (by simp[ar])];by_cases rk:a=c
  ·grind
  ·rw[if_neg rk,oF,if_neg rk]
theorem aeD{a c:Nat}{e:MapEntry}(g:MapEntry->MapEntry)(aF:∀x,intOf x.key=(c:Int)->intOf (g x).key=(c:Int))(r:intOf e.key=(c:Int)):
  ∀{l:List MapEntry} {j:Nat},l.Pairwise (λx y=>intOf x.key≠intOf y.key)->l[j]? =some e->oF (l.modify j g) a=if a=c then some (g e).val else oF l a
 |[],_,_,h=>by simp at h
 |x::l,0,ah,h=>by
  simp at h;subst h;simp only[List.modify_zero_cons,oF,aF x r,r]
  grind
 |x::l,j+1,ah,h=>by
  simp at h;have M:=(List.pairwise_cons.1 ah).1 e (List.mem_of_getElem? h);rw[r]at M;rw[List.modify_succ_cons,oF,aeD g aF r (List.pairwise_cons.1 ah).2 h];by_cases rk:a=c
  ·grind
  ·rw[if_neg rk,if_neg rk,oF]
theorem aeE{a c:Nat}{e:MapEntry}(r:intOf e.key=(c:Int)):
  ∀{l:List MapEntry} {j:Nat},l.Pairwise (λx y=>intOf x.key≠intOf y.key)->l[j]? =some e->oF (l.eraseIdx j) a=if a=c then none else oF l a
 |[],_,_,h=>by simp at h
 |x::l,0,ah,h=>by
  simp at h;subst h;rw[List.eraseIdx_cons_zero];by_cases rk:a=c
  ·subst rk;rw[if_pos rfl];exact MH λy ar=>by
    have:=(List.pairwise_cons.1 ah).1 y ar;omega
  ·have:¬(c:Int)=(a:Int):=by omega
   rw[if_neg rk,oF,r,if_neg this]
 |x::l,j+1,ah,h=>by
  simp at h;have M:=(List.pairwise_cons.1 ah).1 e (List.mem_of_getElem? h);rw[r]at M;rw[List.eraseIdx_cons_succ,oF,aeE r (List.pairwise_cons.1 ah).2 h];by_cases rk:a=c
  ·grind
  ·rw[if_neg rk,if_neg rk,oF]
theorem RK{w:World}{b:Nat}(h:b<w.1.size)(o:Obj):(setBlock w b o).1[b]? =some o:=by simp[ChangeMaps.setBlock,h]
def isMap(b:Nat):Nat->Prop:=λk=>k=b
theorem D.setBlock{S:Nat->Prop}{w w':World}(h:D S w w'){b:Nat}(V:S b\/w.1.size<=b)(o:Obj):D S w (setBlock w' b o):=
 ⟨h.os,h.tape,h.output,by simpa[ChangeMaps.setBlock]using h.size,λk r av=>by
  have da:b≠k:=by
   rintro rfl;rcases V with V|V
   ·exact av V
   ·omega
  simp only[ChangeMaps.setBlock];rw[Array.getElem?_setIfInBounds_ne da];exact h.block k r av⟩
section
variable{P:Program}{w:World}{t k e:TypeId}{b:Nat}{aR:Nat->Option Value}
theorem nz.lt(h:nz w b aR):b<w.1.size:=by
 obtain⟨gC,ly,V,_⟩:=h;exact lt_of_block V
theorem nz.ch{S:Nat->Prop}{w':World}(h:nz w b aR)(T:D S w w')(av:¬S b):nz w' b aR:=by
 obtain⟨gC,ly,V,H,I⟩:=h;exact⟨gC,ly,T.obj V av,H,I⟩
theorem nz.bI(w:World):nz (w.alloc (.map #[] 0)) w.1.size (λ_=>none):=⟨#[],0,heap_alloc_new w _,⟨by simp,by simp⟩,λa=>rfl⟩
theorem sa(a:Int):IsKey (.int .u16) (.int .u16 a):=rfl
theorem nz.look_ok(h:nz w b aR)(bd:P.underlying t=some (.map k e))(r:P.underlying k=some (.int .u16)){z:Value}(hz:(zeroValue e).run P w=.ok z w)(a:Nat):
  (Instr.lookup t (.map (some b)) (.int .u16 a) true).run P w=.ok (.tuple #[(aR a).getD z,.bool (aR a).isSome]) w:=by
 obtain⟨gC,ly,V,H,I⟩:=h;have oG:∀x∈gC.toList,IsKey (.int .u16) x.key:=λx M=>by obtain⟨q,aq⟩:=H.yT x M;rw[aq];exact sa _
 rcases findNow_spec (sa a) gC.toList 0 oG with⟨cB,cb⟩|⟨j,cR,cB,cb,cj⟩
 ·have av:aR a=none:=by
   rw[<-I a];exact MH λx M gs=>cb x M (by
    obtain⟨q,aq⟩:=H.yT x M;rw[aq]at gs⊢;simp only[intOf]at gs;rw[gs])
  rw[av];simp[Instr.lookup,run_underlying bd,MapKept.run_getObj_map V,run_checkKey r (sa a),run_findKey r cB,hz,Result.andThen]
 ·have aw:aR a=some cR.val:=by
   rw[<-I a];exact WY H.AO cb (by rw[cj];rfl)
  rw[aw];simp[Instr.lookup,run_underlying bd,MapKept.run_getObj_map V,run_checkKey r (sa a),run_findKey r cB,Result.andThen]
theorem nz.m_(h:nz w b aR)(bd:P.underlying t=some (.map k e))(r:P.underlying k=some (.int .u16)){z:Value}(hz:(zeroValue e).run P w=.ok z w)(a:Nat):
  (Instr.lookup t (.map (some b)) (.int .u16 a) false).run P w=.ok ((aR a).getD z) w:=by
 obtain⟨gC,ly,V,H,I⟩:=h;have oG:∀x∈gC.toList,IsKey (.int .u16) x.key:=λx M=>by obtain⟨q,aq⟩:=H.yT x M;rw[aq];exact sa _
 rcases findNow_spec (sa a) gC.toList 0 oG with⟨cB,cb⟩|⟨j,cR,cB,cb,cj⟩
 ·have av:aR a=none:=by
   rw[<-I a];exact MH λx M gs=>cb x M (by
    obtain⟨q,aq⟩:=H.yT x M;rw[aq]at gs⊢;simp only[intOf]at gs;rw[gs])
  rw[av];simp[Instr.lookup,run_underlying bd,MapKept.run_getObj_map V,run_checkKey r (sa a),run_findKey r cB,hz,Result.andThen]
 ·have aw:aR a=some cR.val:=by
   rw[<-I a];exact WY H.AO cb (by rw[cj];rfl)
  rw[aw];simp[Instr.lookup,run_underlying bd,MapKept.run_getObj_map V,run_checkKey r (sa a),run_findKey r cB,Result.andThen]
theorem nz.gT(h:nz w b aR)(bd:P.underlying t=some (.map k e))(r:P.underlying k=some (.int .u16))(a:Nat)(v:Value):
  ∃w',(Instr.mapUpdate t (.map (some b)) (.int .u16 a) v).run P w=.ok () w'/\nz w' b (λx=>if x=a then some v else aR x)/\D (isMap b) w w'/\w'.1.size=w.1.size:=by
 obtain⟨gC,ly,V,H,I⟩:=h;have aO:=lt_of_block V;have oG:∀x∈gC.toList,IsKey (.int .u16) x.key:=λx M=>by obtain⟨q,aq⟩:=H.yT x M;rw[aq];exact sa _
 rcases findNow_spec (sa a) gC.toList 0 oG with⟨cB,cb⟩|⟨j,cR,cB,cb,cj⟩
 ·have da:∀x∈gC.toList,intOf x.key≠(a:Int):=λx M gs=>cb x M (by
    obtain⟨q,aq⟩:=H.yT x M;rw[aq]at gs⊢;simp only[intOf]at gs;rw[gs])
  refine⟨setBlock w b (.map (gC.push ⟨.int .u16 a,v,ly⟩) (ly+1)),?_,⟨_,_,RK aO _,⟨λx M=> ?_,?_⟩,λx=> ?_⟩,(D.refl (isMap b) w).setBlock (.inl rfl) _,by simp[ChangeMaps.setBlock]⟩
  ·simp[Instr.mapUpdate,run_underlying bd,MapKept.run_getObj_map V,run_checkKey r (sa a),run_findKey r cB,MapKept.run_setObj_map _ V,Result.andThen,ChangeMaps.setBlock]
  ·simp only[Array.toList_push,List.mem_append,List.mem_singleton]at M;rcases M with M|rfl
   ·exact H.yT x M
   ·exact⟨a,rfl⟩
  ·rw[Array.toList_push,List.pairwise_append];refine⟨H.AO,by simp,λx M y ar=> ?_⟩;simp only[List.mem_singleton]at ar;subst ar;exact da x M
  ·rw[Array.toList_push,aeC (c:=a) rfl da,I x]
 ·have F:gC[j]? =some cR:=by simpa using cb
  refine⟨setBlock w b (.map (gC.modify j (λdM=>{dM with key:=.int .u16 a,val:=v})) ly),?_,⟨_,_,RK aO _,⟨λx M=> ?_,?_⟩,λx=> ?_⟩,(D.refl (isMap b) w).setBlock (.inl rfl) _,by simp[ChangeMaps.setBlock]⟩
  ·simp[Instr.mapUpdate,run_underlying bd,MapKept.run_getObj_map V,run_checkKey r (sa a),run_findKey r cB,F,cj,run_keyThatStays (sa a),MapKept.run_setObj_map _ V,Result.andThen,ChangeMaps.setBlock]
  ·rcases MapFrom.mem_modify M with M|⟨dM,_,rfl⟩
   ·exact H.yT x M
   ·exact⟨a,rfl⟩
  ·rw[Array.toList_modify];have aH:(gC.toList.modify j (λdM=>{dM with key:=.int .u16 a,val:=v})).map (λx=>intOf x.key)=gC.toList.map (λx=>intOf x.key):=by
    rw[modify_eq_set _ _ _ _ cb,List.map_set];apply List.ext_getElem?;intro i;by_cases hF:j=i
    ·grind
    ·rw[List.getElem?_set_ne hF]
   have:=H.AO;rw[<-List.pairwise_map (f:=λx:MapEntry=>intOf x.key) (R:=λa b=>a≠b)]at this⊢;rw[aH];exact this
  ·rw[Array.toList_modify,aeD (c:=a) _ (λy _=>rfl) (by rw[cj];rfl) H.AO cb,I x]
theorem nz.del(h:nz w b aR)(bd:P.underlying t=some (.map k e))(r:P.underlying k=some (.int .u16))(a:Nat)(bO:TypeId):
  ∃w',(Builtin.delete_ #[t,k] bO #[.map (some b),.int .u16 a]).run P w=.ok (.tuple #[]) w'/\nz w' b (λx=>if x=a then none else aR x)/\D (isMap b) w w'/\w'.1.size=w.1.size:=by
 obtain⟨gC,ly,V,H,I⟩:=h;have aO:=lt_of_block V;have oG:∀x∈gC.toList,IsKey (.int .u16) x.key:=λx M=>by obtain⟨q,aq⟩:=H.yT x M;rw[aq];exact sa _
 rcases findNow_spec (sa a) gC.toList 0 oG with⟨cB,cb⟩|⟨j,cR,cB,cb,cj⟩
 ·have da:∀x∈gC.toList,intOf x.key≠(a:Int):=λx M gs=>cb x M (by
    obtain⟨q,aq⟩:=H.yT x M;rw[aq]at gs⊢;simp only[intOf]at gs;rw[gs])
  refine⟨setBlock w b (.map gC ly),?_,⟨_,_,RK aO _,H,λx=> ?_⟩,(D.refl (isMap b) w).setBlock (.inl rfl) _,by simp[ChangeMaps.setBlock]⟩
  ·simp[Builtin.delete_,run_underlying bd,MapKept.run_getObj_map V,run_checkKey r (sa a),run_findKey r cB,MapKept.run_setObj_map _ V,Result.andThen,ChangeMaps.setBlock]
  ·show _=if x=a then none else aR x
   by_cases M:x=a
   ·subst M;rw[if_pos rfl];exact MH da
   ·rw[if_neg M];exact I x
 ·have i':j<gC.toList.length:=(List.getElem?_eq_some_iff.1 cb).1;have aph:j<gC.size:=by simpa using i'
  have GT:(gC.eraseIdxIfInBounds j).toList=gC.toList.eraseIdx j:=by
   unfold Array.eraseIdxIfInBounds;rw[dif_pos aph];simp
  refine⟨setBlock w b (.map (gC.eraseIdxIfInBounds j) ly),?_,⟨_,_,RK aO _,⟨λx M=> ?_,?_⟩,λx=> ?_⟩,(D.refl (isMap b) w).setBlock (.inl rfl) _,by simp[ChangeMaps.setBlock]⟩
  ·simp[Builtin.delete_,run_underlying bd,MapKept.run_getObj_map V,run_checkKey r (sa a),run_findKey r cB,MapKept.run_setObj_map _ V,Result.andThen,ChangeMaps.setBlock]
  ·rw[GT]at M;exact H.yT x ((List.eraseIdx_sublist _ _).subset M)
  ·rw[GT];exact H.AO.sublist (List.eraseIdx_sublist _ _)
  ·rw[GT,aeE (c:=a) (by rw[cj];rfl) H.AO cb,I x]
end
end Go.Kin
namespace Go.Proofs.YtoohkhcpboldjaaGreatDoor
open Go.RowKit Go.Kin
def xo(w:World)(g:Nat)(off:Bool)(dq:Int):Prop:=w.1[g]? =some (.cells #[.bool off,.int .i64 dq] 176 (0,0))
theorem xo.ch{S:Nat->Prop}{w w':World}{g:Nat}{off:Bool}{dq:Int}(h:xo w g off dq)(T:D S w w')(av:¬S g):xo w' g off dq:=T.obj h av
theorem api(w:World):aP Tryz.prog 53 #[] w λW w'=>W=.pointer (some ⟨w.1.size,0,none⟩)/\xo w' w.1.size false (-1)/\D ak w w'/\w'.1.size=w.1.size+1:=by
 refine bn Tryz.func53 Tryz.ntmps53 λaZ Z=> ?_;simp[go_sem];exact Z _ _ ⟨rfl,heap_alloc_new w _,(D.refl ak w).alloc _,by simp⟩
theorem aeF(g:Nat)(off:Bool)(dq:Int)(w:World)(h:xo w g off dq):aP Tryz.prog 75 #[.pointer (some ⟨g,0,none⟩)] w λW w'=>W=.bool (!off)/\w'=w:=by
 have bf:=aG h 0;refine bn Tryz.func75 Tryz.ntmps75 λaZ Z=> ?_;simp[go_sem,bf];exact Z _ _ ⟨rfl,rfl⟩
def sU(off:Bool)(dq:Int):Bool×Bool×Int:=if off then(false,true,dq)else if dq=0 then(false,true, -1)else if 0<dq then(true,false,dq - 1)else(true,false,dq)
theorem WZ(g:Nat)(off:Bool)(dq:Int)(w:World)(h:xo w g off dq)(aH:dq<=9223372036854775807):aP Tryz.prog 128 #[.pointer (some ⟨g,0,none⟩)] w λW w'=>
  W=.bool (sU off dq).1/\xo w' g (sU off dq).2.1 (sU off dq).2.2/\D (aj g) w w'/\w'.1.size=w.1.size:=by
 have bf:=aG h;have bU:=dD h;refine bn Tryz.func128 Tryz.ntmps128 λaZ Z=> ?_;simp[go_sem];refine(aeF g off dq w h).mono ?_;rintro _ w ⟨rfl,rfl⟩
 cases off
 ·by_cases hz:dq=0
  ·subst hz;have aK:(w.setCell ⟨g,0,none⟩ (.bool true)).1[g]? =some (.cells #[.bool true,.int .i64 0] 176 (0,0)):=by rw[eY,h,gp];simp
   have H:=aG aK;have CC:=dD aK;simp[go_sem,bf,bU,H,CC];refine Z _ _ ⟨rfl,?_,((D.refl (aj g) _).setCell (p:=⟨g,0,none⟩) (.inl rfl) _).setCell (p:=⟨g,1,none⟩) (.inl rfl) _,by simp[World.setCell]⟩;unfold xo;rw[eY,aK,gp];simp[sU]
  ·have vX:(dq==0)=false:=by simpa using hz
   by_cases ah:0<dq
   ·have bH:IntKind.i64.wrap (dq - 1)=dq - 1:=by simp[IntKind.wrap_i64];omega
    simp[go_sem,bf,bU,vX,ah,bH];refine Z _ _ ⟨by simp[sU,hz,ah],?_,(D.refl (aj g) _).setCell (p:=⟨g,1,none⟩) (.inl rfl) _,by simp[World.setCell]⟩;unfold xo;rw[eY,h,gp];simp[sU,hz,ah]
   ·simp[go_sem,bf,vX,ah];exact Z _ _ ⟨by simp[sU,hz,ah],by simpa[sU,hz,ah]using h,D.refl _ _,rfl⟩
 ·simp[go_sem];exact Z _ _ ⟨by simp[sU],by simpa[sU]using h,D.refl _ _,rfl⟩
def rl(w:World)(p:Nat)(P:ek):Prop:=xo w p P.off P.dq
theorem W_(P:ek):sU P.off P.dq=(P.bI,P.step.off,P.step.dq):=by
 obtain⟨off,dq⟩:=P;unfold sU ek.bI ek.step
 grind
def xp(w:World)(bo:Nat->Prop)(v:Value)(b:cX):Prop:=bD w v b.length (bm b)/\∀k,v.ownBlock=some k->bo k/\k<w.1.size
def yU(w:World)(g:Nat)(m:Nat->Option cX)(bo:Nat->Prop):Prop:=∃aR,nz w g aR/\∀a,(m a=none->aR a=none)/\∀b,m a=some b->∃v,aR a=some v/\xp w bo v b
def GU(w:World)(g:Nat)(s:Nat->Bool):Prop:=∃aR,nz w g aR/\∀a,(aR a).getD (.bool false)=.bool (s a)
def pP(x:Nat×Value):Array Value:=#[.int .u16 x.1,x.2]
theorem W'(l:List (Nat×Value)):∀x∈l,(pP x).size=2:=λ_ _=>rfl
structure vY(w:World)(v:Value)(c:List (Nat×cX))(bo:Nat->Prop)(cn:List (Nat×Value)):Prop where
 own:w.ownsRow 0 178 2 v c.length (dv pP cn)
 len:cn.length=c.length
 Jx:∀(i a:Nat) (b:cX),c[i]? =some (a,b)->∃u,cn[i]? =some (a,u)/\xp w bo u b
def CD(w:World)(v:Value)(a:Option Nat)(bo:Nat->Prop):Prop:=match a with
 |none=>v=.pointer none
 |some a=>∃x,v=.pointer (some ⟨x,0,none⟩)/\w.1[x]? =some (.cells #[.int .u16 a] 39 (0,0))/\bo x
structure oH where
 hG:Nat
 bb:Nat
 na:Nat
 dr:Value
 yV:Value
def yW(n p:Nat)(z:oH)(L:bR):Array Value:=#[.int .i64 n,.pointer (some ⟨p,0,none⟩),.map (some z.hG),z.dr,.map (some z.bb),.map (some z.na),.bool L.bS,.bool L.tY,z.yV]
def oH.X(z:oH)(d:Nat):Nat->Prop:=λk=>k=d\/k=z.hG\/k=z.bb\/k=z.na\/z.dr.ownBlock=some k
structure fQ(w:World)(d p n:Nat)(L:bR)(O:Nat->Prop)(z:oH)(cn:List (Nat×Value))(bo:Nat->Prop):Prop where
 blk:w.1[d]? =some (.cells (yW n p z L) 138 (0,0))
 nA:yU w z.hG L.m bo
 dT:GU w z.bb L.dT
 stuck:GU w z.na L.stuck
 bB:vY w z.dr L.bB bo cn
 fv:CD w z.yV L.fv bo
 kX:∀k,z.X d k->O k
 CE:∀k,bo k->O k
 sV:∀k,bo k->¬z.X d k
 ne:z.hG≠z.bb/\z.hG≠z.na/\z.bb≠z.na/\z.dr.ownBlock≠some d
 ok:L.nB n
 gK:∀k,O k->k<w.1.size
def Ez(w:World)(d p n:Nat)(L:bR)(O:Nat->Prop):Prop:=∃z cn bo,fQ w d p n L O z cn bo
section
variable{w w':World}{S bo Y':Nat->Prop}
theorem xp.ch{v:Value}{b:cX}(h:xp w bo v b)(T:D S w w')(av:∀k,bo k->¬S k):xp w' bo v b:=
 ⟨h.1.ch T λk r=>av k (h.2 k r).1,λk r=>⟨(h.2 k r).1,Nat.lt_of_lt_of_le (h.2 k r).2 T.size⟩⟩
theorem xp.mono{v:Value}{b:cX}(h:xp w bo v b)(ar:∀k,bo k->Y' k):xp w Y' v b:=⟨h.1,λk r=>⟨ar k (h.2 k r).1,(h.2 k r).2⟩⟩
theorem yU.ch{g:Nat}{m:Nat->Option cX}(h:yU w g m bo)(T:D S w w')(aF:¬S g)(av:∀k,bo k->¬S k):yU w' g m bo:=by
 obtain⟨aR,H,I⟩:=h;refine⟨aR,H.ch T aF,λa=>⟨(I a).1,λb V=> ?_⟩⟩;obtain⟨v,af,aU⟩:=(I a).2 b V;exact⟨v,af,aU.ch T av⟩
theorem yU.mono{g:Nat}{m:Nat->Option cX}(h:yU w g m bo)(ar:∀k,bo k->Y' k):yU w g m Y':=by
 obtain⟨aR,H,I⟩:=h;refine⟨aR,H,λa=>⟨(I a).1,λb V=> ?_⟩⟩;obtain⟨v,af,aU⟩:=(I a).2 b V;exact⟨v,af,aU.mono ar⟩
theorem GU.ch{g:Nat}{s:Nat->Bool}(h:GU w g s)(T:D S w w')(aF:¬S g):GU w' g s:=by
 obtain⟨aR,H,I⟩:=h;exact⟨aR,H.ch T aF,I⟩
theorem vY.ch{v:Value}{c:List (Nat×cX)}{cn:List (Nat×Value)}(h:vY w v c bo cn)(T:D S w w')(aS:∀k,v.ownBlock=some k->¬S k)(av:∀k,bo k->¬S k):vY w' v c bo cn:=by
 refine⟨ej h.own T aS,h.len,λi a b aa=> ?_⟩;obtain⟨u,H,I⟩:=h.Jx i a b aa;exact⟨u,H,I.ch T av⟩
theorem vY.mono{v:Value}{c:List (Nat×cX)}{cn:List (Nat×Value)}(h:vY w v c bo cn)(ar:∀k,bo k->Y' k):vY w v c Y' cn:=by
 refine⟨h.own,h.len,λi a b aa=> ?_⟩;obtain⟨u,H,I⟩:=h.Jx i a b aa;exact⟨u,H,I.mono ar⟩
theorem vY.nil(w:World)(bo:Nat->Prop):vY w (.slice none 0 0) [] bo []:=⟨World.ownsRow_nil _ _ _ _,rfl,λi a b h=>by simp at h⟩
theorem CD.ch{v:Value}{a:Option Nat}(h:CD w v a bo)(T:D S w w')(av:∀k,bo k->¬S k):CD w' v a bo:=by
 cases a with
 |none=>exact h
 |some a=>
  obtain⟨x,H,I,af⟩:=h;exact⟨x,H,T.obj I (av x af),af⟩
theorem CD.mono{v:Value}{a:Option Nat}(h:CD w v a bo)(ar:∀k,bo k->Y' k):CD w v a Y':=by
 cases a with
 |none=>exact h
 |some a=>
  obtain⟨x,H,I,af⟩:=h;exact⟨x,H,I,ar x af⟩
variable{d p n:Nat}{L:bR}{O O':Nat->Prop}{z:oH}{cn:List (Nat×Value)}
theorem fQ.lt(h:fQ w d p n L O z cn bo):d<w.1.size:=lt_of_block h.blk
theorem fQ.MI(h:fQ w d p n L O z cn bo):z.hG≠d/\z.bb≠d/\z.na≠d:=by
 have key:∀g aR,nz w g aR->g≠d:=λg aR aH e=>by
  obtain⟨gC,ly,V,_⟩:=aH;rw[e,h.blk]at V
  cases V
 obtain⟨aR,H,_⟩:=h.nA;obtain⟨RL,I,_⟩:=h.dT;obtain⟨aeG,af,_⟩:=h.stuck
 grind
theorem fQ.EA(h:fQ w d p n L O z cn bo):∀k,z.dr.ownBlock=some k->k≠d/\k≠z.hG/\k≠z.bb/\k≠z.na:=by
 intro k r;have key:∀g aR,nz w g aR->k≠g:=λg aR aH e=>by
  obtain⟨gC,ly,V,_⟩:=aH;subst e;rcases h.bB.own.2 with⟨aS,_⟩|⟨g,cap,di,aS,_,aF,_⟩
  ·rw[aS]at r;simp[Value.ownBlock]at r
  ·rw[aS]at r;simp[Value.ownBlock]at r
   grind
 obtain⟨aR,H,_⟩:=h.nA;obtain⟨RL,I,_⟩:=h.dT;obtain⟨aeG,af,_⟩:=h.stuck;exact⟨λe=>h.ne.2.2.2 (by rw[r,e]),key _ _ H,key _ _ I,key _ _ af⟩
theorem fQ.ch(h:fQ w d p n L O z cn bo)(T:D S w w')(av:∀k,O k->¬S k):fQ w' d p n L O z cn bo:=
 ⟨T.obj h.blk (av _ (h.kX _ (.inl rfl))),h.nA.ch T (av _ (h.kX _ (.inr (.inl rfl)))) λk r=>av k (h.CE k r),h.dT.ch T (av _ (h.kX _ (.inr (.inr (.inl rfl))))),h.stuck.ch T (av _ (h.kX _ (.inr (.inr (.inr (.inl rfl)))))),
  h.bB.ch T (λk r=>av k (h.kX _ (.inr (.inr (.inr (.inr r)))))) λk r=>av k (h.CE k r),h.fv.ch T λk r=>av k (h.CE k r),h.kX,h.CE,h.sV,h.ne,h.ok,λk r=>Nat.lt_of_lt_of_le (h.gK k r) T.size⟩
theorem fQ.mono(h:fQ w d p n L O z cn bo)(aB:∀k,O k->O' k)(al:∀k,O' k->k<w.1.size):fQ w d p n L O' z cn bo:=⟨h.blk,h.nA,h.dT,h.stuck,h.bB,h.fv,λk r=>aB k (h.kX k r),λk r=>aB k (h.CE k r),h.sV,h.ne,h.ok,al⟩
theorem Ez.ch(h:Ez w d p n L O)(T:D S w w')(av:∀k,O k->¬S k):Ez w' d p n L O:=by
 obtain⟨z,cn,bo,h⟩:=h;exact⟨z,cn,bo,h.ch T av⟩
theorem rl.ch{P:ek}(h:rl w p P)(T:D S w w')(av:¬S p):rl w' p P:=T.obj h av
end
end Go.Proofs.YtoohkhcpboldjaaGreatDoor
