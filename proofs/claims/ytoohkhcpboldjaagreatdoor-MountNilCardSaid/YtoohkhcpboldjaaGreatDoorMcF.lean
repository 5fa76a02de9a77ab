/- A state, as a value. No condition. -/
import Derived.Test.YtoohkhcpboldjaaGreatDoorMcE
import Derived.Test.YtoohkhcpboldjaaGreatDoorOwE
set_option maxRecDepth 100000
set_option maxHeartbeats 4000000
set_option linter.unusedSimpArgs false
set_option linter.unusedVariables false
namespace Go.Proofs.YtoohkhcpboldjaaGreatDoor
open Go.RowKit Go.Kin
theorem X'{w:World}{K:Value->World->Prop}:hX Tryz.prog 227 [] w K=K (.agg (dF (0,bA))) w:=by
 refine lp Tryz.underlying227 wd (places:=#[(0,1),(1,44)]) (by simp[go_sem]) ?_;simp[iH,we]
theorem aq9{w:World}{K:Value->World->Prop}(n:Nat):hX Tryz.prog 227 [(0,.int .u16 n)] w K=K (.agg (dF (n,bA))) w:=by
 refine lp Tryz.underlying227 wd (places:=#[(0,1),(1,44)]) (by simp[go_sem]) ?_;have hz:=nG vc;simp[iH,we,Value.cells,hz,tI];simp[d',dF,qz]
theorem afQ{ay:Type}{bc:ay->h_}{m:ay->Nat}{rd:Src ay}{sv:Value}(aw:qu bc m rd sv)(s:ay)(p:Pt)(n:Nat):m s<=m (jN rd s p n).1+48:=by
 unfold jN;have H:=Sm aw s p (n / 4);have I:=Sn aw (dl rd s p (n / 4)).1 (dl rd s p (n / 4)).2.1
 grind
theorem Ya{ay:Type}(rd:Src ay)(s:ay)(p:Pt)(n:Nat):gR (jN rd s p n).2.1:=by
 unfold jN;split
 ·exact ls
 ·split
  ·exact ls
  ·simp only;have h:=So rd (dl rd s p (n / 4)).1 (dl rd s p (n / 4)).2.1;rw[List.getD_eq_getElem?_getD]
   cases aV:(fS rd (dl rd s p (n / 4)).1 (dl rd s p (n / 4)).2.1).2.1[n%4]? with
   |none=>exact ls
   |some x=>exact h.all x (List.mem_of_getElem? aV)
section
variable{k m p o s_:Nat}{z:fe}{Ba:xF}{ee w w':World}{es X bo:Nat->Prop}{base hI:Value}{L:fM}{t:dy}{O:Nat->Prop}{cp:dy->Nat}{c:hT}
structure Yb(L:fM)(num:em)(C:List (Nat×List UInt8)):Prop where
 lt:C.Pairwise λx y=>x.1<y.1
 nA:∀x,x∈C↔∃o:gP,x.1=o.val/\L.lf (num,o)=some x.2
theorem afR:∀{l l':List (Nat×List UInt8)},l.Pairwise (λx y=>x.1<y.1)->l'.Pairwise (λx y=>x.1<y.1)->(∀x,x∈l↔x∈l')->l=l'
 |[],[],_,_,_=>rfl
 |[],y::l',_,_,h=>absurd ((h y).2 (by simp)) (by simp)
 |x::l,[],_,_,h=>absurd ((h x).1 (by simp)) (by simp)
 |x::l,y::l',H,I,h=>by
  rw[List.pairwise_cons]at H I;have vd:x=y:=by
   rcases List.mem_cons.1 ((h x).1 (by simp))with e|e
   ·exact e
   ·grind
  subst vd;rw[afR H.2 I.2 λz=> ?_]
  grind
theorem aq_{num:em}{N w:World}{ae:List ta}{C:List (Nat×List UInt8)}(bT:Hh L num N w ae)(aw:ae.Pairwise (λx y=>x.1<y.1))(xG:Yb L num C):ae.map (λx=>(x.1.val,(L.lf (num,x.1)).getD []))=C:=by
 refine afR ?_ xG.lt λx=> ?_
 ·grind
 ·rw[xG.nA,List.mem_map];constructor
  ·rintro⟨y,ar,rfl⟩;obtain⟨b,V,_⟩:=bT.val y ar
   grind
  ·rintro⟨o,H,I⟩;obtain⟨y,ar,e⟩:=List.mem_map.1 ((bT.nA o).2 (by rw[I];rfl))
   grind
theorem afS(ds:jM cp)(e:rs ee es)(gy:c.aT<18446744073709551616)(av:c.n<=65536)(h:ga k m p c.n z c.aT ee es t w O)(aH:16<=f_ cp t)(q:Pt)(ok:bN q)(b:cX)(V:b.length=512)(v:Value)(aS:bD w v 512 (bm b))(hS:∀j,v.ownBlock=some j->¬O j/\j<w.1.size):
  aP Tryz.prog 125 #[.pointer (some ⟨k,0,none⟩),.agg (Y q),v] w λW w'=>W=.tuple #[.agg (Y (hg c.n c.aT t q b).2.1),.int .i64 (hg c.n c.aT t q b).2.2]/\bN (hg c.n c.aT t q b).2.1/\ga k m p c.n z c.aT ee es (hg c.n c.aT t q b).1 w' (ax O w w')/\D O w w':=by
 obtain⟨kp,bT,_⟩:=h.ck e;obtain⟨aL,ag,ed,H,I,af,aU⟩:=h;obtain⟨a_,bh,bV⟩:=Nb ds aH;refine(aff H q ok gy av b V v aS (λj F=>⟨λx=>(hS j F).1 (I j x).1,(hS j F).2⟩) kp.qt bT (λj F x=>(I j x).2 (e.dJ j (by rcases F with rfl|rfl;exact .inl (.inl rfl);exact .inr (.inl rfl)))) a_ (by omega) (by omega)).mono ?_;rintro _ w' ⟨rfl,⟨jb,gh,CL,gM,gN⟩,c⟩;obtain⟨cB,cb⟩:=ga.step H I af aU gM gN c λj F=>F;exact⟨rfl,afL gy av ok b,cB,cb⟩
theorem afT(ds:jM cp)(n:Nat):∀(l:List Pt) (t:dy),f_ cp t<=f_ cp (l.foldl (kK n) t)+16*l.length
 |[],t=>Nat.le_add_right _ _
 |q::l,t=>by
  have H:=Sh ds n t q;have I:=afT ds n l (kK n t q)
  grind
theorem afU(ds:jM cp)(e:rs ee es)(gy:c.aT<18446744073709551616)(av:c.n<=65536)(t:dy)(q:Pt)(ok:bN q):f_ cp t<=f_ cp (sg (ms c) t q).1+1312:=by
 have H:=afV (EQ (k:=0) (m:=0) (p:=0) (z:=⟨λ_=>0,0,λ_=>0⟩) ds e gy av).rd t q;obtain⟨oN,ez,fo,xE⟩:=XY (hH c.n) t q ok;have tL:(ms c).rd=hH c.n:=rfl;have xD:(ms c).bM=kK c.n:=rfl;unfold sg;rw[tL,xD];simp only;split
 ·simp only;omega
 ·have I:=afT ds c.n ((gU (hH c.n) t q).2.1.map (·.2)++(gU (hH c.n) t q).2.2.1) (gU (hH c.n) t q).1
  grind
theorem aq'{w:World}{v:Value}{ae:List ta}(h:fA w v sh 2 ae){i:Nat}{x:ta}(aa:ae[i]? =some x):∃b off ui,v=.slice (some ⟨b,off,none⟩) ae.length ui/\w.cell? ⟨b,off+i*2,none⟩=some (.int .u32 x.1.val)/\w.cell? ⟨b,off+i*2+1,none⟩=some x.2.val:=by
 obtain⟨ag,ui,rfl,_,_,af⟩:=h;obtain⟨b,off,rfl,V,ap⟩:=af (by grind);exact⟨b,off,ui,rfl,ap i x 0 _ aa rfl,ap i x 1 _ aa rfl⟩
theorem ara{w:World}{K:Value->World->Prop}(k n o:Nat):hX Tryz.prog 44 [(0,.int .u8 (js k)),(2,.int .u16 n),(3,.int .u32 o)] w K=K (.agg (Y (kL k n o))) w:=by
 refine lp Tryz.underlying44 gm (places:=#[(0,1),(1,1),(2,1),(3,1),(4,1),(5,32),(37,4)]) (by simp[go_sem]) ?_;simp[iH,gn,Value.cells,tI,bW cE];simp[d',Y,ad,kL,eB,ky,Cm];rfl
theorem arb{k n o:Nat}(av:n<65536)(aB:o<4294967296):bN (kL k n o):=⟨by show js k<256;unfold js;grind,by simp[kL],by simpa[kL]using av,by simpa[kL]using aB,by simp[kL],by simp[kL],by simp[kL],by simp[kL]⟩
theorem arc{w:World}{K:Value->World->Prop}(o:Nat):hX Tryz.prog 229 [(0,.int .u32 o)] w K=K (.agg (et (o,ad))) w:=by
 refine lp Tryz.underlying229 Hf (places:=#[(0,1),(1,41)]) (by simp[go_sem]) ?_;simp[iH,Hg,Value.cells,tI,mC ER];simp[d',et,qA]
theorem ard{o:Nat}{q:Pt}(ok:bN q):d' (et (o,ad)) 1 (Y q)=et (o,q):=by
 have h:=bW ok;have hz:=bW cE;unfold d';apply Array.ext';simp[et,qA,h,hz]
theorem are(ds:jM cp)(e:rs ee es)(gy:c.aT<18446744073709551616)(av:c.n<=65536)(h:ga k m p c.n z c.aT ee es t w O)(aH:12000<=f_ cp t)(st:e')(ok:gV st)(aB:po w o base hI s_ L X bo Ba)(CW:∀j,X j\/bo j->¬O j)(num:em)(Bb:s_<=100000)(C:List (Nat×List UInt8))(xG:Yb L num C)(aHq:C.length<=64)(arf:∀y∈C,y.2=[]\/y.2.length=512):
  aP Tryz.prog 122 #[.pointer (some ⟨k,0,none⟩),.agg (cz st),.pointer (some ⟨o,0,none⟩),.int .u16 num.val] w λW w'=>
   W=.tuple #[.agg (dF (lV (ms c) st.cO (L.bk num) (L.wiped num) C num.val t).2.1),.int .i64 (lV (ms c) st.cO (L.bk num) (L.wiped num) C num.val t).2.2]/\kM (lV (ms c) st.cO (L.bk num) (L.wiped num) C num.val t).2.1/\
   ga k m p c.n z c.aT ee es (lV (ms c) st.cO (L.bk num) (L.wiped num) C num.val t).1 w' (ax O w w')/\D O w w':=by
 refine bn Tryz.func122 Tryz.ntmps122 λaZ Z=> ?_;have mE:=iQ ok;have lw:=zr ok;have el:=Sp ok;have aN:=ga.ok k m p c.n z c.aT ee es;have al:=(aN t).lt h;have CX:=nG vc;simp[go_sem,mE,lw,wd,we];have aY:=((D.refl ak w).alloc (.cells (cz st) 46)).alloc (.cells (dF (0,bA)) 227);have bj:=oa w (.cells (cz st) 46) (.cells (dF (0,bA)) 227);have ba:=ny w (.cells (cz st) 46) (.cells (dF (0,bA)) 227);have gd:((w.alloc (.cells (cz st) 46)).alloc (.cells (dF (0,bA)) 227)).1.size=w.1.size+2:=by simp
 obtain⟨ab,de⟩:=az ((w.alloc (.cells (cz st) 46)).alloc (.cells (dF (0,bA)) 227));rw[de]at aY bj ba gd⊢;obtain⟨g,aF⟩:=az (w.1.size);rw[aF]at bj ba gd⊢;clear de;have H:=(aN t).ch h aY λ_ _ e=>e;have qB:=aB.ch aY (λ_ _ e=>e) λ_ _ e=>e;rw[el];have ue:∀j,g<=j->¬O j:=λj F e=>by have:=al j e;omega
 refine(afW (EQ ds e gy av).rd (by omega) aN H st.cO ok.cO num.val (by omega) (H.ck e).1 (ga.dJ e)).mono ?_;have fa:lV (ms c) st.cO (L.bk num) (L.wiped num) C num.val t=let w:=jN (hH c.n) t st.cO num.val
  if w.2.2≠0 then(w.1,(0,bA),w.2.2)else
  let nj:=(L.bk num).getD w.2.1;let x:=if L.wiped num=true\/nj=bA then sg (ms c) w.1 w.2.1.J else(w.1,(),0)
  if x.2.2≠0 then(x.1,(0,bA),x.2.2)else
  if nj=bA then(x.1,(num.val,bA),0)else
  let k:=lW (ms c) nj.k num.val C x.1 []
  if k.2.2≠0 then(k.1,(0,bA),k.2.2)else
  let y:=pq (hH c.n) (hg c.n c.aT) (kK c.n) num.val k.1 (if L.wiped num=true then ad else w.2.1.J) k.2.1
  (y.1,(num.val,{nj with J:=y.2.1}),y.2.2):=rfl
 have uj:=Ya (hH c.n) t st.cO num.val;have afX:=afQ (EQ (k:=k) (m:=m) (p:=p) (z:=z) ds e gy av).rd t st.cO num.val;obtain⟨⟨dK,cZ,aW⟩,ff⟩:∃y,jN (hH c.n) t st.cO num.val=y:=⟨_,rfl⟩;rw[ff]at uj afX fa⊢;simp only at uj afX fa⊢;rintro _ ai ⟨rfl,I,aA⟩;have cw:=aA.size;have jd:=aA.obj bj (ue g (Nat.le_refl _));have i_:=aA.obj ba (ue (g+1) (by omega));have wg:=qB.ch aA (λj F=>CW j (.inl F)) λj F=>CW j (.inr F);have eU:=jr uj;have gs:=tO uj;have dN:=jr ls;have aE:=(D.refl ak ai).alloc (.cells (bk cZ) 113);have wh:=cl ai (.cells (bk cZ) 113);simp[go_sem,tP,tQ,eU,gs,dN,bQ];obtain⟨aC,hk⟩:=az (ai.alloc (.cells (bk cZ) 113));rw[hk]at aE wh⊢;have gL:aC.1.size=ai.1.size+1:=by rw[<-hk];simp
 obtain⟨cb,oA⟩:=az (ai.1.size);rw[oA]at wh gL⊢;clear hk;have af:=(aN dK).ch I aE λ_ _ e=>e;have si:=aE.obj jd id;have iL:=aE.obj i_ id;have Nj:=wg.ch aE (λ_ _ e=>e) λ_ _ e=>e;have bL:∀{u:World} {er:dy} {iC:Nat×br} {dM:Int} {Q:Nat->Prop},lV (ms c) st.cO (L.bk num) (L.wiped num) C num.val t=(er,iC,dM)->kM iC->ga k m p c.n z c.aT ee es er u Q->(∀j,Q j->ax O w u j)->¬Q (g+1)->D O w u->ai.1.size<=u.1.size->
   u.1[g+1]? =some (.cells (dF (0,bA)) 227 (0,0))->aZ (.tuple #[.agg (dF iC),.int .i64 dM]) (u.setRow (g+1) (dF iC)):=λ{u er iC dM Q} T dh aD eP xH aJ aw V=>by
  have kn:=(D.refl (aj (g+1)) u).setRow (g:=g+1) (.inl rfl) (dF iC);have gu:=kn.size;rw[T]at Z;refine Z _ _ ⟨rfl,dh,(aN er).ex ((aN er).ch aD kn λj F e=>xH (by simp only[aj]at e;rw[<-e];exact F)) (λj F=>(eP j F).imp id λe=>⟨e.1,by omega⟩) (ax.lt al (by have:=aJ.size;omega)),aJ.bJ kn λj F e=>by simp only[aj]at e;omega⟩
 by_cases Hc:aW=0
 ·subst Hc;have lA:((0:Int)!=0)=false:=by decide
  rw[if_neg (by decide)]at fa;simp[go_sem,lA];refine(arh Nj num).mono ?_;rintro _ be ⟨rfl,bv⟩;obtain⟨y,ar⟩:=az ((L.bk num).getD bA:br);have Nk:gR y:=by
   rw[<-ar]
   cases aa:L.bk num with
   |none=>exact ls
   |some x=>exact aB.JT _ _ aa
  obtain⟨aQ,dE⟩:=az ((L.bk num).getD cZ:br);have ES:gR aQ:=by
   rw[<-dE]
   cases aa:L.bk num with
   |none=>exact uj
   |some x=>exact aB.JT _ _ aa
  have ET:=jr Nk;have zn:=tO Nk;have hv:=bv.size;have bx:=(D.refl ak be).alloc (.cells (bk y) 113);have Sq:=cl be (.cells (bk y) 113);have j_:(be.alloc (.cells (bk y) 113)).1.size=be.1.size+1:=by simp
  rw[ar];simp[go_sem,tP,tQ,ET,zn,dN,bQ];obtain⟨bw,mz⟩:=az (be.alloc (.cells (bk y) 113));rw[mz]at bx Sq j_⊢;obtain⟨cu,Hi⟩:=az (be.1.size);rw[Hi]at Sq j_⊢;clear mz;have pg:=bv.trans bx;have bC:=(aN dK).ch af pg λ_ _ e=>e;have CY:=pg.obj si id;have qv:=pg.obj iL id;have Nl:=pg.obj wh id;have Yc:=Nj.ch pg (λ_ _ e=>e) λ_ _ e=>e;refine Hj (λf u=>f 0=.pointer (some ⟨k,0,none⟩)/\f 2=.pointer (some ⟨o,0,none⟩)/\f 3=.int .u16 num.val/\f 8=.pointer (some ⟨g+1,0,none⟩)/\f 10=.pointer (some ⟨cb,0,none⟩)/\f 12=.pointer (some ⟨cu,0,none⟩)/\
   u.1[cu]? =some (.cells (bk aQ) 113 (0,0))/\D (aj cu) bw u) ?_ ?_
  ·cases aa:L.bk num with
   |none=>
    rw[aa]at dE;have dE:cZ=aQ:=dE;subst dE;simp[go_sem,Nl,Sq,eU,gs,bQ,ET];exact(D.refl (aj cu) bw).setRow (g:=cu) (.inl rfl) _
   |some x=>
    rw[aa]at dE ar;have dE:x=aQ:=dE;have ar:x=y:=ar;subst dE;subst ar;simp[go_sem];exact⟨Sq,D.refl _ _⟩
  ·rintro f u ⟨f0,bh,bV,bz,eE,dA,V,aJ⟩;have ari:=Jp uj;have Sr:=bW uj.J;have afY:=dW uj.J;have Az:=bW cE;have Bc:∀j,j≠cu->¬aj cu j:=λj F e=>F e;have fw:=aJ.obj Nl (Bc cb (by omega));have fz:=aJ.obj qv (Bc (g+1) (by omega));have Yd:∀j,X j\/bo j->j<w.1.size:=λj F=>aB.lt j F;have Ye:=Yc.ch aJ (λj F=>Bc j (by have:=Yd j (.inl F);omega)) λj F=>Bc j (by grind);have arj:=(aN dK).lt af;have an:=(aN dK).ch bC aJ λj F=>Bc j (by have:=arj j F;omega);have He:=aJ.size;have co:=(D.refl ak u).alloc (.cells (Y cZ.J) 44);have Nm:=cl u (.cells (Y cZ.J) 44);have oh:(u.alloc (.cells (Y cZ.J) 44)).1.size=u.1.size+1:=by simp
   simp[go_sem,eE,bh,bV,fw,eU,ari,Sr,afY,Az,gm,gn,bQ];obtain⟨cd,pr⟩:=az (u.alloc (.cells (Y cZ.J) 44));rw[pr]at co Nm oh⊢;obtain⟨cM,tb⟩:=az (u.1.size);rw[tb]at Nm oh⊢;clear pr;have cG:=(aN dK).ch an co λ_ _ e=>e;have JU:=Ye.ch co (λ_ _ e=>e) λ_ _ e=>e;have wi:=co.obj V id;have qC:=co.obj fz id;have Yf:=jr ES;have afZ:=tO ES;have gI:=λN=>Rr N ES ls;refine(ark JU num).mono ?_;rintro _ cF ⟨rfl,hi⟩;subst cF;refine have key:(∀(B:Bool) (tc:Nat->Value),(B=true↔L.wiped num=true\/aQ=bA)->(tc 0=.pointer (some ⟨k,0,none⟩)/\tc 2=.pointer (some ⟨o,0,none⟩)/\tc 3=.int .u16 num.val/\tc 8=.pointer (some ⟨g+1,0,none⟩)/\tc 12=.pointer (some ⟨cu,0,none⟩)/\tc 14=.pointer (some ⟨cM,0,none⟩))->rt ?P ?n (.bool B) ?Q ?x ?y ?ms tc cd):= ?key;?arl
   case arl=>
    cases uk:L.wiped num with
    |true=>
     simp[go_sem, -af0, -af1];refine key true _ (by simp[uk]) ?_;refine⟨by simpa using f0,by simpa using bh,by simpa using bV,by simpa using bz,by simpa using dA,?_⟩;simp
    |false=>
     simp[go_sem,dA,wi,Yf,afZ,Er,gI, -af0, -af1];exact key (decide (aQ=bA)) _ (by simp[uk]) ⟨by simp[f0],by simp[bh],by simp[bV],by simp[bz],by simp[dA],by simp⟩
   case key=>
    rintro B tc eR ⟨fC,fX,jV,rS,af2,Yg⟩;obtain⟨⟨t3,io,dt⟩,qD⟩:∃y,(if L.wiped num=true\/aQ=bA then sg (ms c) dK cZ.J else(dK,(),0))=y:=⟨_,rfl⟩;rw[dE]at fa;simp only[qD]at fa;have Bd:144<=f_ cp dK:=by omega
    refine Hj (λf v=>f 0=.pointer (some ⟨k,0,none⟩)/\f 2=.pointer (some ⟨o,0,none⟩)/\f 3=.int .u16 num.val/\f 8=.pointer (some ⟨g+1,0,none⟩)/\f 12=.pointer (some ⟨cu,0,none⟩)/\f 14=.pointer (some ⟨cM,0,none⟩)/\dt=0/\
     v.1[cM]? =some (.cells (Y (if L.wiped num=true\/aQ=bA then ad else cZ.J)) 44 (0,0))/\∃zt,ga k m p c.n z c.aT ee es t3 v zt/\(∀j,zt j->ax O ab ai j\/(cd.1.size<=j/\j<v.1.size))/\D (λj=>ax O ab ai j\/j=cM) cd v) ?_ ?_
    ·cases B with
     |false=>
      have my:¬(L.wiped num=true\/aQ=bA):=λx=>by have:=eR.2 x;cases this
      rw[if_neg my]at qD;obtain⟨rfl,_,rfl⟩:dK=t3/\True/\(0:Int)=dt:=by grind
      simp[go_sem,my];exact⟨fC,fX,jV,rS,af2,Yg,Nm,_,cG,λj F=>.inl F,D.refl _ _⟩
     |true=>
      have Ss:=eR.1 rfl;rw[if_pos Ss]at qD;simp[go_sem,fC,Yg,Nm,Sr,afY];refine(aq6 ds e gy av cG Bd cZ.J uj.J).mono ?_;rw[qD];rintro _ eA ⟨rfl,eb,ev⟩;simp only at fa eb ev⊢;have Nn:=ev.size;have oi:∀j,ai.1.size<=j\/(g<=j/\j<g+2)->¬ax O ab ai j:=λj F e=>by
       rcases e with e|e
       ·exact ue j (by omega) e
       ·omega
      have lB:D O w bw:=(((aY.mono λ_ _ e=>e.elim).trans aA).trans (aE.mono λ_ _ e=>e.elim)).trans (pg.mono λ_ _ e=>e.elim);have Hk:D O w cd:=(lB.bJ aJ λj F e=>by simp only[aj]at e;omega).trans (co.mono λ_ _ e=>e.elim);have arm:D O w eA:=Hk.bJ ev λj F e=>e.elim id λe=>by omega
      have arn:=ev.obj Nm (oi cM (by omega));have xI:=ev.obj qC (oi (g+1) (by omega));by_cases CZ:dt=0
      ·subst CZ;have lA:((0:Int)!=0)=false:=by decide
       have aro:=bW cE;have arp:=dW cE;simp[go_sem,lA,oz,fC,fX,jV,rS,af2,Yg,arn,Sr,aro,arp,bQ];have ve:=(D.refl (aj cM) eA).setRow (g:=cM) (.inl rfl) (Y ad);have af3:=ve.size;refine⟨by rw[if_pos Ss],ax (ax O ab ai) cd eA,(aN t3).ch eb ve λj F e=> ?_,λj F=> ?_,(ev.mono λj _ e=>.inl e).bJ ve λj F e=>.inr e⟩
       ·simp only[aj]at e;rw[e]at F;rcases F with F|F
        ·exact oi cM (by omega) F
        ·omega
       ·exact F.imp id λe=>⟨e.1,by omega⟩
      ·have jR:(dt !=0)=true:=by simpa using CZ
       rw[if_pos (by simpa using CZ)]at fa;simp[go_sem,jR,X',rS,wd,we,CX,xJ,zu vc,xI,bQ];refine bL fa vc eb (λj F=> ?_) (λe=> ?_) arm (by omega) xI
       ·rcases F with(F|F)|F
        ·exact .inl F
        ·exact .inr ⟨by omega,by omega⟩
        ·exact .inr ⟨by omega,F.2⟩
       ·rcases e with e|e
        ·exact oi (g+1) (by omega) e
        ·omega
    ·rintro f v ⟨f0,bh,bV,bz,dA,f14,rfl,vN,zt,eb,No,dr⟩;have oi:∀j,ai.1.size<=j\/(g<=j/\j<g+2)->¬ax O ab ai j:=λj F e=>by
      rcases e with e|e
      ·exact ue j (by omega) e
      ·omega
     have lB:D O w bw:=(((aY.mono λ_ _ e=>e.elim).trans aA).trans (aE.mono λ_ _ e=>e.elim)).trans (pg.mono λ_ _ e=>e.elim);have Hk:D O w cd:=(lB.bJ aJ λj F e=>by simp only[aj]at e;omega).trans (co.mono λ_ _ e=>e.elim);have af4:D O w v:=Hk.bJ dr λj F e=>by
      rcases e with(e|e)|e
      ·exact e
      ·omega
      ·omega
     have sv:=dr.size;have Yh:=dr.obj wi λe=>e.elim (oi cu (by omega)) λe=>by omega
     have Yi:=dr.obj qC λe=>e.elim (oi (g+1) (by omega)) λe=>by omega
     rw[if_neg (by simp)]at fa;by_cases Np:aQ=bA
     ·rw[if_pos Np]at fa;have ez:kM (num.val,bA):=⟨by show num.val<65536;omega,ls⟩;have dN:=jr ls;have iz:=tO ls;have kG:=nG ez;have mW:=zu ez;subst Np;simp[go_sem,dA,bV,bz,Yh,dN,iz,Er,aq9,gI,Yi,wd,we,CX,kG,mW,xJ,bQ];refine bL fa ez eb (λj F=> ?_) (λe=> ?_) af4 (by omega) Yi
      ·rcases No j F with(F|F)|F
       ·exact .inl F
       ·exact .inr ⟨by omega,by omega⟩
       ·exact .inr ⟨by omega,F.2⟩
      ·rcases No _ e with e|e
       ·exact oi (g+1) (by omega) e
       ·omega
     ·rw[if_neg Np]at fa;simp[go_sem,dA,Yh,Yf,afZ,Er,gI,Np];have Yj:po v o base hI s_ L X bo Ba:=JU.ch dr (λj F e=> ?_) λj F e=> ?_
      rotate_left
      ·have i':=Yd j (.inl F);rcases e with e|e
       ·exact e.elim (CW j (.inl F)) λe=>by omega
       ·omega
      ·have i':=Yd j (.inr F);rcases e with e|e
       ·exact e.elim (CW j (.inr F)) λe=>by omega
       ·omega
      rw[bh,bV];refine(arq Yj num Bb).mono ?_;rintro td dC ⟨ae,bT,Nq,St,dX,af5⟩;have cI:=St.len Tryz.underlying309 3;have af6:=aq_ bT Nq xG;have CS:ae.length=C.length:=by rw[<-af6,List.length_map]
      simp[go_sem,cI];have hl:=(aN t3).ch eb dX λ_ _ e=>e;have qE:=dX.size;have Su:∀j,zt j->j<v.1.size:=(aN t3).lt eb;have aHr:f_ cp dK<=f_ cp t3+1312:=by
       by_cases Ss:L.wiped num=true\/aQ=bA
       ·rw[if_pos Ss]at qD;have:=afU ds e gy av dK cZ.J uj.J
        grind
       ·grind
      have arr:=dX.obj Yh id;have JV:=dX.obj Yi id;have Yk:=dX.obj vN id;have Sv:∀j,(g<=j/\j<g+2)\/(ai.1.size<=j/\j<cd.1.size)\/v.1.size<=j->¬zt j:=λj F e=>by
       rcases No j e with dM|dM
       ·rcases F with F|F|F
        ·exact oi j (.inr F) dM
        ·exact oi j (.inl F.1) dM
        ·have:=Su j e;omega
       omega
      have Be:∀j,td.ownBlock=some j->v.1.size<=j:=af5;refine du (λJ f u=>∃i er b' Q,J=C.length - i/\i<=C.length/\f 0=.pointer (some ⟨k,0,none⟩)/\f 3=.int .u16 num.val/\f 8=.pointer (some ⟨g+1,0,none⟩)/\f 12=.pointer (some ⟨cu,0,none⟩)/\f 14=.pointer (some ⟨cM,0,none⟩)/\f 67=td/\f 68=.int .i64 C.length/\f 69=.int .i64 (i:Nat)/\
        lW (ms c) aQ.k num.val (C.drop i) er b'=lW (ms c) aQ.k num.val C t3 []/\b'.length<=i/\(∀x∈b',mF x)/\u.ownsRow 0 229 42 (f 16) b'.length (dv et b')/\(∀j,(f 16).ownBlock=some j->dC.1.size<=j/\¬Q j)/\
        ga k m p c.n z c.aT ee es er u Q/\(∀j,Q j->ax zt dC u j)/\D zt dC u/\f_ cp t3<=f_ cp er+16*i) C.length
       ⟨0,t3,[],zt,rfl,Nat.zero_le _,by simp[f0],by simp[bV],by simp[bz],by simp[dA],by simp[f14],by simp,by simp[CS],by simp,rfl,Nat.le_refl _,by simp,by simpa[dv]using World.ownsRow_nil _ _ _ _,by simp[Value.ownBlock],hl,λj F=>.inl F,D.refl _ _,Nat.le_add_right _ _⟩ ?_
      rintro cJ bK _ f u ⟨i,er,b',Q,rfl,aa,f0,bV,bz,dA,f14,C_,Sw,Sx,ew,sj,gg,own,iR,an,eP,aJ,C'⟩;have He:=aJ.size;have af7:=aJ.obj arr (Sv cu (by omega));have wj:=aJ.obj JV (Sv (g+1) (by omega));have Hl:=aJ.obj Yk (Sv cM (by omega));have Bf:∀j,Q j->j<u.1.size:=(aN er).lt an;have xK:∀j,(g<=j/\j<g+2)\/(ai.1.size<=j/\j<cd.1.size)->¬Q j:=λj F e=>by
       rcases eP j e with dM|dM
       ·exact Sv j (F.imp id .inl) dM
       ·omega
      have EU:D O w u:=(af4.trans (dX.mono λ_ _ e=>e.elim)).bJ aJ λj F e=>by
       rcases No j e with(e|e)|e
       ·exact e
       ·omega
       ·omega
      have Sy:∀j,Q j->ax O w u j:=λj F=>by
       rcases eP j F with e|e
       ·rcases No j e with(e|e)|e
        ·exact .inl e
        ·exact .inr ⟨by omega,by omega⟩
        ·exact .inr ⟨by omega,by omega⟩
       ·exact .inr ⟨by omega,e.2⟩
      by_cases aO:i<C.length
      case neg=>
       have jm:¬(i:Int)<C.length:=by omega
       have zq:i=C.length:=by omega
       subst zq;rw[List.drop_length]at ew;have Da:lW (ms c) aQ.k num.val C t3 []=(er,b',0):=ew.symm.trans rfl;rw[Da]at fa;simp only at fa;rw[if_neg (by simp)]at fa;have ars:(if L.wiped num=true\/aQ=bA then ad else cZ.J)=(if L.wiped num=true then ad else cZ.J):=by simp[Np]
       rw[ars]at Hl;obtain⟨Yl,af8⟩:=az ((if L.wiped num=true then ad else cZ.J));have Ym:bN Yl:=by
        rw[<-af8];split
        ·exact cE
        ·exact uj.J
       rw[af8]at Hl fa;have art:=bW Ym;have aru:=dW Ym;have Yn:fA u (f 16) qA 42 b':=by
        have:=fA.fp own λx M=>mC (gg x M);exact this
       simp[go_sem,Sw,Sx,f0,f14,bV,Hl,art,aru];refine(af9 (EQ ds e gy av) aN an Yl Ym num.val (f 16) b' (by omega) Yn gg (λj F=>⟨(iR j F).2,oJ own j F⟩) (an.ck e).1 (ga.dJ e) (by omega)).mono ?_;obtain⟨⟨t4,hQ,cW⟩,kp⟩:∃y,pq (hH c.n) (hg c.n c.aT) (kK c.n) num.val er Yl b'=y:=⟨_,rfl⟩;rw[kp]at fa⊢;rintro _ Nr ⟨rfl,xL,hm,fK⟩;simp only at fa xL hm⊢;have Sz:=fK.size;have af_:=fK.obj af7 (xK cu (by omega));have arv:=fK.obj wj (xK (g+1) (by omega));have Yo:gR {aQ with J:=hQ}:=⟨ES.k,ES.n,ES.s,xL⟩;have SA:kM (num.val,{aQ with J:=hQ}):=⟨by show num.val<65536;omega,Yo⟩;have ia:=aed ES xL;have Hm:=bW xL;have arw:=jr Yo;have arx:=tO Yo;have Ns:=nG SA;have EV:=(D.refl (aj cu) Nr).setRow (g:=cu) (.inl rfl) (bk {aQ with J:=hQ});have af':(Nr.setRow cu (bk {aQ with J:=hQ})).1[cu]? =some (.cells (bk {aQ with J:=hQ}) 113 (0,0)):=by rw[gk,af_];rfl
       have Yp:=EV.obj arv λe=>by simp only[aj]at e;omega
       have ary:=EV.size;simp[go_sem,dA,af_,Yf,Hm,ia];obtain⟨aHs,arz⟩:=az (Nr.setRow cu (bk {aQ with J:=hQ}));rw[arz]at EV af' Yp ary⊢;simp[go_sem,bV,bz,dA,af',Yp,arw,arx,aga (num.val,{aQ with J:=hQ}) SA,wd,we,CX,Ns,zu SA,xJ,bQ];have arA:∀j,ax Q u Nr j->¬aj cu j:=λj F e=>by
        simp only[aj]at e;rcases F with F|F
        ·exact xK cu (by omega) (by rw[<-e];exact F)
        ·omega
       refine bL fa SA ((aN t4).ch hm EV arA) (λj F=> ?_) (λe=> ?_) ?_ (by omega) Yp
       ·rcases F with F|F
        ·exact(Sy j F).imp id λe=>⟨e.1,by omega⟩
        ·exact .inr ⟨by omega,by omega⟩
       ·rcases e with e|e
        ·exact xK (g+1) (by omega) e
        ·omega
       ·refine(EU.bJ fK λj F e=> ?_).bJ EV λj F e=>by simp only[aj]at e;omega
        exact(Sy j e).elim id λe=>by omega
      have jm:(i:Int)<C.length:=by omega
      obtain⟨x,M⟩:∃x,ae[i]? =some x:=⟨_,List.getElem?_eq_getElem (by omega)⟩;have arB:=List.mem_of_getElem? M;obtain⟨b,V,oO,JW,sk,arC,iS,vf⟩:=bT.val x arB;have Yq:C[i]? =some (x.1.val,b):=by
       rw[<-af6,List.getElem?_map,M];simp[V]
      have sl:C.drop i=(x.1.val,b)::C.drop (i+1):=by
       rw[List.drop_eq_getElem_cons aO];rw[List.getElem?_eq_getElem aO]at Yq;rw[Option.some.inj Yq]
      obtain⟨SB,nF,ui,arD,gq,cK⟩:=aq' (St.ch (S:=zt) aJ λj _ F e=>by have:=Be j F;have:=Su j e;omega) M;have gO:IntKind.i64.wrap ((i:Int)+1)=((i+1:Nat):Int):=by rw[IntKind.wrap_i64];omega
      have SC:=C_;rw[arD]at SC;have Xu:arC=b.length:=by
       obtain⟨gh,dg,dM,_⟩:=oO;rw[vf]at dM;injection dM
      subst Xu;rw[vf]at cK oO;have arE:∀j,(Value.slice sk b.length iS).ownBlock=some j->v.1.size<=j:=λj F=>JW j (by rw[vf];exact F);have arF:∀(bO:TypeId) (w':World),(Builtin.len_ #[101] bO #[.slice sk b.length iS]).run Tryz.prog w'=.ok (.int .i64 b.length) w':=λbO w'=>by simp[Builtin.len_,run_underlying Tryz.underlying101,goInt]
      have arG:=mC ER;have dh:mF (x.1.val,ad):=⟨by omega,cE⟩;have SD:=mC dh;simp[go_sem,SC,Sw,Sx,aO,jm,CS,gq,cK];obtain⟨JX,rp⟩:=az (u.alloc (.cells #[.int .u32 x.1.val,.slice sk b.length iS] 312));rw[rp];have cx:=(D.refl ak u).alloc (.cells #[.int .u32 x.1.val,.slice sk b.length iS] 312);have pt:=cl u (.cells #[.int .u32 x.1.val,.slice sk b.length iS] 312);have agb:(u.alloc (.cells #[.int .u32 x.1.val,.slice sk b.length iS] 312)).1.size=u.1.size+1:=by simp
      rw[rp]at cx pt agb;obtain⟨vg,zv⟩:=az (u.1.size);rw[zv]at pt agb⊢;clear rp;have arH:=(aN er).ch an cx λ_ _ e=>e;have arI:=ej own cx λ_ _ e=>e;have arJ:=cx.obj af7 id;have arK:=cx.obj wj id;have arL:=cx.obj Hl id;have agc:=aG pt 0;have arM:=aG pt 1;have fg:=(D.refl ak JX).alloc (.cells (et (x.1.val,ad)) 229);have SE:=cl JX (.cells (et (x.1.val,ad)) 229);have agd:(JX.alloc (.cells (et (x.1.val,ad)) 229)).1.size=JX.1.size+1:=by simp
      obtain⟨zw,Nt⟩:=az (JX.alloc (.cells (et (x.1.val,ad)) 229));rw[Nt]at fg SE agd;have age:zw.cell? ⟨vg,0,none⟩=some (.int .u32 x.1.val):=fg.cell agc id;have agf:zw.cell? ⟨vg,1,none⟩=some (.slice sk b.length iS):=fg.cell arM id;simp[go_sem,agc,age,agf,arc,Hf,Hg,arG,SD,SF,bQ,Nt,arF];obtain⟨qF,SG⟩:=az (JX.1.size);rw[SG]at SE agd⊢;clear Nt;have agh:=(aN er).ch arH fg λ_ _ e=>e;have arN:=ej arI fg λ_ _ e=>e;have arO:=fg.obj arJ id;have arP:=fg.obj arK id;have aHt:=fg.obj arL id;have aHu:=aJ.size;have agi:∀j,u.1.size<=j->¬Q j:=λj F e=>by have:=Bf j e;omega
      refine Hj (λf' N=>f' 0=.pointer (some ⟨k,0,none⟩)/\f' 3=.int .u16 num.val/\f' 8=.pointer (some ⟨g+1,0,none⟩)/\f' 12=.pointer (some ⟨cu,0,none⟩)/\f' 14=.pointer (some ⟨cM,0,none⟩)/\f' 16=f 16/\f' 67=td/\f' 68=.int .i64 C.length/\f' 69=.int .i64 (i:Nat)/\f' 19=.pointer (some ⟨qF,0,none⟩)/\∃JY P,
        N.1[qF]? =some (.cells (et (x.1.val,P)) 229 (0,0))/\bN P/\ga k m p c.n z c.aT ee es JY N (ax Q zw N)/\D (λj=>Q j\/j=qF) zw N/\f_ cp er<=f_ cp JY+16/\
        lW (ms c) aQ.k num.val (C.drop i) er b'=lW (ms c) aQ.k num.val (C.drop (i+1)) JY (b'++[(x.1.val,P)])) ?_ ?_
      ·by_cases Yr:b=[]
       ·subst Yr;have agj:lW (ms c) aQ.k num.val (C.drop i) er b'=lW (ms c) aQ.k num.val (C.drop (i+1)) er (b'++[(x.1.val,ad)]):=by
         rw[sl];exact(lW.eq_2 _ _ _ _ _ _ _ _).trans (if_pos rfl)
        simp[go_sem];exact⟨f0,bV,bz,dA,f14,C_,Sw,Sx,er,ad,SE,cE,(aN er).ex agh (λj F=>.inl F) (ax.lt (λj F=>by have:=Bf j F;omega) (Nat.le_refl _)),D.refl _ _,Nat.le_add_right _ _,agj⟩
       ·have pb:b.length=512:=(arf _ (List.mem_of_getElem? Yq)).resolve_left Yr;have Ys:0<b.length:=by omega
        simp[go_sem,Ys];refine cD [A 0,A 1,A 2,A 4,A 5,A 6,A 8,A 9,(3,some [0,4,5,6,8,9]),A 7,(10,some []),A 11,A 12,A 13,A 14,(15,some [13]),A 16] ?_;have dU:=(D.refl ak zw).drew;obtain⟨hU,pm⟩:=az (zw.drew);have jv:hU.1.size=zw.1.size:=by rw[<-pm];rfl
        rw[pm]at dU⊢;have ru:=(aN er).ch agh dU λ_ _ e=>e;have SH:=dU.obj arO id;have pX:=dU.obj arP id;have arQ:=dU.obj SE id;have agk:=dU.cell age id;have agl:=dU.cell agf id;have qr:hU.cell? ⟨cu,0,none⟩=some (.int .u8 aQ.k):=(aG SH 0).trans (by simp[bk]);simp[go_sem,f0,bV,dA,qr,agk,agl];refine(aoX aQ.k hU ES.k (ru.ck e).2.2).mono ?_;rintro _ arR ⟨rfl,zx⟩;subst arR;simp[go_sem,f0,bV,dA,qr,agk,agl,ara];obtain⟨bp,arS,tL⟩:∃bp,sk=some bp/\∀j u,(bm b)[j]? =some u->dC.cell? (bp.add j)=some u:=by
         obtain⟨gh,dg,dM,_,_,af⟩:=oO;obtain⟨bp,aW,aU⟩:=af (by rw[eB];exact Ys);injection dM with aK;exact⟨bp,aK.trans aW,aU⟩
        subst arS;have arT:bD dC (.slice (some bp) b.length iS) 512 (bm b):=by rw[<-pb];exact oO
        have aHv:v.1.size<=bp.block:=arE _ rfl;have aHw:bp.block<dC.1.size:=by
         obtain⟨rn,Nu⟩:∃rn,(bm b)[0]? =some rn:=⟨_,List.getElem?_eq_getElem (by rw[eB];exact Ys)⟩;have:=World.block_lt_of_cell? dC _ (tL 0 rn Nu);rw[Mp]at this;exact this
        have arU:bD u (.slice (some bp) b.length iS) 512 (bm b):=arT.ch aJ λj F e=>by
         have jt:bp.block=j:=by simpa[Value.ownBlock]using F
         have:=Su j e;omega
        have arV:bD hU (.slice (some bp) b.length iS) 512 (bm b):=((arU.ch cx λ_ _ e=>e).ch fg λ_ _ e=>e).ch dU λ_ _ e=>e;refine(afS ds e gy av ru (by omega) (kL aQ.k num.val x.1.val) (arb (by omega) (by omega)) b pb _ arV λj F=> ?_).mono ?_
        ·have jt:bp.block=j:=by simpa[Value.ownBlock]using F
         refine⟨λe=> ?_,by omega⟩;rcases eP j e with dM|dM
         ·have:=Su j dM;omega
         ·omega
        obtain⟨⟨t5,Hn,fD⟩,agm⟩:∃y,hg c.n c.aT er (kL aQ.k num.val x.1.val) b=y:=⟨_,rfl⟩;have AP:=Nc ds c.n c.aT er (kL aQ.k num.val x.1.val) b;rw[agm]at AP⊢;rintro _ mr ⟨rfl,SI,jn,lX⟩;simp only at SI jn AP⊢;have Yt:=lX.size;have agn:=lX.obj arQ (agi qF (by omega));have arW:=lX.obj pX (xK (g+1) (by omega));have arX:=bW SI;have arY:=ard (o:=x.1.val) SI;have Nv:=(D.refl (aj qF) mr).setRow (g:=qF) (.inl rfl) (et (x.1.val,Hn));have ago:(mr.setRow qF (et (x.1.val,Hn))).1[qF]? =some (.cells (et (x.1.val,Hn)) 229 (0,0)):=by rw[gk,agn];rfl
        have Yu:=Nv.obj arW λe=>by simp only[aj]at e;omega
        have Yv:=Nv.size;simp[go_sem,f0,bV,bz,dA,agn,SD,arX,sN,arY];obtain⟨arZ,SJ⟩:=az (mr.setRow qF (et (x.1.val,Hn)));rw[SJ]at Nv ago Yu Yv⊢;have ar0:∀j,ax Q hU mr j->¬aj qF j:=λj F e=>by
         simp only[aj]at e;rcases F with F|F
         ·exact agi qF (by omega) (by rw[<-e];exact F)
         ·omega
        have gJ:=(aN t5).ch jn Nv ar0;have agp:D (λj=>Q j\/j=qF) zw arZ:=((dU.mono λ_ _ e=>e.elim).trans (lX.mono λ_ _ e=>.inl e)).trans (Nv.mono λ_ _ e=>.inr e);have JZ:lW (ms c) aQ.k num.val (C.drop i) er b'=if fD≠0 then(t5,[],fD)else lW (ms c) aQ.k num.val (C.drop (i+1)) t5 (b'++[(x.1.val,Hn)]):=by
         rw[sl];refine(lW.eq_2 _ _ _ _ _ _ _ _).trans ((if_neg Yr).trans ?_);have wk:(ms c).nw er (kL aQ.k num.val x.1.val) b=(t5,Hn,fD):=agm;rw[wk]
        by_cases EW:fD=0
        ·subst EW;have lA:((0:Int)!=0)=false:=by decide
         rw[if_neg (by simp)]at JZ;simp[go_sem,lA];exact⟨f0,bV,bz,dA,f14,C_,Sw,Sx,t5,Hn,ago,SI,(aN t5).ex gJ (λj F=>F.imp id λe=>⟨by omega,by omega⟩) (ax.lt (λj F=>by have:=Bf j F;omega) (by omega)),agp,by omega,JZ⟩
        ·have jR:(fD !=0)=true:=by simpa using EW
         rw[if_pos EW]at JZ;have J_:lW (ms c) aQ.k num.val C t3 []=(t5,[],fD):=by rw[<-ew,JZ]
         rw[J_]at fa;simp only at fa;rw[if_pos EW]at fa;simp[go_sem,jR,X',bz,wd,we,CX,xJ,zu vc,Yu,bQ];refine bL fa vc gJ (λj F=> ?_) (λe=> ?_) ?_ (by omega) Yu
         ·rcases F with F|F
          ·exact(Sy j F).imp id λe=>⟨e.1,by omega⟩
          ·exact .inr ⟨by omega,by omega⟩
         ·rcases e with e|e
          ·exact xK (g+1) (by omega) e
          ·omega
         ·refine((EU.trans (cx.mono λ_ _ e=>e.elim)).trans (fg.mono λ_ _ e=>e.elim)).bJ agp λj F e=> ?_;rcases e with e|e
          ·exact(Sy j e).elim id λe=>by omega
          ·omega
      ·rintro f' N ⟨ar1,ar2,ar3,ar4,ar5,Yw,SC,ar6,ar7,SK,JY,P,zy,fy,fu,pW,aHx,ar8⟩;have Yx:=pW.size;have oN:mF (x.1.val,P):=⟨by omega,fy⟩;have agq:=mC oN;have ar9:=Ni oN;have aHy:∀j,j<u.1.size->¬(j=qF):=λj F e=>by omega
       have ar_:zw.ownsRow 0 229 42 (f' 16) b'.length (dv et b'):=by rw[Yw];exact arN
       have ar':=ej ar_ pW λj F e=>by
        rw[Yw]at F;have H:=iR j F;have I:=oJ own j F
        grind
       simp[go_sem,↓yK,SK,zy,agq,ar9];refine AH (Yy oN _) ?_;simp[go_sem];refine va (n:=b'.length) (us:=(et (x.1.val,P)).toList) Nw ar' (by rw[Array.length_toList,agq]) (CP (SF _)) (by unfold maxLen;omega) (by omega) λkD agr rq rr xA=> ?_;have asa:=rr.size;have n6:∀j,(f' 16).ownBlock=some j->dC.1.size<=j/\¬Q j/\j<u.1.size:=λj F=>by
        rw[Yw]at F;exact⟨(iR j F).1,(iR j F).2,oJ own j F⟩
       have Nx:=(aN JY).ch fu rr λj F e=>by
        have:=n6 j e;rcases F with F|F
        ·exact this.2.1 F
        ·omega
       have Yz:dv et (b'++[(x.1.val,P)])=dv et b'++(et (x.1.val,P)).toList:=by rw[xi,yE]
       have asb:∀j,ax Q zw N j->ax zt dC agr j:=λj F=>by
        rcases F with F|F
        ·exact(eP j F).imp id λe=>⟨e.1,by omega⟩
        ·exact .inr ⟨by omega,by omega⟩
       have asc:D zt dC agr:=(((aJ.trans (cx.mono λ_ _ e=>e.elim)).trans (fg.mono λ_ _ e=>e.elim)).bJ pW λj F e=>by
        rcases e with e|e
        ·exact(eP j e).elim id λe=>by omega
        ·omega).bJ rr λj F e=>by have:=(n6 j e).1;omega
       simp[go_sem,ar7,gO];refine cH.intro (C.length -(i+1)) (by omega) (bK _ _ _ ⟨i+1,JY,b'++[(x.1.val,P)],ax Q zw N,rfl,by omega,by simp[ar1],by simp[ar2],by simp[ar3],by simp[ar4],by simp[ar5],by simp[SC],by simp[ar6],by simp,by rw[<-ar8,ew],by rw[List.length_append,List.length_singleton];omega,λy ar=> ?_,?_,λj F=> ?_,Nx,asb,asc,by omega⟩)
       ·rcases List.mem_append.1 ar with ar|ar
        ·exact gg y ar
        ·rw[List.mem_singleton]at ar
         grind
       ·rw[show(b'++[(x.1.val,P)]).length=b'.length+1 by simp,Yz];simpa using rq
       ·have jt:kD.ownBlock=some j:=by simpa using F
        rcases xA with e|e
        ·rw[e]at jt;have:=n6 j jt;exact⟨this.1,λe=>e.elim this.2.1 λe=>by omega⟩
        ·have:=e j jt;exact⟨by omega,λe=>e.elim (λe=>by have:=Bf j e;omega) λe=>by omega⟩
 ·have jR:(aW !=0)=true:=by simpa using Hc
  rw[if_pos (by simpa using Hc)]at fa;simp[go_sem,jR,X',wd,we,CX,xJ,zu vc,iL,bQ];refine bL fa vc af (λj F=> ?_) (λe=> ?_) ?_ (by omega) iL
  ·rcases F with F|F
   ·exact .inl F
   ·exact .inr ⟨by omega,by omega⟩
  ·rcases e with e|e
   ·exact ue _ (by omega) e
   ·omega
  ·exact((aY.mono λ_ _ e=>e.elim).trans aA).trans (aE.mono λ_ _ e=>e.elim)
end
end Go.Proofs.YtoohkhcpboldjaaGreatDoor
