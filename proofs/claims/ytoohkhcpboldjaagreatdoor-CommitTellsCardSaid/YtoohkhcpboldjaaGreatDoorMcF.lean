/- A state, as a value. No condition. -/
import Derived.Test.YtoohkhcpboldjaaGreatDoorMcE
import Derived.Test.YtoohkhcpboldjaaGreatDoorOwE
set_option maxRecDepth 100000
set_option maxHeartbeats 4000000
set_option linter.unusedSimpArgs false
set_option linter.unusedVariables false
namespace Go.Proofs.YtoohkhcpboldjaaGreatDoor
open Go.RowKit Go.Kin Tryz
theorem ae2{w:M}{K:N->M->Prop}:jb prog 227 [] w K=K (.agg (e_ (0,bp))) w:=by
 refine ma underlying227 Bl (places:=#[(0,1),(1,44)]) (by simp[go_sem]) ?_;simp[jw,Bm]
theorem aAK{w:M}{K:N->M->Prop}(n:Nat):jb prog 227 [(0,.int .u16 n)] w K=K (.agg (e_ (n,bp))) w:=by
 refine ma underlying227 Bl (places:=#[(0,1),(1,44)]) (by simp[go_sem]) ?_;have hz:=rP zD;simp[jw,Bm,Value.cells,hz,uf];simp[dT,e_,uC]
theorem ae3{aF:Type}{ba:aF->jf}{m:aF->Nat}{rd:Src aF}{sv:N}(aA:pL ba m rd sv)(s:aF)(p:Pt)(n:Nat):m s<=m (kI rd s p n).1+48:=by
 unfold kI;have J:=TH aA s p (n / 4);have T:=ae4 aA (dz rd s p (n / 4)).1 (dz rd s p (n / 4)).2.1
 grind
theorem ae5{aF:Type}(rd:Src aF)(s:aF)(p:Pt)(n:Nat):fu (kI rd s p n).2.1:=by
 unfold kI;split
 ·exact jy
 ·split
  ·exact jy
  ·simp only;have h:=ae6 rd (dz rd s p (n / 4)).1 (dz rd s p (n / 4)).2.1;rw[lk]
   cases aV:(hC rd (dz rd s p (n / 4)).1 (dz rd s p (n / 4)).2.1).2.1[n%4]? with
   |none=>exact jy
   |some x=>exact h.all x (ib aV)
section
variable {k m p o vE:Nat}{z:fV}{Cn:zE}{ep w w':M}{eB X bw:Nat->Prop}{base fZ:N}{D:cV}{t:eb}{O:Nat->Prop}{cL:eb->Nat}{c:jt}
structure ae7(D:cV)(num:dp)(C:List (Nat×List UInt8)):Prop where
 lt:C.Pairwise λx y=>x.1<y.1
 pb:∀x,x∈C↔∃o:gn,x.1=o.val/\D.lf (num,o)=some x.2
theorem anG:∀{l nx:List (Nat×List UInt8)},l.Pairwise (λx y=>x.1<y.1)->nx.Pairwise (λx y=>x.1<y.1)->(∀x,x∈l↔x∈nx)->l=nx
 |[],[],_,_,_=>rfl
 |[],y::nx,_,_,h=>absurd ((h y).2 (by simp)) (by simp)
 |x::l,[],_,_,h=>absurd ((h x).1 (by simp)) (by simp)
 |x::l,y::nx,J,T,h=>by
  rw[oW]at J T;have G':x=y:=by
   rcases io.1 ((h x).1 (by simp))with e|e
   ·exact e
   ·grind
  subst G';rw[anG J.2 T.2 λz=> ?_]
  grind
theorem aAL{num:dp}{Y w:M}{L:List vF}{C:List (Nat×List UInt8)}(b_:MA D num Y w L)(aA:L.Pairwise (λx y=>x.1<y.1))(rb:ae7 D num C):L.map (λx=>(x.1.val,(D.lf (num,x.1)).getD []))=C:=by
 refine anG ?_ rb.lt λx=> ?_
 ·grind
 ·rw[rb.pb,lF];constructor
  ·rintro⟨y,ar,rfl⟩;obtain⟨b,ab,_⟩:=b_.val y ar
   grind
  ·rintro⟨o,J,T⟩;obtain⟨y,ar,e⟩:=lF.1 ((b_.pb o).2 (by rw[T];rfl))
   grind
theorem anH(dC:kG cL)(e:sw ep eB)(hq:c.bf<18446744073709551616)(aq:c.n<=65536)(h:hc k m p c.n z c.bf ep eB t w O)(aC:16<=gX cL t)(q:Pt)(ok:cc q)(b:cW)(ab:b.length=512)(v:N)(aM:bC w v 512 (br b))(g_:∀j,v.ownBlock=some j->¬O j/\j<w.1.size):
  bc prog 125 #[az k,.agg (ae q),v] w λv' w'=>v'=.tuple #[.agg (ae (it c.n c.bf t q b).2.1),aa (it c.n c.bf t q b).2.2]/\cc (it c.n c.bf t q b).2.1/\hc k m p c.n z c.bf ep eB (it c.n c.bf t q b).1 w' (aE O w w')/\H O w w':=by
 obtain⟨lv,b_,_⟩:=h.cv e;obtain⟨a_,A,ey,J,T,ag,aP⟩:=h;obtain⟨aW,bg,bR⟩:=PG dC aC;refine(am4 J q ok hq aq b ab v aM (λj I=>⟨λx=>(g_ j I).1 (T j x).1,(g_ j I).2⟩) lv.qQ b_ (λj I x=>(T j x).2 (e.d' j (by rcases I with rfl|rfl;exact .inl (.inl rfl);exact .inr (.inl rfl)))) aW (by omega) (by omega)).mono ?_;rintro _ w' ⟨rfl,⟨jr,gM,GV,fh,fv⟩,c⟩;obtain⟨cC,cj⟩:=hc.step J T ag aP fh fv c λj I=>I;exact⟨rfl,anz hq aq ok b,cC,cj⟩
theorem anI(dC:kG cL)(n:Nat):∀(l:List Pt) (t:eb),gX cL t<=gX cL (l.foldl (lR n) t)+16*l.length
 |[],t=>Cd _ _
 |q::l,t=>by
  have J:=Zd dC n t q;have T:=anI dC n l (lR n t q)
  grind
theorem anJ(dC:kG cL)(e:sw ep eB)(hq:c.bf<18446744073709551616)(aq:c.n<=65536)(t:eb)(q:Pt)(ok:cc q):gX cL t<=gX cL (uA (ms c) t q).1+1312:=by
 have J:=aAM (JH (k:=0) (m:=0) (p:=0) (z:=⟨λ_=>0,0,λ_=>0⟩) dC e hq aq).rd t q;obtain⟨qS,fx,gB,JI⟩:=anB (iR c.n) t q ok;have nB:(ms c).rd=iR c.n:=rfl;have Bj:(ms c).ca=lR c.n:=rfl;unfold uA;rw[nB,Bj];simp only;split
 ·simp only;omega
 ·have T:=anI dC c.n ((lS (iR c.n) t q).2.1.map (·.2)++(lS (iR c.n) t q).2.2.1) (lS (iR c.n) t q).1
  grind
theorem aAN{w:M}{v:N}{L:List vF}(h:fC w v uD 2 L){i:Nat}{x:vF}(ad:L[i]? =some x):∃b off nT,v=.slice (some ⟨b,off,none⟩) L.length nT/\w.cell? (bl b (off+i*2))=some (.int .u32 x.1.val)/\w.cell? (bl b (off+i*2+1))=some x.2.val:=by
 obtain⟨A,nT,rfl,_,_,ag⟩:=h;obtain⟨b,off,rfl,ab,ax⟩:=ag (by grind);exact⟨b,off,nT,rfl,ax i x 0 _ ad rfl,ax i x 1 _ ad rfl⟩
theorem aAO{w:M}{K:N->M->Prop}(k n o:Nat):jb prog 44 [(0,.int .u8 (jQ k)),(2,.int .u16 n),(3,.int .u32 o)] w K=K (.agg (ae (lT k n o))) w:=by
 refine ma underlying44 gO (places:=#[(0,1),(1,1),(2,1),(3,1),(4,1),(5,32),(37,4)]) (by simp[go_sem]) ?_;simp[jw,gP,Value.cells,uf,cd cH];simp[dT,ae,ah,lT,eO,hg,DT];rfl
theorem aAP{k n o:Nat}(aq:n<65536)(av:o<4294967296):cc (lT k n o):=⟨by show jQ k<256;unfold jQ;grind,by simp[lT],by simpa[lT]using aq,by simpa[lT]using av,by simp[lT],by simp[lT],by simp[lT],by simp[lT]⟩
theorem aAQ{w:M}{K:N->M->Prop}(o:Nat):jb prog 229 [(0,.int .u32 o)] w K=K (.agg (ft (o,ah))) w:=by
 refine ma underlying229 PL (places:=#[(0,1),(1,41)]) (by simp[go_sem]) ?_;simp[jw,PM,Value.cells,uf,ra Mz];simp[dT,ft,sx]
theorem aAR{o:Nat}{q:Pt}(ok:cc q):dT (ft (o,ah)) 1 (ae q)=ft (o,q):=by
 have h:=cd ok;have hz:=cd cH;unfold dT;apply ip;simp[ft,sx,h,hz]
theorem aAS(dC:kG cL)(e:sw ep eB)(hq:c.bf<18446744073709551616)(aq:c.n<=65536)(h:hc k m p c.n z c.bf ep eB t w O)(aC:12000<=gX cL t)(st:et)(ok:gi st)(av:jg w o base fZ vE D X bw Cn)(Ha:∀j,X j\/bw j->¬O j)(num:dp)(Hb:vE<=100000)(C:List (Nat×List UInt8))(rb:ae7 D num C)(aRh:C.length<=64)(aAT:∀y∈C,y.2=[]\/y.2.length=512):
  bc prog 122 #[az k,.agg (bN st),az o,.int .u16 num.val] w λv' w'=>
   v'=.tuple #[.agg (e_ (na (ms c) st.dd (D.aZ num) (D.wiped num) C num.val t).2.1),aa (na (ms c) st.dd (D.aZ num) (D.wiped num) C num.val t).2.2]/\pT (na (ms c) st.dd (D.aZ num) (D.wiped num) C num.val t).2.1/\
   hc k m p c.n z c.bf ep eB (na (ms c) st.dd (D.aZ num) (D.wiped num) C num.val t).1 w' (aE O w w')/\H O w w':=by
 refine bz func122 ntmps122 λbk af=> ?_;have nG:=lo ok;have mg:=un ok;have eS:=S_ ok;have aT:=hc.ok k m p c.n z c.bf ep eB;have ak:=(aT t).lt h;have MB:=rP zD;simp[go_sem,nG,mg,Bl,Bm];have aU:=((H.refl al w).alloc (.cells (bN st) 46)).alloc (.cells (e_ (0,bp)) 227);have bu:=oF w (.cells (bN st) 46) (.cells (e_ (0,bp)) 227);have bt:=nM w (.cells (bN st) 46) (.cells (e_ (0,bp)) 227);have gZ:((w.alloc (.cells (bN st) 46)).alloc (.cells (e_ (0,bp)) 227)).1.size=w.1.size+2:=by simp
 obtain⟨ai,dx⟩:=aD ((w.alloc (.cells (bN st) 46)).alloc (.cells (e_ (0,bp)) 227));rw[dx]at aU bu bt gZ⊢;obtain⟨g,aH⟩:=aD (w.1.size);rw[aH]at bu bt gZ⊢;clear dx;have J:=(aT t).ch h aU λ_ _ e=>e;have sy:=av.ch aU (λ_ _ e=>e) λ_ _ e=>e;rw[eS];have wL:∀j,g<=j->¬O j:=λj I e=>by have:=ak j e;omega
 refine(anK (JH dC e hq aq).rd (by omega) aT J st.dd ok.dd num.val (by omega) (J.cv e).1 (hc.d' e)).mono ?_;have fz:na (ms c) st.dd (D.aZ num) (D.wiped num) C num.val t=let w:=kI (iR c.n) t st.dd num.val
  if w.2.2≠0 then(w.1,(0,bp),w.2.2)else
  let i':=(D.aZ num).getD w.2.1;let x:=if D.wiped num=true\/i'=bp then uA (ms c) w.1 w.2.1.V else(w.1,(),0)
  if x.2.2≠0 then(x.1,(0,bp),x.2.2)else
  if i'=bp then(x.1,(num.val,bp),0)else
  let k:=nb (ms c) i'.k num.val C x.1 []
  if k.2.2≠0 then(k.1,(0,bp),k.2.2)else
  let y:=rc (iR c.n) (it c.n c.bf) (lR c.n) num.val k.1 (if D.wiped num=true then ah else w.2.1.V) k.2.1
  (y.1,(num.val,{i' with V:=y.2.1}),y.2.2):=rfl
 have wM:=ae5 (iR c.n) t st.dd num.val;have anL:=ae3 (JH (k:=k) (m:=m) (p:=p) (z:=z) dC e hq aq).rd t st.dd num.val;obtain⟨⟨el,cX,aR⟩,fD⟩:∃y,kI (iR c.n) t st.dd num.val=y:=⟨_,rfl⟩;rw[fD]at wM anL fz⊢;simp only at wM anL fz⊢;rintro _ an ⟨rfl,T,aK⟩;have cR:=aK.size;have jU:=aK.obj bu (wL g (c_ _));have jS:=aK.obj bt (wL (g+1) (by omega));have zF:=sy.ch aK (λj I=>Ha j (.inl I)) λj I=>Ha j (.inr I);have eF:=hA wM;have fN:=tj wM;have ee:=hA jy;have aI:=(H.refl al an).alloc (.cells (aZ cX) 113);have zG:=cr an (.cells (aZ cX) 113);simp[go_sem,uj,uk,eF,fN,ee,bS];obtain⟨aJ,ik⟩:=aD (an.alloc (.cells (aZ cX) 113));rw[ik]at aI zG⊢;have iC:aJ.1.size=an.1.size+1:=by rw[<-ik];simp
 obtain⟨cj,qN⟩:=aD (an.1.size);rw[qN]at zG iC⊢;clear ik;have ag:=(aT el).ch T aI λ_ _ e=>e;have qr:=aI.obj jU id;have jK:=aI.obj jS id;have TI:=zF.ch aI (λ_ _ e=>e) λ_ _ e=>e;have bU:∀{u:M} {eP:eb} {hd:Nat×bF} {ek:Int} {Q:Nat->Prop},na (ms c) st.dd (D.aZ num) (D.wiped num) C num.val t=(eP,hd,ek)->pT hd->hc k m p c.n z c.bf ep eB eP u Q->(∀j,Q j->aE O w u j)->¬Q (g+1)->H O w u->an.1.size<=u.1.size->
   u.1[g+1]? =some (.cells (e_ (0,bp)) 227 (0,0))->bk (.tuple #[.agg (e_ hd),aa ek]) (u.setRow (g+1) (e_ hd)):=λ{u eP hd ek Q} Z cG aN eT Bn aS aA ab=>by
  have kb:=(H.refl (aj (g+1)) u).setRow (g:=g+1) (.inl rfl) (e_ hd);have fd:=kb.size;rw[Z]at af;refine af _ _ ⟨rfl,cG,(aT eP).eK ((aT eP).ch aN kb λj I e=>Bn (by simp only[aj]at e;rw[<-e];exact I)) (λj I=>(eT j I).imp id λe=>⟨e.1,by omega⟩) (aE.lt ak (by have:=aS.size;omega)),aS.bZ kb λj I e=>by simp only[aj]at e;omega⟩
 by_cases Mx:aR=0
 ·subst Mx;have kH:((0:Int)!=0)=false:=by decide
  rw[aQ (by decide)]at fz;simp[go_sem,kH];refine(aAU TI num).mono ?_;rintro _ bs ⟨rfl,bo⟩;obtain⟨y,ar⟩:=aD ((D.aZ num).getD bp:bF);have TJ:fu y:=by
   rw[<-ar]
   cases ad:D.aZ num with
   |none=>exact jy
   |some x=>exact av.Hc _ _ ad
  obtain⟨bd,dO⟩:=aD ((D.aZ num).getD cX:bF);have JK:fu bd:=by
   rw[<-dO]
   cases ad:D.aZ num with
   |none=>exact wM
   |some x=>exact av.Hc _ _ ad
  have MC:=hA TJ;have JF:=tj TJ;have jo:=bo.size;have bE:=(H.refl al bs).alloc (.cells (aZ y) 113);have Zg:=cr bs (.cells (aZ y) 113);have kV:(bs.alloc (.cells (aZ y) 113)).1.size=bs.1.size+1:=by simp
  rw[ar];simp[go_sem,uj,uk,MC,JF,ee,bS];obtain⟨bD,qq⟩:=aD (bs.alloc (.cells (aZ y) 113));rw[qq]at bE Zg kV⊢;obtain⟨cO,ae8⟩:=aD (bs.1.size);rw[ae8]at Zg kV⊢;clear qq;have pd:=bo.trans bE;have bH:=(aT el).ch ag pd λ_ _ e=>e;have Hd:=pd.obj qr id;have sj:=pd.obj jK id;have TK:=pd.obj zG id;have SF:=TI.ch pd (λ_ _ e=>e) λ_ _ e=>e;refine Jf (λf u=>f 0=az k/\f 2=az o/\f 3=.int .u16 num.val/\f 8=.pointer (some ⟨g+1,0,none⟩)/\f 10=az cj/\f 12=az cO/\
   u.1[cO]? =some (.cells (aZ bd) 113 (0,0))/\H (aj cO) bD u) ?_ ?_
  ·cases ad:D.aZ num with
   |none=>
    rw[ad]at dO;have dO:cX=bd:=dO;subst dO;simp[go_sem,TK,Zg,eF,fN,bS,MC];exact(H.refl (aj cO) bD).setRow (g:=cO) (.inl rfl) _
   |some x=>
    rw[ad]at dO ar;have dO:x=bd:=dO;have ar:x=y:=ar;subst dO;subst ar;simp[go_sem];exact⟨Zg,H.refl _ _⟩
  ·rintro f u ⟨f0,bg,bR,bB,fA,dj,ab,aS⟩;have aAV:=IP wM;have tn:=cd wM.V;have ae9:=ef wM.V;have DX:=cd cH;have xY:∀j,j≠cO->¬aj cO j:=λj I e=>I e;have u2:=aS.obj TK (xY cj (by omega));have gw:=aS.obj sj (xY (g+1) (by omega));have zH:∀j,X j\/bw j->j<w.1.size:=λj I=>av.lt j I;have ae_:=SF.ch aS (λj I=>xY j (by have:=zH j (.inl I);omega)) λj I=>xY j (by grind);have aAW:=(aT el).lt ag;have ap:=(aT el).ch bH aS λj I=>xY j (by have:=aAW j I;omega);have JJ:=aS.size;have cF:=(H.refl al u).alloc (.cells (ae cX.V) 44);have TL:=cr u (.cells (ae cX.V) 44);have qs:(u.alloc (.cells (ae cX.V) 44)).1.size=u.1.size+1:=by simp
   simp[go_sem,fA,bg,bR,u2,eF,aAV,tn,ae9,DX,gO,gP,bS];obtain⟨cD,nc⟩:=aD (u.alloc (.cells (ae cX.V) 44));rw[nc]at cF TL qs⊢;obtain⟨cA,vG⟩:=aD (u.1.size);rw[vG]at TL qs⊢;clear nc;have cS:=(aT el).ch ap cF λ_ _ e=>e;have Eo:=ae_.ch cF (λ_ _ e=>e) λ_ _ e=>e;have zI:=cF.obj ab id;have sz:=cF.obj gw id;have ae':=hA JK;have anM:=tj JK;have ho:=λY=>Sx Y JK jy;refine(aAX Eo num).mono ?_;rintro _ cE ⟨rfl,hX⟩;subst cE;refine have key:(∀(B:Bool) (vH:Nat->N),(B=true↔D.wiped num=true\/bd=bp)->(vH 0=az k/\vH 2=az o/\vH 3=.int .u16 num.val/\vH 8=.pointer (some ⟨g+1,0,none⟩)/\vH 12=az cO/\vH 14=az cA)->tH ?P ?n (.bool B) ?Q ?x ?y ?ms vH cD):= ?key;?aAY
   case aAY=>
    cases wN:D.wiped num with
    |true=>
     simp[go_sem, -anN, -anO];refine key true _ (by simp[wN]) ?_;refine⟨by simpa using f0,by simpa using bg,by simpa using bR,by simpa using bB,by simpa using dj,?_⟩;simp
    |false=>
     simp[go_sem,dj,zI,ae',anM,Ef,ho, -anN, -anO];exact key (decide (bd=bp)) _ (by simp[wN]) ⟨by simp[f0],by simp[bg],by simp[bR],by simp[bB],by simp[dj],by simp⟩
   case key=>
    rintro B vH gY ⟨fa,eI,jd,ue,anP,afa⟩;obtain⟨⟨t3,jl,dB⟩,sA⟩:∃y,(if D.wiped num=true\/bd=bp then uA (ms c) el cX.V else(el,(),0))=y:=⟨_,rfl⟩;rw[dO]at fz;simp only[sA]at fz;have EQ:144<=gX cL el:=by omega
    refine Jf (λf v=>f 0=az k/\f 2=az o/\f 3=.int .u16 num.val/\f 8=.pointer (some ⟨g+1,0,none⟩)/\f 12=az cO/\f 14=az cA/\dB=0/\
     v.1[cA]? =some (.cells (ae (if D.wiped num=true\/bd=bp then ah else cX.V)) 44 (0,0))/\∃CW,hc k m p c.n z c.bf ep eB t3 v CW/\(∀j,CW j->aE O ai an j\/(cD.1.size<=j/\j<v.1.size))/\H (λj=>aE O ai an j\/j=cA) cD v) ?_ ?_
    ·cases B with
     |false=>
      have mE:¬(D.wiped num=true\/bd=bp):=λx=>by have:=gY.2 x;cases this
      rw[aQ mE]at sA;obtain⟨rfl,_,rfl⟩:el=t3/\True/\(0:Int)=dB:=by grind
      simp[go_sem,mE];exact⟨fa,eI,jd,ue,anP,afa,TL,_,cS,λj I=>.inl I,H.refl _ _⟩
     |true=>
      have Zh:=gY.1 rfl;rw[be Zh]at sA;simp[go_sem,fa,afa,TL,tn,ae9];refine(aAG dC e hq aq cS EQ cX.V wM.V).mono ?_;rw[sA];rintro _ ec ⟨rfl,er,ds⟩;simp only at fz er ds⊢;have Zi:=ds.size;have pU:∀j,an.1.size<=j\/(g<=j/\j<g+2)->¬aE O ai an j:=λj I e=>by
       rcases e with e|e
       ·exact wL j (by omega) e
       ·omega
      have mH:H O w bD:=(((aU.mono λ_ _ e=>e.elim).trans aK).trans (aI.mono λ_ _ e=>e.elim)).trans (pd.mono λ_ _ e=>e.elim);have MD:H O w cD:=(mH.bZ aS λj I e=>by simp only[aj]at e;omega).trans (cF.mono λ_ _ e=>e.elim);have aAZ:H O w ec:=MD.bZ ds λj I e=>e.elim id λe=>by omega
      have aA0:=ds.obj TL (pU cA (by omega));have Bo:=ds.obj sz (pU (g+1) (by omega));by_cases He:dB=0
      ·subst He;have kH:((0:Int)!=0)=false:=by decide
       have aA1:=cd cH;have aA2:=ef cH;simp[go_sem,kH,l',fa,eI,jd,ue,anP,afa,aA0,tn,aA1,aA2,bS];have xZ:=(H.refl (aj cA) ec).setRow (g:=cA) (.inl rfl) (ae ah);have anQ:=xZ.size;refine⟨by rw[be Zh],aE (aE O ai an) cD ec,(aT t3).ch er xZ λj I e=> ?_,λj I=> ?_,(ds.mono λj _ e=>.inl e).bZ xZ λj I e=>.inr e⟩
       ·simp only[aj]at e;rw[e]at I;rcases I with I|I
        ·exact pU cA (by omega) I
        ·omega
       ·exact I.imp id λe=>⟨e.1,by omega⟩
      ·have gA:(dB !=0)=true:=by simpa using He
       rw[be (by simpa using He)]at fz;simp[go_sem,gA,ae2,ue,Bl,Bm,MB,ER,Hf zD,Bo,bS];refine bU fz zD er (λj I=> ?_) (λe=> ?_) aAZ (by omega) Bo
       ·rcases I with(I|I)|I
        ·exact .inl I
        ·exact .inr ⟨by omega,by omega⟩
        ·exact .inr ⟨by omega,I.2⟩
       ·rcases e with e|e
        ·exact pU (g+1) (by omega) e
        ·omega
    ·rintro f v ⟨f0,bg,bR,bB,dj,f14,rfl,ug,CW,er,CX,dY⟩;have pU:∀j,an.1.size<=j\/(g<=j/\j<g+2)->¬aE O ai an j:=λj I e=>by
      rcases e with e|e
      ·exact wL j (by omega) e
      ·omega
     have mH:H O w bD:=(((aU.mono λ_ _ e=>e.elim).trans aK).trans (aI.mono λ_ _ e=>e.elim)).trans (pd.mono λ_ _ e=>e.elim);have MD:H O w cD:=(mH.bZ aS λj I e=>by simp only[aj]at e;omega).trans (cF.mono λ_ _ e=>e.elim);have anR:H O w v:=MD.bZ dY λj I e=>by
      rcases e with(e|e)|e
      ·exact e
      ·omega
      ·omega
     have sv:=dY.size;have afb:=dY.obj zI λe=>e.elim (pU cO (by omega)) λe=>by omega
     have afc:=dY.obj sz λe=>e.elim (pU (g+1) (by omega)) λe=>by omega
     rw[aQ (by simp)]at fz;by_cases TM:bd=bp
     ·rw[be TM]at fz;have fx:pT (num.val,bp):=⟨by show num.val<65536;omega,jy⟩;have ee:=hA jy;have ic:=tj jy;have o_:=rP fx;have oE:=Hf fx;subst TM;simp[go_sem,dj,bR,bB,afb,ee,ic,Ef,aAK,ho,afc,Bl,Bm,MB,o_,oE,ER,bS];refine bU fz fx er (λj I=> ?_) (λe=> ?_) anR (by omega) afc
      ·rcases CX j I with(I|I)|I
       ·exact .inl I
       ·exact .inr ⟨by omega,by omega⟩
       ·exact .inr ⟨by omega,I.2⟩
      ·rcases CX _ e with e|e
       ·exact pU (g+1) (by omega) e
       ·omega
     ·rw[aQ TM]at fz;simp[go_sem,dj,afb,ae',anM,Ef,ho,TM];have Mb:jg v o base fZ vE D X bw Cn:=Eo.ch dY (λj I e=> ?_) λj I e=> ?_
      rotate_left
      ·have iP:=zH j (.inl I);rcases e with e|e
       ·exact e.elim (Ha j (.inl I)) λe=>by omega
       ·omega
      ·have iP:=zH j (.inr I);rcases e with e|e
       ·exact e.elim (Ha j (.inr I)) λe=>by omega
       ·omega
      rw[bg,bR];refine(aA3 Mb num Hb).mono ?_;rintro vI db ⟨L,b_,TN,Zj,dV,anS⟩;have cu:=Zj.len underlying309 3;have anT:=aAL b_ TN rb;have G_:L.length=C.length:=by rw[<-anT,oV]
      simp[go_sem,cu];have ir:=(aT t3).ch er dV λ_ _ e=>e;have rG:=dV.size;have Zk:∀j,CW j->j<v.1.size:=(aT t3).lt er;have aRi:gX cL el<=gX cL t3+1312:=by
       by_cases Zh:D.wiped num=true\/bd=bp
       ·rw[be Zh]at sA;have:=anJ dC e hq aq el cX.V wM.V
        grind
       ·grind
      have aA4:=dV.obj afb id;have PN:=dV.obj afc id;have afd:=dV.obj ug id;have Zl:∀j,(g<=j/\j<g+2)\/(an.1.size<=j/\j<cD.1.size)\/v.1.size<=j->¬CW j:=λj I e=>by
       rcases CX j e with ek|ek
       ·rcases I with I|I|I
        ·exact pU j (.inr I) ek
        ·exact pU j (.inl I.1) ek
        ·have:=Zk j e;omega
       omega
      have vJ:∀j,vI.ownBlock=some j->v.1.size<=j:=anS;refine di (λV f u=>∃i eP cm Q,V=C.length - i/\i<=C.length/\f 0=az k/\f 3=.int .u16 num.val/\f 8=.pointer (some ⟨g+1,0,none⟩)/\f 12=az cO/\f 14=az cA/\f 67=vI/\f 68=aa C.length/\f 69=aa (i:Nat)/\
        nb (ms c) bd.k num.val (C.drop i) eP cm=nb (ms c) bd.k num.val C t3 []/\cm.length<=i/\(∀x∈cm,nU x)/\u.ownsRow 0 229 42 (f 16) cm.length (ei ft cm)/\(∀j,(f 16).ownBlock=some j->db.1.size<=j/\¬Q j)/\
        hc k m p c.n z c.bf ep eB eP u Q/\(∀j,Q j->aE CW db u j)/\H CW db u/\gX cL t3<=gX cL eP+16*i) C.length
       ⟨0,t3,[],CW,rfl,gG _,by simp[f0],by simp[bR],by simp[bB],by simp[dj],by simp[f14],by simp,by simp[G_],by simp,rfl,c_ _,by simp,by simpa[ei]using pA _ _ _ _,by simp[Value.ownBlock],ir,λj I=>.inl I,H.refl _ _,Cd _ _⟩ ?_
      rintro cQ bJ _ f u ⟨i,eP,cm,Q,rfl,ad,f0,bR,bB,dj,f14,TO,Zm,Zn,eY,rC,fs,own,kc,ap,eT,aS,zw⟩;have JJ:=aS.size;have anU:=aS.obj aA4 (Zl cO (by omega));have zJ:=aS.obj PN (Zl (g+1) (by omega));have ME:=aS.obj afd (Zl cA (by omega));have ES:∀j,Q j->j<u.1.size:=(aT eP).lt ap;have x_:∀j,(g<=j/\j<g+2)\/(an.1.size<=j/\j<cD.1.size)->¬Q j:=λj I e=>by
       rcases eT j e with ek|ek
       ·exact Zl j (I.imp id .inl) ek
       ·omega
      have JL:H O w u:=(anR.trans (dV.mono λ_ _ e=>e.elim)).bZ aS λj I e=>by
       rcases CX j e with(e|e)|e
       ·exact e
       ·omega
       ·omega
      have Zo:∀j,Q j->aE O w u j:=λj I=>by
       rcases eT j I with e|e
       ·rcases CX j e with(e|e)|e
        ·exact .inl e
        ·exact .inr ⟨by omega,by omega⟩
        ·exact .inr ⟨by omega,by omega⟩
       ·exact .inr ⟨by omega,e.2⟩
      by_cases aO:i<C.length
      case neg=>
       have fy:¬(i:Int)<C.length:=by omega
       have CV:i=C.length:=by omega
       subst CV;rw[Xy]at eY;have Hg:nb (ms c) bd.k num.val C t3 []=(eP,cm,0):=eY.symm.trans rfl;rw[Hg]at fz;simp only at fz;rw[aQ (by simp)]at fz;have aA5:(if D.wiped num=true\/bd=bp then ah else cX.V)=(if D.wiped num=true then ah else cX.V):=by simp[TM]
       rw[aA5]at ME;obtain⟨afe,anV⟩:=aD ((if D.wiped num=true then ah else cX.V));have aff:cc afe:=by
        rw[<-anV];split
        ·exact cH
        ·exact wM.V
       rw[anV]at ME fz;have aA6:=cd aff;have aA7:=ef aff;have afg:fC u (f 16) sx 42 cm:=by
        have:=fC.fF own λx W=>ra (fs x W);exact this
       simp[go_sem,Zm,Zn,f0,f14,bR,ME,aA6,aA7];refine(anW (JH dC e hq aq) aT ap afe aff num.val (f 16) cm (by omega) afg fs (λj I=>⟨(kc j I).2,nK own j I⟩) (ap.cv e).1 (hc.d' e) (by omega)).mono ?_;obtain⟨⟨t4,iV,dl⟩,lv⟩:∃y,rc (iR c.n) (it c.n c.bf) (lR c.n) num.val eP afe cm=y:=⟨_,rfl⟩;rw[lv]at fz⊢;rintro _ TP ⟨rfl,Bp,fp,gv⟩;simp only at fz Bp fp⊢;have Zp:=gv.size;have anX:=gv.obj anU (x_ cO (by omega));have aA8:=gv.obj zJ (x_ (g+1) (by omega));have afh:fu {bd with V:=iV}:=⟨JK.k,JK.n,JK.s,Bp⟩;have Zq:pT (num.val,{bd with V:=iV}):=⟨by show num.val<65536;omega,afh⟩;have iQ:=XS JK Bp;have MF:=cd Bp;have aA9:=hA afh;have aA_:=tj afh;have aA':=rP Zq;have Ek:=(H.refl (aj cO) TP).setRow (g:=cO) (.inl rfl) (aZ {bd with V:=iV});have anY:(TP.setRow cO (aZ {bd with V:=iV})).1[cO]? =some (.cells (aZ {bd with V:=iV}) 113 (0,0)):=by rw[gh,anX];rfl
       have afi:=Ek.obj aA8 λe=>by simp only[aj]at e;omega
       have aBa:=Ek.size;simp[go_sem,dj,anX,ae',MF,iQ];obtain⟨aRj,aBb⟩:=aD (TP.setRow cO (aZ {bd with V:=iV}));rw[aBb]at Ek anY afi aBa⊢;simp[go_sem,bR,bB,dj,anY,afi,aA9,aA_,aBc (num.val,{bd with V:=iV}) Zq,Bl,Bm,MB,aA',Hf Zq,ER,bS];have aBd:∀j,aE Q u TP j->¬aj cO j:=λj I e=>by
        simp only[aj]at e;rcases I with I|I
        ·exact x_ cO (by omega) (by rw[<-e];exact I)
        ·omega
       refine bU fz Zq ((aT t4).ch fp Ek aBd) (λj I=> ?_) (λe=> ?_) ?_ (by omega) afi
       ·rcases I with I|I
        ·exact(Zo j I).imp id λe=>⟨e.1,by omega⟩
        ·exact .inr ⟨by omega,by omega⟩
       ·rcases e with e|e
        ·exact x_ (g+1) (by omega) e
        ·omega
       ·refine(JL.bZ gv λj I e=> ?_).bZ Ek λj I e=>by simp only[aj]at e;omega
        exact(Zo j e).elim id λe=>by omega
      have fy:(i:Int)<C.length:=by omega
      obtain⟨x,W⟩:∃x,L[i]? =some x:=⟨_,d_ (by omega)⟩;have aBe:=ib W;obtain⟨b,ab,qt,afj,uE,anZ,jN,CY⟩:=b_.val x aBe;have afk:C[i]? =some (x.1.val,b):=by
       rw[<-anT,oo,W];simp[ab]
      have wO:C.drop i=(x.1.val,b)::C.drop (i+1):=by
       rw[xD aO];rw[d_ aO]at afk;rw[sb afk]
      obtain⟨Zr,uB,nT,aBf,gW,dc⟩:=aAN (Zj.ch (S:=CW) aS λj _ I e=>by have:=vJ j I;have:=Zk j e;omega) W;have eQ:IntKind.i64.wrap ((i:Int)+1)=((i+1:Nat):Int):=by rw[cz];omega
      have Zs:=TO;rw[aBf]at Zs;have IX:anZ=b.length:=by
       obtain⟨gM,dA,ek,_⟩:=qt;rw[CY]at ek;injection ek
      subst IX;rw[CY]at dc qt;have aBg:∀j,(Value.slice uE b.length jN).ownBlock=some j->v.1.size<=j:=λj I=>afj j (by rw[CY];exact I);have aBh:∀(bV:TypeId) (w':M),(Builtin.len_ #[101] bV #[.slice uE b.length jN]).run prog w'=.ok (aa b.length) w':=λbV w'=>by simp[Builtin.len_,run_underlying underlying101,goInt]
      have aBi:=ra Mz;have cG:nU (x.1.val,ah):=⟨by omega,cH⟩;have Zt:=ra cG;simp[go_sem,Zs,Zm,Zn,aO,fy,G_,gW,dc];obtain⟨PO,tE⟩:=aD (u.alloc (.cells #[.int .u32 x.1.val,.slice uE b.length jN] 312));rw[tE];have cx:=(H.refl al u).alloc (.cells #[.int .u32 x.1.val,.slice uE b.length jN] 312);have Bq:=cr u (.cells #[.int .u32 x.1.val,.slice uE b.length jN] 312);have an0:(u.alloc (.cells #[.int .u32 x.1.val,.slice uE b.length jN] 312)).1.size=u.1.size+1:=by simp
      rw[tE]at cx Bq an0;obtain⟨vK,CZ⟩:=aD (u.1.size);rw[CZ]at Bq an0⊢;clear tE;have aBj:=(aT eP).ch ap cx λ_ _ e=>e;have aBk:=gu own cx λ_ _ e=>e;have aBl:=cx.obj anU id;have aBm:=cx.obj zJ id;have aBn:=cx.obj ME id;have an1:=aG Bq 0;have aBo:=aG Bq 1;have fI:=(H.refl al PO).alloc (.cells (ft (x.1.val,ah)) 229);have Zu:=cr PO (.cells (ft (x.1.val,ah)) 229);have an2:(PO.alloc (.cells (ft (x.1.val,ah)) 229)).1.size=PO.1.size+1:=by simp
      obtain⟨C_,TQ⟩:=aD (PO.alloc (.cells (ft (x.1.val,ah)) 229));rw[TQ]at fI Zu an2;have an3:C_.cell? (bl vK 0)=some (.int .u32 x.1.val):=fI.cell an1 id;have an4:C_.cell? (bl vK 1)=some (.slice uE b.length jN):=fI.cell aBo id;simp[go_sem,an1,an3,an4,aAQ,PL,PM,aBi,Zt,Zv,bS,TQ,aBh];obtain⟨sB,Zw⟩:=aD (PO.1.size);rw[Zw]at Zu an2⊢;clear TQ;have an5:=(aT eP).ch aBj fI λ_ _ e=>e;have aBp:=gu aBk fI λ_ _ e=>e;have aBq:=fI.obj aBl id;have aBr:=fI.obj aBm id;have aRk:=fI.obj aBn id;have aRl:=aS.size;have an6:∀j,u.1.size<=j->¬Q j:=λj I e=>by have:=ES j e;omega
      refine Jf (λf' Y=>f' 0=az k/\f' 3=.int .u16 num.val/\f' 8=.pointer (some ⟨g+1,0,none⟩)/\f' 12=az cO/\f' 14=az cA/\f' 16=f 16/\f' 67=vI/\f' 68=aa C.length/\f' 69=aa (i:Nat)/\f' 19=az sB/\∃PP P,
        Y.1[sB]? =some (.cells (ft (x.1.val,P)) 229 (0,0))/\cc P/\hc k m p c.n z c.bf ep eB PP Y (aE Q C_ Y)/\H (λj=>Q j\/j=sB) C_ Y/\gX cL eP<=gX cL PP+16/\
        nb (ms c) bd.k num.val (C.drop i) eP cm=nb (ms c) bd.k num.val (C.drop (i+1)) PP (cm++[(x.1.val,P)])) ?_ ?_
      ·by_cases SN:b=[]
       ·subst SN;have amD:nb (ms c) bd.k num.val (C.drop i) eP cm=nb (ms c) bd.k num.val (C.drop (i+1)) eP (cm++[(x.1.val,ah)]):=by
         rw[wO];exact(nb.eq_2 _ _ _ _ _ _ _ _).trans (be rfl)
        simp[go_sem];exact⟨f0,bR,bB,dj,f14,TO,Zm,Zn,eP,ah,Zu,cH,(aT eP).eK an5 (λj I=>.inl I) (aE.lt (λj I=>by have:=ES j I;omega) (c_ _)),H.refl _ _,Cd _ _,amD⟩
       ·have md:b.length=512:=(aAT _ (ib afk)).resolve_left SN;have afl:0<b.length:=by omega
        simp[go_sem,afl];refine cT [F 0,F 1,F 2,F 4,F 5,F 6,F 8,F 9,(3,some [0,4,5,6,8,9]),F 7,(10,some []),F 11,F 12,F 13,F 14,(15,some [13]),F 16] ?_;have dH:=(H.refl al C_).drew;obtain⟨hO,lq⟩:=aD (C_.drew);have kW:hO.1.size=C_.1.size:=by rw[<-lq];rfl
        rw[lq]at dH⊢;have tz:=(aT eP).ch an5 dH λ_ _ e=>e;have Zx:=dH.obj aBq id;have zK:=dH.obj aBr id;have aBs:=dH.obj Zu id;have an7:=dH.cell an3 id;have an8:=dH.cell an4 id;have xG:hO.cell? (bl cO 0)=some (.int .u8 bd.k):=(aG Zx 0).trans (by simp[aZ]);simp[go_sem,f0,bR,dj,xG,an7,an8];refine(aw2 bd.k hO JK.k (tz.cv e).2.2).mono ?_;rintro _ aBt ⟨rfl,Br⟩;subst aBt;simp[go_sem,f0,bR,dj,xG,an7,an8,aAO];obtain⟨bx,aBu,nB⟩:∃bx,uE=some bx/\∀j u,(br b)[j]? =some u->db.cell? (bx.add j)=some u:=by
         obtain⟨gM,dA,ek,_,_,ag⟩:=qt;obtain⟨bx,aR,aP⟩:=ag (by rw[eO];exact afl);injection ek with aL;exact⟨bx,aL.trans aR,aP⟩
        subst aBu;have aBv:bC db (.slice (some bx) b.length jN) 512 (br b):=by rw[<-md];exact qt
        have aRm:v.1.size<=bx.block:=aBg _ rfl;have aRn:bx.block<db.1.size:=by
         obtain⟨tB,TR⟩:∃tB,(br b)[0]? =some tB:=⟨_,d_ (by rw[eO];exact afl)⟩;have:=xC db _ (nB 0 tB TR);rw[IL]at this;exact this
        have aBw:bC u (.slice (some bx) b.length jN) 512 (br b):=aBv.ch aS λj I e=>by
         have kT:bx.block=j:=by simpa[Value.ownBlock]using I
         have:=Zk j e;omega
        have aBx:bC hO (.slice (some bx) b.length jN) 512 (br b):=((aBw.ch cx λ_ _ e=>e).ch fI λ_ _ e=>e).ch dH λ_ _ e=>e;refine(anH dC e hq aq tz (by omega) (lT bd.k num.val x.1.val) (aAP (by omega) (by omega)) b md _ aBx λj I=> ?_).mono ?_
        ·have kT:bx.block=j:=by simpa[Value.ownBlock]using I
         refine⟨λe=> ?_,by omega⟩;rcases eT j e with ek|ek
         ·have:=Zk j ek;omega
         ·omega
        obtain⟨⟨t5,MG,gL⟩,an9⟩:∃y,it c.n c.bf eP (lT bd.k num.val x.1.val) b=y:=⟨_,rfl⟩;have rF:=TC dC c.n c.bf eP (lT bd.k num.val x.1.val) b;rw[an9]at rF⊢;rintro _ nz ⟨rfl,Zy,ix,nd⟩;simp only at Zy ix rF⊢;have afm:=nd.size;have an_:=nd.obj aBs (an6 sB (by omega));have aBy:=nd.obj zK (x_ (g+1) (by omega));have aBz:=cd Zy;have aBA:=aAR (o:=x.1.val) Zy;have TS:=(H.refl (aj sB) nz).setRow (g:=sB) (.inl rfl) (ft (x.1.val,MG));have aoa:(nz.setRow sB (ft (x.1.val,MG))).1[sB]? =some (.cells (ft (x.1.val,MG)) 229 (0,0)):=by rw[gh,an_];rfl
        have afn:=TS.obj aBy λe=>by simp only[aj]at e;omega
        have Zz:=TS.size;simp[go_sem,f0,bR,bB,dj,an_,Zt,aBz,wc,aBA];obtain⟨aBB,ZA⟩:=aD (nz.setRow sB (ft (x.1.val,MG)));rw[ZA]at TS aoa afn Zz⊢;have aBC:∀j,aE Q hO nz j->¬aj sB j:=λj I e=>by
         simp only[aj]at e;rcases I with I|I
         ·exact an6 sB (by omega) (by rw[<-e];exact I)
         ·omega
        have hn:=(aT t5).ch ix TS aBC;have aob:H (λj=>Q j\/j=sB) C_ aBB:=((dH.mono λ_ _ e=>e.elim).trans (nd.mono λ_ _ e=>.inl e)).trans (TS.mono λ_ _ e=>.inr e);have PQ:nb (ms c) bd.k num.val (C.drop i) eP cm=if gL≠0 then(t5,[],gL)else nb (ms c) bd.k num.val (C.drop (i+1)) t5 (cm++[(x.1.val,MG)]):=by
         rw[wO];refine(nb.eq_2 _ _ _ _ _ _ _ _).trans ((aQ SN).trans ?_);have zL:(ms c).nw eP (lT bd.k num.val x.1.val) b=(t5,MG,gL):=an9;rw[zL]
        by_cases JM:gL=0
        ·subst JM;have kH:((0:Int)!=0)=false:=by decide
         rw[aQ (by simp)]at PQ;simp[go_sem,kH];exact⟨f0,bR,bB,dj,f14,TO,Zm,Zn,t5,MG,aoa,Zy,(aT t5).eK hn (λj I=>I.imp id λe=>⟨by omega,by omega⟩) (aE.lt (λj I=>by have:=ES j I;omega) (by omega)),aob,by omega,PQ⟩
        ·have gA:(gL !=0)=true:=by simpa using JM
         rw[be JM]at PQ;have PR:nb (ms c) bd.k num.val C t3 []=(t5,[],gL):=by rw[<-eY,PQ]
         rw[PR]at fz;simp only at fz;rw[be JM]at fz;simp[go_sem,gA,ae2,bB,Bl,Bm,MB,ER,Hf zD,afn,bS];refine bU fz zD hn (λj I=> ?_) (λe=> ?_) ?_ (by omega) afn
         ·rcases I with I|I
          ·exact(Zo j I).imp id λe=>⟨e.1,by omega⟩
          ·exact .inr ⟨by omega,by omega⟩
         ·rcases e with e|e
          ·exact x_ (g+1) (by omega) e
          ·omega
         ·refine((JL.trans (cx.mono λ_ _ e=>e.elim)).trans (fI.mono λ_ _ e=>e.elim)).bZ aob λj I e=> ?_;rcases e with e|e
          ·exact(Zo j e).elim id λe=>by omega
          ·omega
      ·rintro f' Y ⟨aBD,aBE,aBF,aBG,aBH,afo,Zs,aBI,aBJ,ZB,PP,P,Ct,gI,fX,rM,aRo,aBK⟩;have afp:=rM.size;have qS:nU (x.1.val,P):=⟨by omega,gI⟩;have aoc:=ra qS;have aBL:=Zf qS;have aRp:∀j,j<u.1.size->¬(j=sB):=λj I e=>by omega
       have aBM:C_.ownsRow 0 229 42 (f' 16) cm.length (ei ft cm):=by rw[afo];exact aBp
       have aBN:=gu aBM rM λj I e=>by
        rw[afo]at I;have J:=kc j I;have T:=nK own j I
        grind
       simp[go_sem,↓Eh,ZB,Ct,aoc,aBL];refine Ei (afq qS _) ?_;simp[go_sem];refine wJ (n:=cm.length) (us:=(ft (x.1.val,P)).toList) TT aBN (by rw[wi,aoc]) (GX (Zv _)) (by unfold maxLen;omega) (by omega) λoy aod tF tG Bg=> ?_;have aBO:=tG.size;have n6:∀j,(f' 16).ownBlock=some j->db.1.size<=j/\¬Q j/\j<u.1.size:=λj I=>by
        rw[afo]at I;exact⟨(kc j I).1,(kc j I).2,nK own j I⟩
       have TU:=(aT PP).ch fX tG λj I e=>by
        have:=n6 j e;rcases I with I|I
        ·exact this.2.1 I
        ·omega
       have afr:ei ft (cm++[(x.1.val,P)])=ei ft cm++(ft (x.1.val,P)).toList:=by rw[AG,Cg]
       have aBP:∀j,aE Q C_ Y j->aE CW db aod j:=λj I=>by
        rcases I with I|I
        ·exact(eT j I).imp id λe=>⟨e.1,by omega⟩
        ·exact .inr ⟨by omega,by omega⟩
       have aBQ:H CW db aod:=(((aS.trans (cx.mono λ_ _ e=>e.elim)).trans (fI.mono λ_ _ e=>e.elim)).bZ rM λj I e=>by
        rcases e with e|e
        ·exact(eT j e).elim id λe=>by omega
        ·omega).bZ tG λj I e=>by have:=(n6 j e).1;omega
       simp[go_sem,aBJ,eQ];refine ct.intro (C.length -(i+1)) (by omega) (bJ _ _ _ ⟨i+1,PP,cm++[(x.1.val,P)],aE Q C_ Y,rfl,by omega,by simp[aBD],by simp[aBE],by simp[aBF],by simp[aBG],by simp[aBH],by simp[Zs],by simp[aBI],by simp,by rw[<-aBK,eY],by rw[kR,II];omega,λy ar=> ?_,?_,λj I=> ?_,TU,aBP,aBQ,by omega⟩)
       ·rcases hP.1 ar with ar|ar
        ·exact fs y ar
        ·rw[sc]at ar
         grind
       ·rw[show(cm++[(x.1.val,P)]).length=cm.length+1 by simp,afr];simpa using tF
       ·have kT:oy.ownBlock=some j:=by simpa using I
        rcases Bg with e|e
        ·rw[e]at kT;have:=n6 j kT;exact⟨this.1,λe=>e.elim this.2.1 λe=>by omega⟩
        ·have:=e j kT;exact⟨by omega,λe=>e.elim (λe=>by have:=ES j e;omega) λe=>by omega⟩
 ·have gA:(aR !=0)=true:=by simpa using Mx
  rw[be (by simpa using Mx)]at fz;simp[go_sem,gA,ae2,Bl,Bm,MB,ER,Hf zD,jK,bS];refine bU fz zD ag (λj I=> ?_) (λe=> ?_) ?_ (by omega) jK
  ·rcases I with I|I
   ·exact .inl I
   ·exact .inr ⟨by omega,by omega⟩
  ·rcases e with e|e
   ·exact wL _ (by omega) e
   ·omega
  ·exact((aU.mono λ_ _ e=>e.elim).trans aK).trans (aI.mono λ_ _ e=>e.elim)
end
end Go.Proofs.YtoohkhcpboldjaaGreatDoor
