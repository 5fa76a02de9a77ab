/- Tables: a leaf that is made anew, of any sink. Conditions: the variables ptr.wide and tree.hole hold what the text lays. -/
import Derived.Test.YtoohkhcpboldjaaGreatDoorTrH
set_option maxRecDepth 100000
set_option maxHeartbeats 4000000
set_option linter.unusedSimpArgs false
set_option linter.unusedVariables false
namespace Go.Proofs.YtoohkhcpboldjaaGreatDoor
open Go.RowKit Go.Kin Tryz
section
variable {aF:Type}{ba:aF->jf}{m:aF->Nat}{rd:Src aF}{sv:N}
theorem aut(aA:pL ba m rd sv)(off:Nat):∀(k:Nat) (s:aF) (p:Pt),m s<=m (qF rd off k s p).1+16*k
 |0,s,p=>by unfold qF;simp
 |k+1,s,p=>by
  have h:=ED aA s p;unfold qF;split
  ·simp only;omega
  ·have T:=aut aA off k (cM rd s p).1 ((cM rd s p).2.1.getD (if k=1 then off / 8 else off%8) ah);omega
theorem auu(rd:Src aF)(off:Nat):∀(k:Nat) (s:aF) (p:Pt),cc p->cc (qF rd off k s p).2.1
 |0,s,p,h=>by unfold qF;exact h
 |k+1,s,p,h=>by
  have ok:=Jl rd s p;unfold qF;split
  ·exact cH
  ·refine auu rd off k _ _ ?_;rw[lk];generalize(if k=1 then off / 8 else off%8)=j;by_cases I:j<(cM rd s p).2.1.length
   ·rw[d_ I];exact ok.all _ (wj I)
   ·rw[Ed (by omega)];exact cH
theorem ajo(rd:Src aF)(s:aF)(p:Pt)(off:Nat)(h:cc p):cc (dz rd s p off).2.1:=by
 unfold dz;split
 ·exact auu rd off 2 s p h
 ·exact cH
theorem TH(aA:pL ba m rd sv)(s:aF)(p:Pt)(off:Nat):m s<=m (dz rd s p off).1+32:=by
 unfold dz;split
 ·exact aut aA off 2 s p
 ·simp
theorem ajp(aA:pL ba m rd sv)(top:List Pt):∀(L:List Nat) (s:aF) (dP:List (Nat×Pt)) (dZ:List Pt),m s<=m (mO rd top L s dP dZ).1+16*L.length
 |[],s,dP,dZ=>by unfold mO;simp
 |i::L,s,dP,dZ=>by
  have h:=ED aA s (top.getD i ah);unfold mO;split
  ·have T:=ajp aA top L s dP dZ
   grind
  ·split
   ·grind
   ·have T:=ajp aA top L (cM rd s (top.getD i ah)).1 (dP++xk i (cM rd s (top.getD i ah)).2.1) (dZ++[top.getD i ah])
    grind
theorem aAM(aA:pL ba m rd sv)(s:aF)(p:Pt):m s<=m (lS rd s p).1+144:=by
 have J:m s<=m (l_ rd s p).1+144:=by
  have h:=ED aA s p;unfold l_;split
  ·simp
  ·split
   ·simp only;omega
   ·have T:=ajp aA (cM rd s p).2.1 (List.range 8) (cM rd s p).1 [] [p]
    grind
 unfold lS
 grind
end
theorem aoi(n:Nat)(aq:n<65536)(w:M):bc prog 162 #[.int .u16 n] w λv' w'=>v'=.bool (decide (1<=n/\n<=255))/\w'=w:=by
 refine bz func162 ntmps162 λbk af=> ?_;by_cases J:1<=n
 ·have mi:(1:Int)<=n:=by omega
  by_cases T:n<=255
  ·have k':(n:Int)<=255:=by omega
   simp[go_sem,J,mi,T,k'];exact af _ _ ⟨by simp[J,T],rfl⟩
  ·have k':¬(n:Int)<=255:=by omega
   simp[go_sem,J,mi,T,k'];exact af _ _ ⟨by simp[J,T],rfl⟩
 ·have mi:¬(1:Int)<=n:=by omega
  simp[go_sem,J,mi];exact af _ _ ⟨by simp[J],rfl⟩
theorem ajq(n:Nat)(aq:n<65536)(w:M):bc prog 163 #[.int .u16 n] w λv' w'=>v'=.tuple #[.int .u32 (n / 4:Nat),aa (n%4:Nat)]/\w'=w:=by
 refine bz func163 ntmps163 λbk af=> ?_;have aL:(n:Int).tdiv 4=((n / 4:Nat):Int):=by rw[LF (by omega)];omega
 have aR:(n:Int).tmod 4=((n%4:Nat):Int):=by rw[Sm (by omega)];omega
 have ai:IntKind.u32.wrap (IntKind.u16.wrap ((n:Int) / 4))=((n / 4:Nat):Int):=by simp[IntKind.wrap,IntKind.bits,IntKind.signed];omega
 have an:IntKind.i64.wrap (IntKind.u16.wrap ((n:Int)%4))=((n%4:Nat):Int):=by
  rw[show IntKind.u16.wrap ((n:Int)%4)=(n:Int)%4 by simp[IntKind.wrap,IntKind.bits,IntKind.signed];omega,cz];omega
 have aJ:IntKind.i64.wrap ((n:Int)%4)=((n%4:Nat):Int):=by
  rw[cz];omega
 simp[go_sem,aL,aR,ai,an,aJ];exact af _ _ ⟨by simp,rfl⟩
def kI{aF:Type}(rd:Src aF)(s:aF)(p:Pt)(n:Nat):aF×bF×Int:=
 if¬(1<=n/\n<=255)then(s,bp,1)else if(dz rd s p (n / 4)).2.2≠0 then((dz rd s p (n / 4)).1,bp,(dz rd s p (n / 4)).2.2)
 else((hC rd (dz rd s p (n / 4)).1 (dz rd s p (n / 4)).2.1).1,(hC rd (dz rd s p (n / 4)).1 (dz rd s p (n / 4)).2.1).2.1.getD (n%4) bp,(hC rd (dz rd s p (n / 4)).1 (dz rd s p (n / 4)).2.1).2.2)
section
variable {aF:Type}{ba:aF->jf}{m:aF->Nat}{rd:Src aF}{dy:TypeId}{ce sv:N}{s:aF}{w w':M}{O:Nat->Prop}
theorem ae4(aA:pL ba m rd sv)(s:aF)(p:Pt):m s<=m (hC rd s p).1+16:=by
 have h:=aA.step s p;unfold hC
 grind
theorem anK(aA:pL ba m rd (.iface dy ce))(aC:48<=m s)(aT:∀s,kB (ba s))(h:ba s w O)(p:Pt)(ok:cc p)(n:Nat)(aq:n<65536)(cv:hI w)(aH:iO ba O):
  bc prog 110 #[.iface dy ce,.agg (ae p),.int .u16 n] w λv' w'=>v'=.tuple #[.agg (aZ (kI rd s p n).2.1),aa (kI rd s p n).2.2]/\ba (kI rd s p n).1 w' (aE O w w')/\H O w w':=by
 refine bz func110 ntmps110 λbk af=> ?_;have de:=cd ok;have da:=ef ok;have ga:=(aT s).lt h;have hz:=hA jy;have ic:=tj jy;have aU:=((H.refl al w).alloc (.cells (ae p) 44)).alloc (.cells (aZ bp) 113);have bu:=oF w (.cells (ae p) 44) (.cells (aZ bp) 113);have bt:=nM w (.cells (ae p) 44) (.cells (aZ bp) 113);have fq:=cv.ch aU λ_ _ e=>e;have J:=(aT s).ch h aU λ_ _ e=>e;have gZ:((w.alloc (.cells (ae p) 44)).alloc (.cells (aZ bp) 113)).1.size=w.1.size+2:=by simp
 obtain⟨ai,dx⟩:=aD ((w.alloc (.cells (ae p) 44)).alloc (.cells (aZ bp) 113));rw[dx]at aU bu bt fq J gZ;simp[go_sem,de,da,uj,uk,dx];obtain⟨cA,vG⟩:=aD (w.1.size+1);rw[vG]at bt⊢;clear dx;have ff:∀j,w.1.size<=j->¬O j:=λj I e=>by have:=ga j e;omega
 have N_:¬O cA:=ff cA (by omega);have bU:∀{Y:M} {x:aF×bF×Int},kI rd s p n=x->ba x.1 Y (aE O ai Y)->H O ai Y->bk (.tuple #[.agg (aZ x.2.1),aa x.2.2]) (Y.setRow cA (aZ x.2.1)):=λ{Y x} e a c=>by
  subst e;have JP:=c.size;have dA:H (aj cA) Y (Y.setRow cA (aZ (kI rd s p n).2.1)):=(H.refl (aj cA) Y).setRow (.inl rfl) _;have Cz:=dA.size;refine af _ _ ⟨rfl,(aT _).eK ((aT _).ch a dA λk r e=>by simp only[aj]at e;subst e;exact r.elim N_ λe=>by omega) (λk r=>r.imp id λe=>⟨by omega,by omega⟩) (aE.lt ga (by omega)),?_⟩;exact((aU.mono λ_ _ e=>e.elim).trans c).bZ dA λk r e=>by simp only[aj]at e;omega
 have fb:∀k,O k->k<ai.1.size:=λk r=>by have:=ga k r;omega
 refine(aoi n aq ai).mono ?_;rintro _ an ⟨rfl,bM⟩;subst an;by_cases nQ:1<=n/\n<=255
 case neg=>
  have e:kI rd s p n=(s,bp,1):=by unfold kI;rw[be nQ]
  simp[go_sem,nQ,Ef,bt,hz,ic,bS];exact bU e ((aT _).eK J (λk r=>.inl r) (aE.lt fb (c_ _))) (H.refl _ _)
 simp[go_sem,nQ];refine(ajq n aq ai).mono ?_;rintro _ an ⟨rfl,bM⟩;subst an;simp[go_sem,bu,de,da];have DL:=ajr aA (by omega) aT J p ok (n / 4) (by omega) fq aH;have xn:=ajo rd s p (n / 4) ok;have gc:=TH aA s p (n / 4);have hT:kI rd s p n=if(dz rd s p (n / 4)).2.2≠0 then((dz rd s p (n / 4)).1,bp,(dz rd s p (n / 4)).2.2)else((hC rd (dz rd s p (n / 4)).1 (dz rd s p (n / 4)).2.1).1,(hC rd (dz rd s p (n / 4)).1 (dz rd s p (n / 4)).2.1).2.1.getD (n%4) bp,(hC rd (dz rd s p (n / 4)).1 (dz rd s p (n / 4)).2.1).2.2):=by
  unfold kI;rw[aQ (λe=>e nQ)]
 obtain⟨⟨cR,eI,aR⟩,lv⟩:∃x,dz rd s p (n / 4)=x:=⟨_,rfl⟩;rw[lv]at DL xn gc hT;simp only at DL xn gc hT;have dl:((n / 4:Nat):Int)=(n:Int) / 4:=by omega
 rw[dl]at DL;refine DL.mono ?_;rintro _ an ⟨rfl,T,aK⟩;have kO:=cd xn;have Lh:=ef xn;have kg:=aK.size;have mj:=aH.cv fq aK ⟨_,T⟩ λ_ _ e=>e;have jS:=aK.obj bt N_;have aI:=(H.refl al an).alloc (.cells (ae eI) 44);have cK:=cr an (.cells (ae eI) 44);have kn:=mj.ch aI λ_ _ e=>e;have ag:=(aT _).ch T aI λ_ _ e=>e;have jK:=aI.obj jS id;have iC:(an.alloc (.cells (ae eI) 44)).1.size=an.1.size+1:=by simp
 have hQ:=aK.trans (aI.mono (S':=O) λ_ _ e=>e.elim);obtain⟨aJ,ik⟩:=aD (an.alloc (.cells (ae eI) 44));rw[ik]at aI cK kn ag jK iC hQ;have t_:ba cR aJ (aE O ai aJ):=(aT _).eK ag (λk r=>r.imp id λe=>⟨e.1,by omega⟩) (aE.lt fb (by omega));have n':=cd cH;by_cases aV:aR=0
 ·rw[aQ (by omega)]at hT;subst aV;simp[go_sem,gO,gP,n',kO,Lh,bS,ik,cK];have yz:=auv aA (by omega) aT t_ eI xn kn (aH.cN fq);have Am:=ae6 rd cR eI;obtain⟨⟨jo,qb,gL⟩,gY⟩:∃x,hC rd cR eI=x:=⟨_,rfl⟩;rw[gY]at yz hT Am;simp only at yz hT Am;refine yz.mono ?_;rintro _ bs ⟨rfl,aP,bo⟩;have Dp:=bo.size;have n6:¬aE O ai aJ cA:=λe=>e.elim N_ λe=>by omega
  have m_:=bo.obj jK n6;have ht:=xF Am;have wF:=IQ Am;have abS:=xF yT;obtain⟨x,W,cG⟩:=Am.dI (k:=n%4) (by omega);have OY:=awT Am W;have eF:=hA cG;have bE:=(H.refl al bs).alloc (.cells (dL qb) 279);have dG:=cr bs (.cells (dL qb) 279);have sj:=bE.obj m_ id;have bH:=(aT _).ch aP bE λ_ _ e=>e;have kV:(bs.alloc (.cells (dL qb) 279)).1.size=bs.1.size+1:=by simp
  have AS:H O ai (bs.alloc (.cells (dL qb) 279)):=(hQ.bZ bo λk r e=>e.elim id λe=>by omega).trans (bE.mono λ_ _ e=>e.elim);obtain⟨bD,qq⟩:=aD (bs.alloc (.cells (dL qb) 279));rw[qq]at bE dG sj bH kV AS;have NE:((n%4:Nat):Int)=(n:Int)%4:=by omega
  have Xj:(n:Int)%4<4:=by omega
  have aL9:n%4<4:=by omega
  have ajs:(0:Int)<=(n:Int)%4:=by omega
  have ajt:((n:Int)%4).toNat=n%4:=by omega
  have eh:n%4*44+44<=176:=by omega
  have rW:qb.getD (n%4) bp=x:=by rw[lk,W];rfl
  rw[rW]at hT;simp[go_sem,Gp,Gq,ht,wF,abS,bS,qq,dG,sj,Xj,aL9,ajs,ajt,eh,OY,eF,hz];rw[tj cG];exact bU hT ((aT _).eK bH (λk r=>r.elim (λe=>e.imp id λe=>⟨e.1,by omega⟩) λe=>.inr ⟨by omega,by omega⟩) (aE.lt fb (by omega))) AS
 ·rw[be aV]at hT;have qW:(aR==0)=false:=hv aV;simp[go_sem,gO,gP,n',kO,Lh,bS,ik,jK,aV,qW,bne,Ef,hz,ic];exact bU hT t_ hQ
end
def uC(x:Nat×bF):List N:=.int .u16 x.1::(aZ x.2).toList
def e_(x:Nat×bF):Array N:=(uC x).toArray
structure pT(x:Nat×bF):Prop where
 n:x.1<65536
 i:fu x.2
section
variable {x:Nat×bF}
theorem auw(ok:pT x):(uC x).length=45:=by
 have:=hA ok.i;simp[uC,this]
theorem rP(ok:pT x):(e_ x).size=45:=auw ok
theorem Hf(ok:pT x):(e_ x).extract 0 45=e_ x:=by rw[<-rP ok];simp
theorem TX:(e_ x)[0]? =some (.int .u16 x.1):=by simp[e_,uC]
theorem afw(ok:pT x):(e_ x).extract 1 45=aZ x.2:=by
 have:=hA ok.i;apply ip;simp[e_,uC,this];rw[mP (by simp[this])]
theorem ER:jx (e_ x)=true:=yJ (by
 intro u ap;unfold uC at ap;rcases io.1 ap with rfl|ap
 ·rfl
 ·have T:=Sw x.2;unfold jx at T;rw[AD]at T
  grind)
end
theorem zD:pT (0,bp):=⟨by decide,jy⟩
theorem Bl:(prog.info? 227).map (λi=>i.zero.isSome)=some true:=by kernel_rfl
theorem Bm:kN prog 227=e_ (0,bp):=by kernel_rfl
theorem afD:Bc prog 220 227 (.agg (e_ (0,bp))) 45 72:=⟨underlying220,by kernel_rfl,rP zD,by decide⟩
theorem aL_(n:Nat):dT (e_ (0,bp)) 0 #[.int .u16 n]=e_ (n,bp):=by simp[dT,e_,uC]
theorem aL'(n:Nat)(x:bF)(ok:fu x):dT (e_ (n,bp)) 1 (aZ x)=e_ (n,x):=by
 have J:=hA ok;have T:=hA jy;apply ip;simp[dT,e_,uC,J,T]
theorem aBc(x:Nat×bF)(ok:pT x){w:M}{K:N->M->Prop}:jb prog 227 [(0,.int .u16 x.1),(1,.agg (aZ x.2))] w K=K (.agg (e_ x)) w:=by
 refine ma underlying227 Bl (places:=#[(0,1),(1,44)]) (by simp[go_sem]) ?_;have hz:=rP zD;have T:=rP (x:=(x.1,bp)) ⟨ok.n,jy⟩;have ad:=hA ok.i;simp[jw,Bm,Value.cells,hz,uf,aL_,aL',ok.i,ad,T]
theorem aoU{x:Nat×bF}(ok:pT x)(w:M):(Instr.buildSlice 220 1 #[(0,.agg (e_ x))]).run prog w=.ok (.slice (some ⟨w.1.size,0,none⟩) 1 1) (w.alloc (.cells (e_ x) 227)):=
 SA (size:=45) (z:=.agg (e_ (0,bp))) underlying220 Tryz.sizeOf227 (by kernel_rfl) (rP ok) (by decide) (by decide) w
theorem aMa{n:List Pt}(ok:iJ n){i:Nat}(ad:i<8):(∀x∈xk i n,nU x)/\(xk i n).length<=8:=by
 refine⟨λx W=> ?_,dK (acS _ _) (by simp)⟩;obtain⟨k,r,e⟩:=Xz.1 W;rw[wl]at r;split at e
 ·cases e
 ·simp only[OJ]at e;subst e;refine⟨by show 8*i+k<_;omega,?_⟩;show cc (n.getD k ah);rw[lk];by_cases h:k<n.length
  ·rw[d_ h];exact ok.all _ (wj h)
  grind
section
variable {aF:Type}{ba:aF->jf}{m:aF->Nat}{rd:Src aF}{dy:TypeId}{ce sv:N}{s:aF}{w w':M}{O:Nat->Prop}
theorem aju(rd:Src aF)(top:List Pt)(bj:iJ top):∀(L:List Nat) (s:aF) (dP:List (Nat×Pt)) (dZ:List Pt),(∀i∈L,i<8)->(∀x∈dP,nU x)->(∀p∈dZ,cc p)->(∀x∈(mO rd top L s dP dZ).2.1,nU x)/\(∀p∈(mO rd top L s dP dZ).2.2.1,cc p)/\(mO rd top L s dP dZ).2.1.length<=dP.length+8*L.length/\(mO rd top L s dP dZ).2.2.1.length<=dZ.length+L.length
 |[],s,dP,dZ,_,J,T=>by unfold mO;grind
 |i::L,s,dP,dZ,b_,J,T=>by
  have ad:i<8:=b_ i (by simp);have Wp:∀j∈L,j<8:=λj I=>b_ j (by simp[I]);have hS:cc (top.getD i ah):=by
   rw[lk];by_cases h:i<top.length
   ·rw[d_ h];exact bj.all _ (wj h)
   ·rw[Ed (by omega)];exact cH
  have k':∀p∈dZ++[top.getD i ah],cc p:=λp am=>by
   grind
  obtain⟨t1,el⟩:=aMa (Jl rd s (top.getD i ah)) ad;unfold mO;split
  ·obtain⟨a,b,c,d⟩:=aju rd top bj L s dP dZ Wp J T
   grind
  ·split
   ·grind
   ·obtain⟨a,b,c,d⟩:=aju rd top bj L (cM rd s (top.getD i ah)).1 (dP++xk i (cM rd s (top.getD i ah)).2.1) (dZ++[top.getD i ah]) Wp (λx W=>(hP.1 W).elim (J x) (t1 x)) k'
    grind
theorem anB(rd:Src aF)(s:aF)(p:Pt)(ok:cc p):(∀x∈(lS rd s p).2.1,nU x)/\(∀hZ∈(lS rd s p).2.2.1,cc hZ)/\(lS rd s p).2.1.length<=64/\(lS rd s p).2.2.1.length<=9:=by
 have bi:∀(e:Int),(∀x∈([]:List (Nat×Pt)),nU x)/\(∀hZ∈([]:List Pt),cc hZ)/\([]:List (Nat×Pt)).length<=64/\([]:List Pt).length<=9:=λ_=>⟨by simp,by simp,by simp,by simp⟩;have J:(∀x∈(l_ rd s p).2.1,nU x)/\(∀hZ∈(l_ rd s p).2.2.1,cc hZ)/\(l_ rd s p).2.1.length<=64/\(l_ rd s p).2.2.1.length<=9:=by
  unfold l_;split
  ·exact bi 0
  ·split
   ·grind
   ·obtain⟨a,b,c,d⟩:=aju rd (cM rd s p).2.1 (Jl rd s p) (List.range 8) (cM rd s p).1 [] [p] (λi ad=>by simpa using ad) (by simp) (λhZ am=>by grind)
    grind
 unfold lS
 grind
end
end Go.Proofs.YtoohkhcpboldjaaGreatDoor
namespace Go.Kin
open Go Go.RowKit
section
variable {α:Type}{w:M}{v:N}{en:α->Array N}{k:Nat}{L:List α}
theorem fC.OX(h:fC w v (λa=>(en a).toList) k L)(r:0<k)(fo:∀a∈L,(en a).size=k){i:Nat}{a:α}(ad:L[i]? =some a):∃b off c cs bv fr,v=.slice (some ⟨b,off,none⟩) L.length c/\w.1[b]? =some (.cells cs bv fr)/\cs.extract (off+i*k) (off+i*k+k)=en a/\off+i*k+k<=cs.size:=by
 obtain⟨A,c,rfl,_,_,ag⟩:=h;have aO:=(jG.1 ad).1;obtain⟨b,off,rfl,_,ax⟩:=ag (by omega);have ak:(en a).toList.length=k:=by rw[wi];exact fo a (ib ad)
 obtain⟨tB,TR⟩:∃u,(en a).toList[0]? =some u:=⟨_,d_ (by omega)⟩;obtain⟨o,av,Vk⟩:=cells_of_cell (ax i a 0 tB ad TR);have av:w.1[b]? =some o:=av;obtain⟨cs,bv,fr,rfl⟩:∃cs bv fr,o=.cells cs bv fr:=by
  cases o with
  |cells cs bv fr=>exact⟨_,_,_,rfl⟩
  |_=>cases Vk
 have Z:∀j,j<k->cs[off+i*k+j]? =(en a).toList[j]? :=λj I=>by
  obtain⟨u,ap⟩:∃u,(en a).toList[j]? =some u:=⟨_,d_ (by omega)⟩;rw[ap,<-ax i a j u ad ap,aG av]
 have cU:off+i*k+k<=cs.size:=by
  have Aj:=Z (k - 1) (by omega);rw[d_ (show k - 1<(en a).toList.length by omega)]at Aj;have:=(B'.1 Aj).1;omega
 grind
theorem aMb(fo:∀a∈L,(en a).size=k){j:Nat}{a:α}(I:L[j]? =some a){i:Nat}{u:N}(ap:(en a).toList[i]? =some u):(ei en L)[j*k+i]? =some u:=by
 have aO:=(jG.1 I).1;have J:=OS fo (Ly aO);rw[Gk I,DV (by omega),J,show j*k+i - j*k=i by omega,LA (jG.1 ap).1];exact ap
theorem fC.fF{e:Nat}(h:w.ownsRow 0 e k v L.length (ei en L))(fo:∀a∈L,(en a).size=k):fC w v (λa=>(en a).toList) k L:=by
 obtain⟨A,c,aM,J,T,_⟩:=bC.fF h;refine⟨A,c,aM,J,T,λam=> ?_⟩;obtain⟨g,cap,dF,ky,_,_,ab,_,Z⟩:=A' h am;rw[aM]at ky;injection ky with fp;refine⟨g,0,fp,lt_of_block ab,λj a i u I ap=> ?_⟩;rw[xB];exact Z _ _ (aMb fo I ap)
theorem fC.anD{S:Nat->Prop}{w w':M}{en:α->List N}{v:N}(h:fC w v en k L)(Z:H S w w')(aq:∀b,v.ownBlock=some b->¬S b):fC w' v en k L:=h.ch Z λb _ ab=>aq b ab
end
def abT(R:N->M->Prop)(w:M)(u x:N)(v:N)(w':M):Prop:=w'=w/\R (.tuple #[v,u,x]) w
@[simp] theorem aTs(R:N->M->Prop)(w:M)(u x v:N)(w':M):abT R w u x v w'=(w'=w/\R (.tuple #[v,u,x]) w):=f_ rfl
section
attribute [local semireducible] DM kA gH
@[simp] theorem aTt(P:Program)(n:Nat)(R:N->M->Prop)(f:Nat->N)(w:M)(t y a:Nat)(bV:TypeId):
  kA P n #[.cell a bV,.tmp t,.tmp y] f w R=DM P bV (hh n f (.tmp a)) w (abT R w (hh n f (.tmp t)) (hh n f (.tmp y))):=by
 show _=gH _ _;unfold kA gH;simp only[BR,XK,XL,XM,Li,Wq];simp only[Sem.run_bind,Sem.run_pure,Sem.run_map,Result.andThen_ok]
 cases J:(asAddr (if a<n then f a else undef)).run P w with
 |halt h an=>simp
 |ok bx an=>
  simp only[Result.andThen_ok]
  cases T:(loadVar bV bx).run P an with
  |halt h aJ=>simp
  |ok v aJ=>
   apply propext;simp[abT];constructor
   ·rintro⟨_,⟨rfl,bM⟩,h⟩;exact⟨bM,h⟩
   ·rintro⟨bM,h⟩;exact⟨_,⟨rfl,bM⟩,h⟩
end
attribute [irreducible] abT
end Go.Kin
namespace Go.Proofs.YtoohkhcpboldjaaGreatDoor
open Go.RowKit Go.Kin Tryz
def aMc(xs:List bF)(w:M)(v':N)(w':M):Prop:=
 ∃s e,v'=.tuple #[s,aa e]/\H al w w'/\((e=0/\xs.all fc=true/\bC w' s (my xs).length (br (my xs))/\∀k,s.ownBlock=some k->w.1.size<=k/\k<w'.1.size)\/(e=5/\xs.all fc=false/\s=.slice none 0 0))
theorem aMd(xs:List bF)(w:M)(ok:me xs)(bM:mb w):bc prog 218 #[.agg (dL xs)] w (aMc xs w):=by
 refine bz func218 ntmps218 λbk af=> ?_;have cU:=xF ok;have gV:=IQ ok;have Z:=(H.refl al w).alloc (.cells (dL xs) 279);have ho:=λw=>adl w ok yT;by_cases hz:xs=hm
 ·subst hz;have rK:=aw0 512 (w.alloc (.cells (dL hm) 279)) (by decide);have aMe:((512:Nat):Int)=512:=rfl;rw[aMe]at rK;have aMf:=cr (w.alloc (.cells (dL hm) 279)) (.cells (br (dh 512)).toArray 5);have lx:=bC.Gb aMf (n:=512) (c:=512) (off:=0) (xs:=br (dh 512)) (c_ _) (by decide) (by rfl);simp[go_sem,cU,gV,Gr,ho];rw[rK];simp[go_sem];refine af _ _ ⟨_,0,rfl,Z.alloc _,.inl ⟨rfl,alo,?_,λk r=> ?_⟩⟩
  ·rw[aw1,nu];simpa using lx
  ·simp[Value.ownBlock]at r;simp;omega
 simp[go_sem,cU,gV,Gr,ho,hz];revert Z;generalize w.alloc (.cells (dL xs) 279)=ai;intro Z;refine di (λV f bI=>∃k,k<=4/\V=4 - k/\f 11=.agg (dL xs)/\f 12=aa k/\(xs.take k).all fc=true/\kD 5 w (f 4) (128*k) (br (my (xs.take k))) bI) 4
  ⟨0,by omega,rfl,by simp,by simp,by simp,by simpa[my,br]using kD.nil _ Z⟩ ?_
 rintro cQ bJ _ f bI ⟨k,r,rfl,lY,jW,ao,aC⟩;by_cases gq:k<4
 ·have eo:(k:Int)<4:=by omega
  obtain⟨x,W,cG⟩:=ok.dI gq;have rL:=alj ok gq W;have gF:=hA cG;have AH:=tj cG;have ej:IntKind.i64.wrap ((k:Int)+1)=((k+1:Nat):Int):=by simp[cz];omega
  have iX:xs.take (k+1)=xs.take k++[x]:=by rw[nA,W];rfl
  have ux:(my (xs.take k)).length=128*k:=by
   rw[Sz _ λq au=>ok.all q (DU au),ol,ok.len,Xm r]
  have lO:=aC.step ((H.refl al bI).alloc (.cells (aZ x) 113));have cZ:=cr bI (.cells (aZ x) 113);simp[go_sem,lY,jW,eo,rL,uj,uk,hA jy,gF,AH,bS];revert lO cZ;generalize bI.alloc (.cells (aZ x) 113)=an;generalize bI.1.size=g;intro lO cZ;refine(XT x an cG (bM.ch lO.ch id)).mono ?_;rintro _ aJ ⟨rfl,aI⟩;have pc:=lO.step aI;have dm:=aI.am cZ id
  cases nQ:fc x
  ·simp[go_sem];refine af _ _ ⟨_,5,rfl,pc.ch,.inr ⟨rfl,?_,rfl⟩⟩
   grind
  ·simp[go_sem,dm,gF,AH];refine(awW x (f 4) (128*k) (my (xs.take k)) aJ cG (by omega) ux pc.own).mono ?_;intro v3 bs q;have zx:=pc.grow q.1 q.2.1 q.2.2;simp[go_sem,lY,jW,ej];refine ct.intro (4 -(k+1)) (by omega) (bJ _ _ _ ⟨k+1,by omega,rfl,by simp[lY],by simp,?_,?_⟩)
   ·grind
   ·rw[iX];simpa[my,BY]using zx
 ·obtain rfl:k=4:=by omega
  rw[mP (by rw[ok.len];omega)]at ao aC;simp[go_sem,jW];refine af _ _ ⟨_,0,rfl,aC.ch,.inl ⟨rfl,ao,?_,λk r=>⟨aC.pF k r,Gv aC.own k r⟩⟩⟩;rw[Sz _ ok.all,ok.len];exact aC.dR
def nt(L:List bF)(l:List (Nat×bF)):List bF:=l.foldl (λL x=>L.set (x.1%4) x.2) L
def sY(off:Nat):Pt:=⟨4,0,0,off,0,List.replicate 32 0,[0,0,0,0]⟩
def mo{aF:Type}(rd:Src aF)(nw:aF->Pt->List UInt8->aF×Pt×Int)(s:aF)(p:Pt)(off:Nat)(l:List (Nat×bF)):aF×Pt×Bool×Int:=
 if(dz rd s p off).2.2≠0 then((dz rd s p off).1,(dz rd s p off).2.1,false,(dz rd s p off).2.2)else
 if(hC rd (dz rd s p off).1 (dz rd s p off).2.1).2.2≠0 then((hC rd (dz rd s p off).1 (dz rd s p off).2.1).1,(dz rd s p off).2.1,false,(hC rd (dz rd s p off).1 (dz rd s p off).2.1).2.2)else
 if nt (hC rd (dz rd s p off).1 (dz rd s p off).2.1).2.1 l=(hC rd (dz rd s p off).1 (dz rd s p off).2.1).2.1 then((hC rd (dz rd s p off).1 (dz rd s p off).2.1).1,(dz rd s p off).2.1,false,0)else
 if nt (hC rd (dz rd s p off).1 (dz rd s p off).2.1).2.1 l=hm then((hC rd (dz rd s p off).1 (dz rd s p off).2.1).1,ah,true,0)else
 if(nt (hC rd (dz rd s p off).1 (dz rd s p off).2.1).2.1 l).all fc=false then((hC rd (dz rd s p off).1 (dz rd s p off).2.1).1,(dz rd s p off).2.1,false,5)else
 ((nw (hC rd (dz rd s p off).1 (dz rd s p off).2.1).1 (sY off) (my (nt (hC rd (dz rd s p off).1 (dz rd s p off).2.1).2.1 l))).1,
  (nw (hC rd (dz rd s p off).1 (dz rd s p off).2.1).1 (sY off) (my (nt (hC rd (dz rd s p off).1 (dz rd s p off).2.1).2.1 l))).2.1,true,
  (nw (hC rd (dz rd s p off).1 (dz rd s p off).2.1).1 (sY off) (my (nt (hC rd (dz rd s p off).1 (dz rd s p off).2.1).2.1 l))).2.2)
theorem ai6:∀(l:List (Nat×bF)) {L:List bF},me L->(∀x∈l,pT x)->me (nt L l)
 |[],_,h,_=>h
 |x::l,L,h,ak=>ai6 l (h.set (x.1%4) (ak x (by simp)).i) λy ar=>ak y (by simp[ar])
theorem aMg{l:List (Nat×bF)}{L:List bF}{i:Nat}{x:Nat×bF}(W:l[i]? =some x):nt L (l.take (i+1))=(nt L (l.take i)).set (x.1%4) x.2:=by
 unfold nt;rw[nA,W,Cc];rfl
theorem at9{off:Nat}(h:off<4294967296):cc (sY off):=⟨by simp[sY],by simp[sY],by simp[sY],by simpa[sY]using h,by simp[sY],by simp[sY],by simp[sY],by simp[sY]⟩
theorem aMh{w:M}{K:N->M->Prop}(off:Nat):jb prog 44 [(0,.int .u8 4),(3,.int .u32 off)] w K=K (.agg (ae (sY off))) w:=by
 refine ma underlying44 gO (places:=#[(0,1),(1,1),(2,1),(3,1),(4,1),(5,32),(37,4)]) (by simp[go_sem]) ?_;have hz:=cd cH;simp[jw,gP,Value.cells,hz,uf];simp[dT,ae,ah,sY];rfl
section
variable {aF:Type}{ba:aF->jf}{m:aF->Nat}{rd:Src aF}{nw:aF->Pt->List UInt8->aF×Pt×Int}{ca:aF->Pt->aF}{dy:TypeId}{ce sv:N}{s:aF}{w w':M}{O:Nat->Prop}
theorem aB7(aA:xW ba m rd nw ca (.iface dy ce))(aC:64<=m s)(aT:∀s,kB (ba s))(h:ba s w O)(p:Pt)(ok:cc p)(off:Nat)(iD:off<4294967296)(iw:N)(l:List (Nat×bF))(ak:fC w iw uC 45 l)(fo:∀x∈l,pT x)(ga:∀j,iw.ownBlock=some j->¬O j/\j<w.1.size)(yW:l.length<=1000000)(cv:hI w)(aH:iO ba O):
  bc prog 180 #[.iface dy ce,.agg (ae p),.int .u32 off,iw] w λv' w'=>v'=.tuple #[.agg (ae (mo rd nw s p off l).2.1),.bool (mo rd nw s p off l).2.2.1,aa (mo rd nw s p off l).2.2.2]/\cc (mo rd nw s p off l).2.1/\ba (mo rd nw s p off l).1 w' (aE O w w')/\H O w w':=by
 refine bz func180 ntmps180 λbk af=> ?_;have de:=cd ok;have da:=ef ok;have n':=cd cH;have aMi:=ef cH;have AY:=(aT s).lt h;have aU:=((H.refl al w).alloc (.cells (ae p) 44)).alloc (.cells (ae ah) 44);have bu:=oF w (.cells (ae p) 44) (.cells (ae ah) 44);have bt:=nM w (.cells (ae p) 44) (.cells (ae ah) 44);have fq:=cv.ch aU λ_ _ e=>e;have J:=(aT s).ch h aU λ_ _ e=>e;have gZ:((w.alloc (.cells (ae p) 44)).alloc (.cells (ae ah) 44)).1.size=w.1.size+2:=by simp
 have fb:=ak.ch aU λ_ _ _ e=>e;obtain⟨ai,dx⟩:=aD ((w.alloc (.cells (ae p) 44)).alloc (.cells (ae ah) 44));rw[dx]at aU bu bt fq J gZ fb;simp[go_sem,de,da,gO,gP,dx,bu];obtain⟨eG,vp⟩:=aD (w.1.size+1);rw[vp]at bt⊢;clear dx;have ff:∀j,w.1.size<=j->¬O j:=λj I e=>by have:=AY j e;omega
 have aux:¬O eG:=ff eG (by omega);have Rv:∀k,O k->k<ai.1.size:=λk r=>by have:=AY k r;omega
 have bU:∀{Y:M} {x:aF×Pt×Bool×Int},mo rd nw s p off l=x->cc x.2.1->ba x.1 Y (aE O ai Y)->H (λk=>O k\/k=eG) ai Y->bk (.tuple #[.agg (ae x.2.1),.bool x.2.2.1,aa x.2.2.2]) (Y.setRow eG (ae x.2.1)):=λ{Y x} e cG a c=>by
  subst e;have JP:=c.size;have dA:H (aj eG) Y (Y.setRow eG (ae (mo rd nw s p off l).2.1)):=(H.refl (aj eG) Y).setRow (.inl rfl) _;have Cz:=dA.size;refine af _ _ ⟨rfl,cG,(aT _).eK ((aT _).ch a dA λk r e=>by simp only[aj]at e;subst e;exact r.elim aux λe=>by omega) (λk r=>r.imp id λe=>⟨by omega,by omega⟩) (aE.lt AY (by omega)),?_⟩;exact((aU.mono λ_ _ e=>e.elim).bZ c λk r e=>e.resolve_right (by omega)).bZ dA λk r e=>by simp only[aj]at e;omega
 have DL:=ajr aA.rd (by omega) aT J p ok off iD fq aH;have xn:=ajo rd s p off ok;have gc:=TH aA.rd s p off;have ls:mo rd nw s p off l=mo rd nw s p off l:=rfl
 conv at ls=>rhs;unfold mo
 obtain⟨⟨cR,eI,aR⟩,lv⟩:∃x,dz rd s p off=x:=⟨_,rfl⟩;rw[lv]at DL xn gc ls;simp only at DL xn gc ls;refine DL.mono ?_;rintro _ an ⟨rfl,T,aK⟩;have kO:=cd xn;have Lh:=ef xn;have kg:=aK.size;have mj:=aH.cv fq aK ⟨_,T⟩ λ_ _ e=>e;have jS:=aK.obj bt aux;have xP:=fb.ch aK λb _ e=>(ga b e).1;have aI:=(H.refl al an).alloc (.cells (ae eI) 44);have cK:=cr an (.cells (ae eI) 44);have kn:=mj.ch aI λ_ _ e=>e;have ag:=(aT _).ch T aI λ_ _ e=>e;have jK:=aI.obj jS id;have FI:=xP.ch aI λ_ _ _ e=>e;have iC:(an.alloc (.cells (ae eI) 44)).1.size=an.1.size+1:=by simp
 have hQ:=aK.trans (aI.mono (S':=O) λ_ _ e=>e.elim);obtain⟨aJ,ik⟩:=aD (an.alloc (.cells (ae eI) 44));rw[ik]at aI cK kn ag jK iC hQ FI;have t_:ba cR aJ (aE O ai aJ):=(aT _).eK ag (λk r=>r.imp id λe=>⟨e.1,by omega⟩) (aE.lt Rv (by omega));obtain⟨sZ,aMj⟩:=aD (an.1.size);have wide:∀{Y bG:M},H O Y bG->H (λk=>O k\/k=eG) Y bG:=λc=>c.mono λk _ e=>.inl e;by_cases aV:aR=0
 case neg=>
  rw[be aV]at ls;have qW:(aR==0)=false:=hv aV;simp[go_sem,kO,Lh,gO,gP,n',bS,ik,jK,cK,aV,qW,bne];exact bU ls xn t_ (wide hQ)
 rw[aQ (by omega)]at ls;subst aV;simp[go_sem,kO,Lh,gO,gP,n',bS,ik,cK];rw[aMj]at cK⊢;have yz:=auv aA.rd (by omega) aT ag eI xn kn (aH.cN fq);have Am:=ae6 rd cR eI;have jL:=ae4 aA.rd cR eI;obtain⟨⟨jo,qb,dl⟩,gY⟩:∃x,hC rd cR eI=x:=⟨_,rfl⟩;rw[gY]at yz Am jL ls;simp only at yz Am jL ls;refine yz.mono ?_;rintro _ bs ⟨rfl,aP,bo⟩;have Dp:=bo.size;have pU:∀k,w.1.size<=k->k<ai.1.size->¬aE O ai an k:=λk J T e=>e.elim (ff k J) λe=>by omega
 have m_:=bo.obj jK (pU eG (by omega) (by omega));have Be:bs.1[sZ]? =some (.cells (ae eI) 44 (0,0)):=bo.obj cK λe=>e.elim (λe=>by have:=Rv sZ e;omega) λe=>by omega
 have ht:=xF Am;have wF:=IQ Am;have abS:=xF yT;have wV:=(aH.cN fq).cv kn bo ⟨_,aP⟩ λ_ _ e=>e;have bE:=(H.refl al bs).alloc (.cells (dL qb) 279);have dG:=cr bs (.cells (dL qb) 279);have kV:(bs.alloc (.cells (dL qb) 279)).1.size=bs.1.size+1:=by simp
 have sj:=bE.obj m_ id;have J':=bE.obj Be id;have rf:=wV.ch bE λ_ _ e=>e;obtain⟨bD,qq⟩:=aD (bs.alloc (.cells (dL qb) 279));rw[qq]at bE dG kV sj J' rf;have bH:=(aT _).ch aP bE λ_ _ e=>e;have AS:H O ai bD:=(hQ.bZ bo λk r e=>e.elim id λe=>by omega).trans (bE.mono λ_ _ e=>e.elim);have NR:ba jo bD (aE O ai bD):=(aT _).eK bH (λk r=>r.elim (λe=>e.imp id λe=>⟨e.1,by omega⟩) λe=>.inr ⟨by omega,by omega⟩) (aE.lt Rv (by omega));have XV:=(FI.ch bo λb ab e fD=>fD.elim (ga b e).1 λh=>by have:=(ga b e).2;omega).ch bE λ_ _ _ e=>e;by_cases aV:dl=0
 case neg=>
  rw[be aV]at ls;have qW:(dl==0)=false:=hv aV;simp[go_sem,Gp,Gq,ht,wF,abS,bS,qq,sj,J',kO,Lh,n',aV,qW,bne];exact bU ls xn NR (wide AS)
 rw[aQ (by omega)]at ls;subst aV;have cF:=(H.refl al bD).alloc (.cells (dL qb) 279);have gj:=cr bD (.cells (dL qb) 279);have qs:(bD.alloc (.cells (dL qb) 279)).1.size=bD.1.size+1:=by simp
 have sz:=cF.obj sj id;have Ka:=cF.obj J' id;have zI:=cF.obj dG id;have Ak:=rf.ch cF λ_ _ e=>e;have cS:=(aT _).ch bH cF λ_ _ e=>e;have qg:=XV.ch cF λ_ _ _ e=>e;have wp:H O ai (bD.alloc (.cells (dL qb) 279)):=AS.trans (cF.mono λ_ _ e=>e.elim);obtain⟨cD,nc⟩:=aD (bD.alloc (.cells (dL qb) 279));rw[nc]at cF gj qs sz Ka zI Ak cS qg wp;have cu:=qg.len underlying220 3;simp[go_sem,Gp,Gq,ht,wF,abS,bS,qq,dG,nc,cu];obtain⟨Qa,aMk⟩:=aD (bs.1.size);obtain⟨Dd,aMl⟩:=aD (bD.1.size);rw[aMk]at zI⊢;rw[aMl]at gj⊢;have Pf:∀k,aE (aE O ai an) aJ bs k->k<Qa/\k≠eG/\k≠sZ:=λk r=>by
  rcases r with(r|r)|r
  ·have:=AY k r;omega
  ·omega
  ·omega
 refine di (λV f u=>∃i,V=l.length - i/\i<=l.length/\f 0=.iface dy ce/\f 2=.int .u32 off/\f 8=az eG/\f 11=az sZ/\f 13=az Qa/\f 14=az Dd/\f 42=iw/\f 43=aa l.length/\f 44=aa (i:Nat)/\
   u.1[eG]? =some (.cells (ae ah) 44 (0,0))/\u.1[sZ]? =some (.cells (ae eI) 44 (0,0))/\u.1[Qa]? =some (.cells (dL qb) 279 (0,0))/\u.1[Dd]? =some (.cells (dL (nt qb (l.take i))) 279 (0,0))/\
   H (aj Dd) cD u) l.length
  ⟨0,rfl,gG _,by simp,by simp,by simp,by simp,by simp,by simp,by simp,by simp,by simp,sz,Ka,zI,by simpa[nt]using gj,H.refl _ _⟩ ?_
 rintro cQ bJ _ f u ⟨i,rfl,ad,f0,bg,bB,gC,fw,f14,ajv,Wr,Ws,u8,pK,Pd,Je,aS⟩;have EP:=aS.size;have pn:=Ak.ch aS λk r e=>by simp only[aj]at e;have:=cv.lt k r;omega
 have ap:=(aT _).ch cS aS λk r e=>by simp only[aj]at e;have:=Pf k r;omega
 have Hj:=qg.ch aS λb _ ab e=>by simp only[aj]at e;have:=(ga b ab).2;omega
 have DA:H O ai u:=wp.bZ aS λk r e=>by simp only[aj]at e;omega
 have xm:=ai6 (l.take i) Am λx W=>fo x (DU W);by_cases aO:i<l.length
 ·have fy:(i:Int)<l.length:=by omega
  obtain⟨x,W⟩:∃x,l[i]? =some x:=⟨_,d_ aO⟩;have cG:=fo x (ib W);have aMm:fC u iw (λa=>(e_ a).toList) 45 l:=Hj;obtain⟨eC,uB,hB,aeY,aeZ,ae0,td,iQ,xX,eY⟩:=aMm.OX (by decide) (λa ao=>rP (fo a ao)) W;have eF:=rP cG;have fN:=Hf cG;have Hk:=afw cG;have uF:=ER (x:=x);have ee:=rP zD;have eQ:IntKind.i64.wrap ((i:Int)+1)=((i+1:Nat):Int):=by rw[cz];omega
  have dE:=(H.refl al u).alloc (.cells (e_ x) 227);have kk:=cr u (.cells (e_ x) 227);have iy:(u.alloc (.cells (e_ x) 227)).1.size=u.1.size+1:=by simp
  have ajw:=dE.obj Je id;have auy:=(aG kk 0).trans TX;obtain⟨cE,CS⟩:=aD (u.alloc (.cells (e_ x) 227));rw[CS]at dE kk iy ajw auy;rw[td]at ajv;simp[go_sem,ajv,Wr,Ws,aO,fy,iQ,xX,eY,Bl,Bm,uF,ee,eF,fN,bS,CS,auy];refine(ajq x.1 cG.n cE).mono ?_;rintro _ ec ⟨rfl,CU⟩;subst ec;have Lg:=hA cG.i;have NE:(x.1:Int)%4<4:=by omega
  have auz:x.1%4<4:=by omega
  have ajs:(0:Int)<=(x.1:Int)%4:=by omega
  have ajt:((x.1:Int)%4).toNat=x.1%4:=by omega
  have eh:x.1%4*44+44<=176:=by omega
  have qt:=xF xm;have qE:=awU xm auz cG.i;simp[go_sem,kk,eF,Hk,f14,Ws,NE,auz,ajs,ajt,eh,ajw,qt,Lg,qE,eQ];have qY:H (aj Dd) u (cE.setRow Dd (dL ((nt qb (l.take i)).set (x.1%4) x.2))):=(dE.mono (S':=aj Dd) λ_ _ e=>e.elim).setRow (.inl rfl) _;have Df:¬aj Dd eG:=λe=>by simp only[aj]at e;omega
  have aMn:¬aj Dd sZ:=λe=>by simp only[aj]at e;omega
  have aMo:¬aj Dd Qa:=λe=>by simp only[aj]at e;omega
  refine ct.intro (l.length -(i+1)) (by omega) (bJ _ _ _ ⟨i+1,rfl,by omega,by simp[f0],by simp[bg],by simp[bB],by simp[gC],by simp[fw],by simp[f14],by simp[ajv,td],by simp[Wr],by simp,qY.obj u8 Df,qY.obj pK aMn,qY.obj Pd aMo,?_,aS.trans qY⟩);rw[gh,ajw,aMg W];rfl
 ·obtain rfl:i=l.length:=by omega
  have fy:¬((l.length:Nat):Int)<l.length:=by omega
  rw[mP (c_ _)]at Je xm;obtain⟨B,aMp⟩:=aD (nt qb l);rw[aMp]at Je xm ls;have ajx:=xF xm;have ajy:=IQ xm;have yh:=λw=>adl w xm Am;have VP:=λw=>adl w xm yT;have ajz:∀{Y:M},u.1.size<=Y.1.size->∀k,aE (aE O ai an) aJ bs k->aE O ai Y k:=λfX k r=>by
   rcases r with(r|r)|r
   ·exact .inl r
   ·exact .inr ⟨by omega,by omega⟩
   ·exact .inr ⟨by omega,by omega⟩
  have auA:ba jo u (aE O ai u):=(aT _).eK ap (ajz (c_ _)) (aE.lt Rv (by omega));by_cases abU:B=qb
  ·rw[be abU]at ls;have pj:∀w,(Op.equalIn 10000 279 (.agg (dL B)) (.agg (dL qb))).run prog w=.ok true w:=λw=>by rw[yh,ou abU]
   simp[go_sem,Wr,Ws,f14,fw,gC,bB,Je,Pd,pK,u8,ajx,ajy,ht,wF,pj,kO,Lh,n',bS];exact bU ls xn auA (wide DA)
  rw[aQ abU]at ls;have pj:∀w,(Op.equalIn 10000 279 (.agg (dL B)) (.agg (dL qb))).run prog w=.ok false w:=λw=>by rw[yh,vi abU]
  by_cases abV:B=hm
  ·rw[be abV]at ls;have ajA:∀w,(Op.equalIn 10000 279 (.agg (dL B)) (.agg (dL hm))).run prog w=.ok true w:=λw=>by rw[VP,ou abV]
   simp[go_sem,Wr,Ws,f14,fw,bB,Je,Pd,u8,ajx,ajy,ht,wF,pj,ajA,Gr,l',n',aMi,bS];exact bU ls cH auA (wide DA)
  rw[aQ abV]at ls;have ajA:∀w,(Op.equalIn 10000 279 (.agg (dL B)) (.agg (dL hm))).run prog w=.ok false w:=λw=>by rw[VP,vi abV]
  simp[go_sem,Wr,Ws,f14,fw,Je,Pd,ajx,ajy,ht,wF,pj,ajA,Gr];refine(aMd B u xm pn.qQ).mono ?_;rintro _ db ⟨sv,ah9,rfl,dV,Tp⟩;have rG:=dV.size;have rS:=dV.obj u8 id;have auB:=dV.obj pK id;have Rw:=pn.ch dV λ_ _ e=>e;have ir:=(aT _).ch ap dV λ_ _ e=>e;have auC:H O ai db:=DA.trans (dV.mono λ_ _ e=>e.elim);rcases Tp with⟨rfl,gV,lx,kc⟩|⟨rfl,gV,rfl⟩
  ·rw[aQ (by rw[gV];decide)]at ls;have agv:(my B).length=512:=by rw[Sz _ xm.all,xm.len]
   rw[agv]at lx;simp[go_sem,f0,bg,aMh];obtain⟨⟨afm,abW,aTu⟩,dO⟩:∃y,nw jo (sY off) (my B)=y:=⟨_,rfl⟩;rw[dO]at ls;simp only at ls;have Jw:∀k,aE (aE O ai an) aJ bs k->k<u.1.size:=(aT _).lt ap;refine aA.nw jo db (aE (aE O ai an) aJ bs) (sY off) (my B) sv _ (by omega) ir (at9 iD) agv lx (λj I=>⟨λe=>by have:=Jw j e;have:=kc j I;omega,(kc j I).2⟩) Rw ((aH.cN fq).cN kn) λnz fx ix nd=> ?_;rw[dO]at fx ix⊢;have aTv:=nd.size;have aav:=nd.obj rS λe=>(Pf eG e).2.1 rfl;have auD:=nd.obj auB λe=>(Pf sZ e).2.2 rfl;have Mq:=cd fx;have aMq:=ef fx;have Lj:H (aj sZ) nz (nz.setRow sZ (ae abW)):=(H.refl (aj sZ) nz).setRow (.inl rfl) _;have aTw:=Lj.size;have ahq:=Lj.obj aav λe=>by simp only[aj]at e;omega
   have aMr:(nz.setRow sZ (ae abW)).1[sZ]? =some (.cells (ae abW) 44 (0,0)):=by rw[gh,auD];rfl
   have lY:=(aT _).ch ix Lj λk r e=>by
    simp only[aj]at e;rcases r with r|r
    ·exact(Pf k r).2.2 e
    ·omega
   have aMs:H O ai (nz.setRow sZ (ae abW)):=(auC.bZ nd λk r e=>by
    rcases e with(e|e)|e
    ·exact e
    ·omega
    ·omega).bZ Lj λk r e=>by simp only[aj]at e;omega
   simp[go_sem,bB,gC,aav,auD,ahq,aMr,Mq,aMq,kO,n',bS];exact bU ls fx ((aT _).eK lY (λk r=>r.elim (ajz (by omega) k) λe=>.inr ⟨by omega,by omega⟩) (aE.lt Rv (by omega))) (wide aMs)
  ·rw[be gV]at ls;simp[go_sem,bB,gC,rS,auB,kO,Lh,n',bS];exact bU ls xn ((aT _).eK ir (ajz rG) (aE.lt Rv (by omega))) (wide auC)
theorem aov(aA:xW ba m rd nw ca sv)(s:aF)(p:Pt)(off:Nat)(l:List (Nat×bF)):m s<=m (mo rd nw s p off l).1+64:=by
 have J:=TH aA.rd s p off;have T:=ae4 aA.rd (dz rd s p off).1 (dz rd s p off).2.1;have ag:=aA.aeU (hC rd (dz rd s p off).1 (dz rd s p off).2.1).1 (sY off) (my (nt (hC rd (dz rd s p off).1 (dz rd s p off).2.1).2.1 l));unfold mo
 grind
end
end Go.Proofs.YtoohkhcpboldjaaGreatDoor
