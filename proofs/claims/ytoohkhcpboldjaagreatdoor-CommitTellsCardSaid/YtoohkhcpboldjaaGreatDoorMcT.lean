/- A mirror's counters stay low over commits (what a contract's fuel wants). They speak of no memory. No condition. -/
import Derived.Test.YtoohkhcpboldjaaGreatDoorMcJ
import Derived.Test.YtoohkhcpboldjaaGreatDoorStF
set_option maxRecDepth 100000
set_option maxHeartbeats 1000000
set_option linter.unusedSimpArgs false
set_option linter.unusedVariables false
namespace Go.Proofs.YtoohkhcpboldjaaGreatDoor
open Go.RowKit Go.Kin Tryz
def qP:yd:=(0,List.replicate 32 0,[0,0,0,0])
theorem agx:wS qP:=⟨by decide,by decide,by decide,λi x W=>by
 match i,W with
 |0,W=>cases W;decide
 |1,W=>cases W;decide
 |2,W=>cases W;decide
 |3,W=>cases W;decide⟩
theorem aD8(w:M){x y:yd}(W:wS x)(ar:wS y):(Op.equalIn 10000 61 (.agg (wx x)) (.agg (wx y))).run prog w=.ok (decide (x=y)) w:=by
 have aL:∀w,(Op.equalIn 9999 41 (.agg (br x.2.1).toArray) (.agg (br y.2.1).toArray)).run prog w=.ok (decide (x.2.1=y.2.1)) w:=λw=>WX w 9997 _ _ 32 underlying41 underlying5 Tryz.sizeOf5 Tryz.isAgg5 _ _ W.aN ar.aN;have aR:∀w,(Op.equalIn 9999 42 (.agg (hg x.2.2).toArray) (.agg (hg y.2.2).toArray)).run prog w=.ok (decide (x.2.2=y.2.2)) w:=λw=>acq w 9997 _ _ 4 underlying42 underlying39 Tryz.sizeOf39 Tryz.isAgg39 _ _ W.ao ar.ao;have hE:=Ga x.1 x.2.1 x.2.2;have aD9:=Ga y.1 y.2.1 y.2.2;have am:decide (x=y)=(decide (x.1=y.1)&&(decide (x.2.1=y.2.1)&&decide (x.2.2=y.2.2))):=by
  obtain⟨a,b,c⟩:=x;obtain⟨jv,b',dA⟩:=y;simp only[Prod.mk.injEq,Bool.decide_and]
 rw[am];simp[go_sem,hE,aD9,acE W.aN,acE ar.aN,akZ W.aN W.ao,akZ ar.aN ar.ao,aL,aR]
 grind
def rk(a:yd):Pt:=⟨5,0,0,0,a.1,a.2.1,a.2.2⟩
theorem apM{a:yd}(ok:wS a):cc (rk a):=⟨by show 5<256;decide,by show 0<256;decide,by show 0<65536;decide,by show 0<4294967296;decide,ok.aq,ok.aN,ok.ao,λx W=>by
 obtain⟨i,ad⟩:=vf.1 W;exact ok.lt i x ad⟩
def yg{aF:Type}(rd:Src aF)(s:aF)(a:yd):aF×et×Int:=
 if a=qP then(s,dU,0)else
 if jY (rk a)=false then(s,dU,5)else
 let b:=rd s (rk a)
 if b.2.2≠0 then(b.1,dU,b.2.2)else
 if(uK b.2.1).2≠0\/(uK b.2.1).1.1≠a.1 then(b.1,dU,21)else(b.1,⟨a.1,rk a,(uK b.2.1).1.2⟩,0)
theorem apN{w:M}{K:N->M->Prop}:jb prog 61 [] w K=K (.agg (wx qP)) w:=apO
theorem UK{w:M}{K:N->M->Prop}:jb prog 46 [] w K=K (.agg (bN dU)) w:=
 ma underlying46 wt (places:=#[(0,1),(1,41),(42,41)]) (by simp[go_sem]) (by simp[jw,wu])
theorem aD_{a:yd}(ok:wS a){a0 a1 a2 a3:Nat}(ao:a.2.2=[a0,a1,a2,a3]){w:M}{K:N->M->Prop}:jb prog 44 [(0,.int .u8 5),(4,.int .u64 a.1),(5,.agg (br a.2.1).toArray),(6,.agg #[.int .u16 a0,.int .u16 a1,.int .u16 a2,.int .u16 a3])] w K=K (.agg (ae (rk a))) w:=by
 refine ma underlying44 gO (places:=#[(0,1),(1,1),(2,1),(3,1),(4,1),(5,32),(37,4)]) (by simp[go_sem]) ?_;have aN:=ok.aN;have hz:=cd cH;simp[jw,gP,Value.cells,uf,hz,eO,aN];unfold dT;simp[ae,ah,rk,eO,aN,hg,DT,ao];simp[nu]
section
variable {aF:Type}{ba:aF->jf}{m:aF->Nat}{rd:Src aF}{dy:TypeId}{ce:N}{s:aF}{w w':M}{O:Nat->Prop}
theorem aD'(aA:pL ba m rd (.iface dy ce))(aC:16<=m s)(aT:∀s,kB (ba s))(h:ba s w O)(a:yd)(ok:wS a)(cv:hI w)(aH:iO ba O):
  bc prog 26 #[.iface dy ce,.agg (wx a)] w λv' w'=>v'=.tuple #[.agg (bN (yg rd s a).2.1),aa (yg rd s a).2.2]/\gi (yg rd s a).2.1/\ba (yg rd s a).1 w' (aE O w w')/\H O w w':=by
 refine bz func26 ntmps26 λbk af=> ?_;have ga:=(aT s).lt h;have has:=xz (n:=a.1) ok.aN ok.ao;have aaj:=OB (n:=a.1) ok.aN ok.ao;have ee:=lo ts;have ic:=un ts;have aU:=((H.refl al w).alloc (.cells (wx a) 61)).alloc (.cells (bN dU) 46);have bu:=oF w (.cells (wx a) 61) (.cells (bN dU) 46);have bt:=nM w (.cells (wx a) 61) (.cells (bN dU) 46);have gZ:((w.alloc (.cells (wx a) 61)).alloc (.cells (bN dU) 46)).1.size=w.1.size+2:=by simp
 obtain⟨ai,dx⟩:=aD ((w.alloc (.cells (wx a) 61)).alloc (.cells (bN dU) 46));rw[dx]at aU bu bt gZ;simp[go_sem,has,aaj,wt,wu,dx];obtain⟨g,lp⟩:=aD (w.1.size);rw[lp]at bu bt gZ⊢;clear dx;have J:=(aT s).ch h aU λ_ _ e=>e;have fq:=cv.ch aU λ_ _ e=>e;have ho:=λw=>aD8 w ok agx;obtain⟨kx,jJ⟩:=aD (yg rd s a);rw[jJ]at af;have bU:∀{u:M} {x:aF×et×Int} {Q:Nat->Prop},kx=x->gi x.2.1->ba x.1 u Q->(∀j,Q j->aE O ai u j)->H O w u->ai.1.size<=u.1.size->u.1[g+1]? =some (.cells (bN dU) 46 (0,0))->bk (.tuple #[.agg (bN x.2.1),aa x.2.2]) (u.setRow (g+1) (bN x.2.1)):=λ{u x Q} e cG aN eT aS JJ ab=>by
  subst e;have kb:=(H.refl (aj (g+1)) u).setRow (g:=g+1) (.inl rfl) (bN kx.2.1);have Zz:=kb.size;refine af _ _ ⟨rfl,cG,(aT _).eK ((aT _).ch aN kb λj I e=> ?_) (λj I=>(eT j I).imp id λe=>⟨by omega,by omega⟩) (aE.lt ga (by omega)),aS.bZ kb λj I e=>by simp only[aj]at e;omega⟩;simp only[aj]at e;rcases eT j I with ek|ek
  ·have:=ga j ek;omega
  ·omega
 clear af;have rT:kx=if a=qP then(s,dU,0)else if jY (rk a)=false then(s,dU,5)else if(rd s (rk a)).2.2≠0 then((rd s (rk a)).1,dU,(rd s (rk a)).2.2)else
  if(uK (rd s (rk a)).2.1).2≠0\/(uK (rd s (rk a)).2.1).1.1≠a.1 then((rd s (rk a)).1,dU,21)else((rd s (rk a)).1,⟨a.1,rk a,(uK (rd s (rk a)).2.1).1.2⟩,0):=jJ.symm
 clear jJ;by_cases hz:a=qP
 ·rw[be hz]at rT;have yh:=λw=>(ho w).trans (by rw[ou hz]);simp[go_sem,bu,bt,has,aaj,apN,UK,yh,ee,ic,mW,bS];exact bU (x:=(s,dU,0)) rT ts J (λj I=>.inl I) (aU.mono λ_ _ e=>e.elim) (c_ _) bt
 ·rw[aQ hz]at rT;have aEa:=λw=>(ho w).trans (by rw[vi hz]);obtain⟨a0,a1,a2,a3,ao,_⟩:∃a0 a1 a2 a3,a.2.2=[a0,a1,a2,a3]/\True:=by
   obtain⟨a0,a1,a2,a3,ao,_⟩:=a4 (apM ok);exact⟨a0,a1,a2,a3,ao,trivial⟩
  have Z:∀(i x:Nat),a.2.2[i]? =some x->ai.cell? (bl g (33+i))=some (.int .u16 x):=λi x W=>(aG bu _).trans (OC ok.aN i x W);have gW:ai.cell? (bl g 33)=some (.int .u16 a0):=Z 0 a0 (by rw[ao];rfl);have dc:ai.cell? (bl g 34)=some (.int .u16 a1):=Z 1 a1 (by rw[ao];rfl);have hl:ai.cell? (bl g 35)=some (.int .u16 a2):=Z 2 a2 (by rw[ao];rfl);have ew:ai.cell? (bl g 36)=some (.int .u16 a3):=Z 3 a3 (by rw[ao];rfl);have aEb:ai.cell? (bl g 0)=some (.int .u64 a.1):=(aG bu 0).trans (Ga _ _ _);have aEc:=acE (n:=a.1) (a:=a.2.2) ok.aN;have hS:=apM ok;obtain⟨q,au⟩:=aD (rk a);rw[au]at hS rT;have de:=cd hS;have da:=ef hS;have n':=cd cH;have Az:=λ{w:M} {K:N->M->Prop}=>aD_ ok ao (w:=w) (K:=K);rw[au]at Az;have aK:=(H.refl al ai).alloc (.cells (ae q) 44);have cY:=cr ai (.cells (ae q) 44);have cR:(ai.alloc (.cells (ae q) 44)).1.size=ai.1.size+1:=by simp
  obtain⟨an,ii⟩:=aD (ai.alloc (.cells (ae q) 44));rw[ii]at aK cY cR;simp[go_sem,bu,has,aaj,apN,aEa,gW,dc,hl,ew,aEb,aEc,Az,gO,gP,n',de,da,bS,ii,cY];obtain⟨cj,qN⟩:=aD (ai.1.size);rw[qN]at cY cR⊢;clear ii;have T:=(aT s).ch J aK λ_ _ e=>e;have mj:=fq.ch aK λ_ _ e=>e;refine(DY q an hS mj.qQ).mono ?_;rintro _ aJ ⟨rfl,aI⟩;have ag:=(aT s).ch T aI λ_ _ e=>e;have kn:=mj.ch aI λ_ _ e=>e;have iC:=aI.size;have hQ:=aK.trans aI;have qr:=hQ.obj bu id;have jK:=hQ.obj bt id;have zG:=aI.obj cY id;have hK:H O w aJ:=(aU.trans hQ).mono λ_ _ e=>e.elim
  cases nQ:jY q with
  |false=>
   rw[be nQ]at rT;simp[go_sem,jK,UK,ee,ic,mW,bS];exact bU (x:=(s,dU,5)) rT ts ag (λj I=>.inl I) hK (by omega) jK
  |true=>
   rw[aQ (by rw[nQ];simp)]at rT;simp[go_sem,zG,de,da];refine aA.run s aJ O q _ aC ag hS kn aH λu bs ap Qr aP bo=> ?_;have jo:=bo.size;have ff:∀j,g<=j->¬O j:=λj I e=>by have:=ga j e;omega
   have n_:=bo.obj qr (ff g (by omega));have m_:=bo.obj jK (ff (g+1) (by omega));have MR:=bo.obj zG (ff cj (by omega));have wV:=aH.cv kn bo ⟨_,aP⟩ λ_ _ e=>e;have Hu:∀j,aE O aJ bs j->aE O ai bs j:=λj I=>I.imp id λe=>⟨by omega,e.2⟩;have HJ:H O w bs:=hK.trans bo;obtain⟨⟨kV,bb,gL⟩,nB⟩:∃y,rd s q=y:=⟨_,rfl⟩;rw[nB]at rT ap Qr aP⊢;simp only at rT ap Qr aP⊢;by_cases JM:gL=0
   ·subst JM;have kH:((0:Int)!=0)=false:=by decide
    rw[aQ (by simp)]at rT;simp[go_sem,kH];refine(aEd u bb bs Qr ap wV.qQ).mono ?_;have Kg:=aEe bb;obtain⟨⟨oO,je⟩,aEf⟩:∃y,uK bb=y:=⟨_,rfl⟩;rw[aEf]at rT Kg⊢;rintro _ bD ⟨rfl,bE⟩;simp only at rT Kg⊢;have apP:=bE.size;have wW:=Fr Kg;have HK:=UL Kg;have agy:=Fr Qs;have cF:=(H.refl al bD).alloc (.cells (iU oO) 182);have gj:=cr bD (.cells (iU oO) 182);have qs:(bD.alloc (.cells (iU oO) 182)).1.size=bD.1.size+1:=by simp
    obtain⟨cD,nc⟩:=aD (bD.alloc (.cells (iU oO) 182));rw[nc]at cF gj qs;have wG:=bE.trans cF;have Fi:=wG.obj n_ id;have sz:=wG.obj m_ id;have UC:=wG.obj MR id;have cS:=(aT kV).ch aP wG λ_ _ e=>e;have agz:∀j,aE O aJ bs j->aE O ai cD j:=λj I=>(Hu j I).imp id λe=>⟨e.1,by omega⟩;have MD:H O w cD:=HJ.trans (wG.mono λ_ _ e=>e.elim);have apQ:cD.cell? (bl g 0)=some (.int .u64 a.1):=(aG Fi 0).trans (Ga _ _ _);obtain⟨cA,vG⟩:=aD (bD.1.size);have apR:cD.cell? ⟨bD.1.size,0,none⟩=some (.int .u64 oO.1):=(aG gj 0).trans apS;have rO:=agA Kg;by_cases JX:je=0
    ·subst JX;by_cases IY:oO.1=a.1
     ·have dn:((oO.1:Int)!=(a.1:Int))=false:=by simp[IY]
      rw[aQ (by simp[IY])]at rT;have aak:gi ⟨a.1,q,oO.2⟩:=⟨ok.aq,hS,Kg.p⟩;have aEg:=lo aak;have aEh:=un aak;have aRS:=cd Kg.p;have aRT:=ef Kg.p;have apT:=λ{w:M} {K:N->M->Prop}=>aoR aak (w:=w) (K:=K);simp only at apT;simp[go_sem,Kh,Ki,wW,HK,agy,bS,nc,apR,apQ,dn,UC,de,da,gj,rO,sz,apT,aEg,aEh,ee,mW];exact bU (x:=(kV,⟨a.1,q,oO.2⟩,0)) rT aak cS agz MD (by omega) sz
     ·have dn:((oO.1:Int)!=(a.1:Int))=true:=by
       have:¬(oO.1:Int)=a.1:=by omega
       simpa using this
      rw[be (.inr IY)]at rT;simp[go_sem,Kh,Ki,wW,HK,agy,bS,nc,apR,apQ,dn,sz,UK,ee,ic,mW];exact bU (x:=(kV,dU,21)) rT ts cS agz MD (by omega) sz
    ·have gA:(je !=0)=true:=by simpa using JX
     rw[be (.inl JX)]at rT;simp[go_sem,Kh,Ki,wW,HK,agy,bS,nc,gA,sz,UK,ee,ic,mW];exact bU (x:=(kV,dU,21)) rT ts cS agz MD (by omega) sz
   ·have gA:(gL !=0)=true:=by simpa using JM
    rw[be JM]at rT;simp[go_sem,gA,m_,UK,ee,ic,mW,bS];exact bU (x:=(kV,dU,gL)) rT ts aP Hu HJ (by omega) m_
end
section
variable {has:Pt->List UInt8->Prop}{bO table top:Pt}{dQ aN t h:List Pt}{x:bF}{v:List bF}{O:nj}{lf:Nat->Nat->Option (List UInt8)}
theorem agB{l:List Pt}{i:Nat}(hz:l.getD i ah≠ah):l.getD i ah∈l:=by
 grind
theorem jD.apU(d:jD has bO t h){pX:Pt->List UInt8->Prop}(aC:∀q b,(q=bO\/q∈t)->has q b->pX q b):jD pX bO t h:=by
 refine⟨⟨d.jC.fx,d.jC.all,d.jC.dI.imp id λ⟨a,b,c,k⟩=>⟨a,b,aC _ _ (.inl rfl) c,k⟩⟩,d.HL,λg aH=> ?_,d.ak⟩;have V:=d.cN g aH;exact⟨V.fx,V.all,V.dI.imp id λ⟨a,b,c,k⟩=>⟨a,b,aC _ _ (.inr (agB a)) c,k⟩⟩
theorem qw.apU(c:qw has table dQ aN v O lf){pX:Pt->List UInt8->Prop}(top:Pt)(aC:∀q b,q≠ah->0<yi top table dQ aN O q->has q b->pX q b):qw pX table dQ aN v O lf:=by
 have eM:∀q,q∈BA top table dQ aN O->0<yi top table dQ aN O q:=λq au=>by
  rw[<-aal];exact XA.2 au
 have apV:∀q,(q=table\/q∈dQ\/q∈aN)->q∈BA top table dQ aN O:=λq au=>by
  unfold BA
  grind
 have aEi:∀n q,1<=n->n<=255->(q=(O.x n).V\/q∈O.uL n\/q∈O.tQ n)->q∈BA top table dQ aN O:=λn q J T au=>by
  unfold BA;rw[hP];right;rw[acL];refine⟨n,Fs.2 ⟨J,T⟩,?_⟩
  grind
 have agC:∀{q:Pt} {b:List UInt8},q≠ah->q∈BA top table dQ aN O->has q b->pX q b:=λhz au ab=>aC _ _ hz (eM _ au) ab;have rU:∀{V:Pt} {t h:List Pt},jD has V t h->(∀q,(q=V\/q∈t)->q∈BA top table dQ aN O)->jD pX V t h:=λ{V t h} d au=>by
  refine⟨⟨d.jC.fx,d.jC.all,d.jC.dI.imp id λ⟨a,b,c,k⟩=>⟨a,b,agC a (au _ (.inl rfl)) c,k⟩⟩,d.HL,λg aH=> ?_,d.ak⟩;have V:=d.cN g aH;exact⟨V.fx,V.all,V.dI.imp id λ⟨a,b,c,k⟩=>⟨a,b,agC a (au _ (.inr (agB a))) c,k⟩⟩
 refine⟨⟨rU c.kp.oO λq au=>apV q (au.imp id .inl),λo av=> ?_,c.kp.ak,c.kp.v0⟩,c.x,λn J T=> ?_⟩
 ·have l:=c.kp.lf o av;exact⟨l.ok,l.all,l.dI.imp id λ⟨a,b,d,k⟩=>⟨a,b,agC a (apV _ (.inr (.inr (agB a)))) d,k⟩⟩
 ·have ji:=c.ji n J T;refine⟨rU ji.rU λq au=>aEi n q J T (au.imp id .inl),λo av=> ?_⟩;rcases ji.iw o av with k|⟨bn,bh,b,bA,ex⟩
  ·exact .inl k
  grind
end
structure jV(n:Nat)(bY:Nat->Bool)(x:kY)(st:et)(v:List bF)(lf:Nat->Nat->Option (List UInt8))(c:jt)(dQ aN:List Pt)(O:nj):Prop where
 n:c.n=n
 bY:c.bY=bY
 ok:tP c ⟨x.s,[],[]⟩
 tR:qw (λp b=>p∈c.eg/\nh x.s p b) st.dd dQ aN v O lf
 qM:ah∉c.eg
 eM:∀y,y≠ah->c.eg.count y=yi st.top st.dd dQ aN O y
 top:(st=dU/\x.ea=qP/\c.eg=[])\/(0<st.gen/\st.top.k=5/\st.top∈c.eg/\nh x.s st.top (po (st.gen,st.dd))/\st.top=rk x.ea/\x.ea.1=st.gen)
 tm:gi st
 AO:wS x.ea
theorem apW{s:ay}{p:Pt}{b b':cW}(ao:tO s)(am:Fl p)(h:nh s p b)(h':nh s p b'):b=b':=by
 obtain⟨a,da⟩:=apx am;have key:∀i,i<2->(s.aB i).bY=false->b=b':=λi ad bm=>by rw[<-h.2 ao i ad bm a da,h'.2 ao i ad bm a da]
 cases bi:(s.aB 0).bY with
 |false=>exact key 0 (by omega) bi
 |true=>
  cases J:(s.aB 1).bY with
  |false=>exact key 1 (by omega) J
  |true=>exact absurd ⟨bi,J⟩ ao.2
theorem tP.bf{c:jt}{t:eb}(h:tP c t)(b:Nat):tP {c with bf:=b} t:=by
 obtain⟨⟨aW,bg,bR,ck,f5,f6,bQ,bB,dt,fA,gC,dj,fw,f14⟩,T,ag⟩:=h;exact⟨⟨aW,bg,bR,ck,f5,f6,bQ,bB,dt,fA,gC,dj,fw,f14⟩,T,ag⟩
theorem mK.apX{c:jt}{s:ay}(h:mK c ⟨s,[],[]⟩):tP c ⟨s,[],[]⟩:=⟨h,by simp,λ_=>rfl⟩
theorem aEj{c:jt}{g:Nat}{table top:Pt}{C:nW}{nums:List Nat}{t:eb}(h:(mI (ms c) g table top C nums t).2.2=0):∃h a,(mI (ms c) g table top C nums t).2.1.1=rk (c.bf,h,a):=by
 unfold mI at h⊢;simp only at h⊢;split at h
 ·grind
 ·rename_i J;rw[aQ J];split at h
  ·grind
  ·rename_i T;rw[aQ T];split at h
   ·grind
   ·rename_i ag;rw[aQ ag];have zL:(ms c).nw=it c.n c.bf:=rfl;rw[zL]at ag⊢;simp only;unfold it at ag⊢;simp only at ag⊢;split at ag
    ·simp at ag
    ·rename_i bP;rw[aQ bP];exact⟨_,_,rfl⟩
theorem aEk{a b:Nat}(h:a<b):vO a b eL.on.off eL.on.dS=0:=by
 unfold vO;rw[aQ (by omega)];rfl
structure aam(C:nW)(v:List bF)(nums:List Nat):Prop where
 ok:C.fL
 kd:C.agD v
 aan:nums.Pairwise (·<·)
 Di:∀n∈nums,1<=n/\n<=255
 cP:∀n,1<=n->n<=255->n∉nums->C.own n=none/\C.wiped n=false/\C.ch n=[]
def UM(C:nW)(v:List bF)(lf:Nat->Nat->Option (List UInt8))(nums:List Nat):Nat->Nat->Option (List UInt8):=λn=>if n∈nums then C.lf v lf n else lf n
section
variable {n:Nat}{bY:Nat->Bool}{x:kY}{st:et}{v:List bF}{lf:Nat->Nat->Option (List UInt8)}{c:jt}{dQ aN:List Pt}{O:nj}{D:cV}{xs:List dp}
theorem jV.SH(h:jV n bY x st v lf c dQ aN O)(kP:c.js=false)(aH:st.gen+1<18446744073709551616)(aq:n<=65536)(a':aam (fk D) v (xs.map (·.val)))(W:xs≠[]){aY:jt}(fR:aY={c with bf:=st.gen+1}):
  (∃hd cJ v' yj rv O' dA,tL aY x st D xs=(hd,cJ,0)/\cJ.gen=st.gen+1/\dA.js=false/\jV n bY hd cJ v' (UM (fk D) v lf (xs.map (·.val))) dA yj rv O'/\¬(bY 0=true/\bY 1=true)/\
   (∀k,1<=k->k<=255->k∉xs.map (·.val)->v'.getD k bp=v.getD k bp)/\(∀k∈xs.map (·.val),v'.getD k bp=(if(fk D).i' v k=bp then bp else{(fk D).i' v k with V:=(v'.getD k bp).V}))/\(∃t1:eb,mK aY t1/\gz t1.bX<=fP (xs.map (·.val)) ((fk D).uM v)+2*((xs.map (·.val)).length+10)/\∀p∈dA.eg,p∈c.eg\/p∈t1.bX))\/
  (∃hd e t1,tL aY x st D xs=(hd,st,e)/\e≠0/\hd.ea=x.ea/\hd.s=uG n t1/\mK aY t1/\jV n bY hd st v lf aY dQ aN O/\((e=21/\bY 0=true/\bY 1=true)\/(e=30/\aag aY t1/\(bY 0=true/\bY 1=true->t1.bX=[])))/\gz t1.bX<=fP (xs.map (·.val)) ((fk D).uM v)+2*((xs.map (·.val)).length+10)):=by
 obtain⟨Gs,GR,fs,pC,ry,zZ,yk,tm,AO⟩:=h;have tS:aY.n=n:=by rw[fR];exact Gs
 have cZ:aY.bf=st.gen+1:=by rw[fR]
 have zY:aY.eg=c.eg:=by rw[fR]
 have oJ:aY.bY=bY:=by rw[fR];exact GR
 have CC:aY.js=false:=by rw[fR];exact kP
 have MW:tP aY ⟨x.s,[],[]⟩:=by rw[fR];exact fs.bf _
 have L:=apG (c:=aY) (by rw[cZ];exact aH);have uF:x.s.P=eL.on:=MW.bU.on CC;have aao:qw ((ms aY).has ⟨x.s,[],[]⟩) st.dd dQ aN v O lf:=pC.mono λq b au=>⟨by grind,au.2⟩;have agE:st.top=ah\/∃b,(ms aY).has ⟨x.s,[],[]⟩ st.top b:=by
  rcases yk with⟨e,_,_⟩|⟨_,_,bn,bh,_⟩
  ·exact .inl (by rw[e];rfl)
  ·exact .inr ⟨_,by grind,bh⟩
 have cP:∀{s':ay},mK aY ⟨s',[],[]⟩->(∀p b,p∈c.eg->nh x.s p b->nh s' p b)->jV n bY ⟨s',x.ea⟩ st v lf aY dQ aN O:=λ{s'} hn gY=>
  ⟨tS,oJ,hn.apX,pC.mono λq b au=>⟨by rw[zY];exact au.1,gY q b au.1 au.2⟩,by rw[zY];exact ry,by rw[zY];exact zZ,yk.imp (λe=>⟨e.1,e.2.1,by rw[zY];exact e.2.2⟩) λ⟨bn,bh,bA,ex,fJ,jZ⟩=>⟨bn,bh,by rw[zY];exact bA,gY _ _ bA ex,fJ,jZ⟩,tm,AO⟩
 have agu:∀{t1:eb},mK aY t1->jV n bY ⟨uG aY.n t1,x.ea⟩ st v lf aY dQ aN O:=λ{t1} hn=>by
  have zX:mK aY ⟨uG aY.n t1,[],[]⟩:=hn.agu;refine cP zX λp b am gY=> ?_;have bi:nh x.s p (aY.blk p):=MW.bU.aah (p:=p) (by rw[zY];exact am);have J:nh (uG aY.n t1) p (aY.blk p):=zX.aah (p:=p) (by rw[zY];exact am);have dk:∀i,i<2->((uG aY.n t1).aB i).bY=(x.s.aB i).bY:=λi ad=>(zX.bY i ad).trans (MW.bU.bY i ad).symm;have aA:=(MW.bU.Bz p (by grind)).2.1;refine⟨gY.1,λao i ad bm a da=> ?_⟩;have MV:tO x.s:=by
   refine⟨by rw[uF];rfl,λe=>ao.2 ⟨?_,?_⟩⟩
   ·grind
   ·grind
  rw[J.2 ao i ad bm a da];exact(apW MV aA gY bi).symm
 rcases apY L a'.ok a'.kd MW (top:=st.top) (gen:=aY.bf) (by rw[cZ];exact aH) aao agE a'.aan a'.Di a'.cP with⟨bK,qx,UN,yj,rv,v',O',m,g,aL,X,apZ,xJ,agF,aEl,out,Kj,Qt,bM,Qq⟩|z_
 ·
  have aEm:bK.bX=m:=by have:=X.bX;simpa[ms]using this
  have aRU:bK.gN=g:=by have:=X.gN;simpa[ms]using this
  have Ft:tP aY bK:=X.ok;have kz:¬(bY 0=true/\bY 1=true):=λe=>by
   have:=Ft.none (by rw[oJ];exact e)
   grind
  have UO:tL aY x st D xs=if bK.s.ev.2≠0 then(⟨uG aY.n {bK with s:=bK.s.ev.1},x.ea⟩,st,bK.s.ev.2)else
    if vO x.ea.1 aY.bf bK.s.ev.1.P.off bK.s.ev.1.P.dS≠0 then(⟨uG aY.n {bK with s:={bK.s.ev.1 with P:=if aY.bf<=x.ea.1 then bK.s.ev.1.P else bK.s.ev.1.P.step}},x.ea⟩,st,vO x.ea.1 aY.bf bK.s.ev.1.P.off bK.s.ev.1.P.dS)else
    (⟨({bK.s.ev.1 with P:=if aY.bf<=x.ea.1 then bK.s.ev.1.P else bK.s.ev.1.P.step}:ay).all aY.n 0,(aY.bf,qx.h,qx.a)⟩,⟨aY.bf,qx,UN⟩,0):=by
   unfold tL;rw[aQ W];simp only[aL,ne_eq,not_true_eq_false,if_false]
  have R:=aai bK.s;have Hy:bK.s.P=eL.on:=Ft.bU.on CC;have Hz:bK.s.ev.1.P=eL.on:=R.on Hy;have ap0:¬((bK.s.aB 0).bY=true/\(bK.s.aB 1).bY=true):=λe=>kz (by rw[<-oJ,<-Ft.bU.bY 0 (by omega),<-Ft.bU.bY 1 (by omega)];exact e);have Fu:=R.ok Hy ap0;have aO:x.ea.1<aY.bf:=by
   rw[cZ];rcases yk with⟨_,e,_⟩|⟨_,_,_,_,_,e⟩
   ·rw[e];show 0<st.gen+1;omega
   ·omega
  have acA:(if aY.bf<=x.ea.1 then bK.s.ev.1.P else bK.s.ev.1.P.step)=bK.s.ev.1.P:=by rw[aQ (by omega),Hz];rfl
  have aEn:vO x.ea.1 aY.bf bK.s.ev.1.P.off bK.s.ev.1.P.dS=0:=by rw[Hz];exact aEk aO
  rw[aQ (by rw[Fu];simp),aQ (by rw[aEn];simp),acA]at UO;have aEo:({bK.s.ev.1 with P:=bK.s.ev.1.P}:ay)=bK.s.ev.1:=rfl;rw[aEo]at UO;have aEp:∀q,q∈aY.eg++bK.bX->∃b,nh bK.s q b:=λq au=>by
   rcases hP.1 au with au|au
   ·exact⟨_,Ft.bU.aah au⟩
   ·exact Ft.dv q au
  obtain⟨B,gY⟩:∃B:Pt->cW,∀q,q∈aY.eg++bK.bX->nh bK.s q (B q):=by
   refine⟨λq=>if au:q∈aY.eg++bK.bX then Classical.choose (aEp q au)else[],λq au=> ?_⟩
   grind
  have apL:ah∉aY.eg++bK.bX:=λe=>absurd (Ft.bU.Bz _ e).2.2 (by decide);obtain⟨pV,ap1,ap2,BB⟩:∃pV:List Pt,ah∉pV/\(∀y,y≠ah->pV.count y=yi qx UN yj rv O' y)/\∀y∈pV,y∈aY.eg++bK.bX:=by
   refine⟨(BA qx UN yj rv O').filter λp=>decide (p≠ah),by simp,λy ar=> ?_,λy ar=> ?_⟩
   ·rw[List.count_filter (by simpa using ar),aal]
   ·obtain⟨J,T⟩:=vh.1 ar;have aRV:y≠ah:=by simpa using T
    have am:0<yi qx UN yj rv O' y:=by rw[<-aal];exact XA.2 J
    grind
  have mf:∀y,y≠ah->pV.count y+bK.gN.count y=aY.eg.count y+bK.bX.count y:=λy ar=>by
   grind
  have iD:bK.s.ev.1.P.off=false:=by rw[Hz];rfl
  obtain⟨dA,qy⟩:∃dA:jt,dA=⟨n,aY.bf,pV,B,bY,false⟩:=⟨_,rfl⟩;have bd:=Ft.next iD (by rw[oJ];exact kz) ap1 mf dA ⟨by rw[qy,tS],by rw[qy],by rw[qy,oJ],by rw[qy,CC]⟩ λp b am ab=>by
   rw[<-ab,qy];exact gY p (BB p am)
  have aEq:dA.n=n:=by rw[qy]
  have Hg:dA.eg=pV:=by rw[qy]
  rw[tS]at bd;have MV:tO bK.s:=⟨by rw[Hy];rfl,ap0⟩;have blk:∀q b,q∈pV->nh bK.s q b->q∈dA.eg/\nh (bK.s.ev.1.all n 0) q b:=λq b au ab=>by
   have EM:q∈dA.eg:=by rw[Hg];exact au
   have e:dA.blk q=B q:=by rw[qy]
   have ap:=apW MV (Ft.bU.Bz q (BB q au)).2.1 ab (gY q (BB q au));have:=bd.aah EM
   grind
  have aEr:qx∈pV:=by
   have hz:qx≠ah:=λe=>by grind
   rw[<-XA,ap2 _ hz];unfold yi;rw[be rfl];omega
  obtain⟨EE,aEs,aap⟩:=aEj (c:=aY) (g:=aY.bf) (table:=st.dd) (top:=st.top) (C:=fk D) (nums:=xs.map (·.val)) (t:=⟨x.s,[],[]⟩) (by rw[aL]);rw[aL]at aap;have aap:qx=rk (aY.bf,EE,aEs):=aap;have aaq:cc qx:=(L.ae _ _ _ X.ok apZ).1;refine .inl ⟨_,_,v',yj,rv,O',dA,UO,by rw[<-cZ],by rw[qy],⟨aEq,by rw[qy],by show tP dA ⟨bK.s.ev.1.all aY.n 0,[],[]⟩;rw[tS];exact bd.apX,?_,by rw[Hg];exact ap1,by rw[Hg];exact ap2,.inr ⟨by show 0<aY.bf;omega,xJ,?_⟩,⟨by show aY.bf<_;omega,aaq,aEl⟩,?_⟩,kz,λk bn bh r=> ?_,λk r=> ?_,bK,Ft.bU,by rw[aEm];exact bM,λp am=> ?_⟩
  ·refine agF.apU qx λq b au Z ab=> ?_;rw[tS];exact blk q b (by grind) ab.2
  ·have ab:=blk qx _ aEr apZ.2;refine⟨ab.1,?_,?_,rfl⟩
   ·rw[tS];exact ab.2
   ·rw[aap];rfl
  ·exact⟨by show aY.bf<_;omega,aaq.h,aaq.a,λi y ar=>aaq.dI y (ib ar)⟩
  ·have Gd:=agF.x k bn bh;rw[<-Gd,out k bn bh r];exact aao.x k bn bh
  ·have Gd:=agF.x k (a'.Di k r).1 (a'.Di k r).2
   grind
  grind
 ·
  obtain⟨y,ar⟩:=aD (mI (ms aY) aY.bf st.dd st.top (fk D) (xs.map (·.val)) ⟨x.s,[],[]⟩);rw[ar]at z_;have UO:tL aY x st D xs=(⟨uG aY.n y.1,x.ea⟩,st,y.2.2):=by
   unfold tL;rw[aQ W];simp only[ar];rw[be z_.ne]
  refine .inr ⟨_,_,y.1,UO,z_.ne,rfl,by rw[tS],z_.bU,agu z_.bU,?_,by have:=z_.ci;simpa[ms,gz]using this⟩;rcases z_.EO with⟨e,k⟩|⟨e,bn,bh⟩
  ·grind
  grind
end
section
variable {c:jt}{t:eb}
end
section
variable {n:Nat}{bY:Nat->Bool}{x:kY}{st:et}{v:List bF}{lf:Nat->Nat->Option (List UInt8)}{c:jt}{dQ aN:List Pt}{O:nj}{D:cV}{xs:List dp}
theorem aEt{p:Pt}(ok:cc p)(h:jY p=true):1<=fE p.k:=by
 obtain⟨a0,a1,a2,a3,ao,_⟩:=a4 ok;rw[Qn ao rfl]at h
 grind
end
structure iL(b:Nat)(s:ay):Prop where
 eV:∀i,s.eV i=0
 gd:∀i,s.gd i=0
 dW:s.dW=[]
 bT:∀i,i<2->(s.aB i).bT.length<=b
section
variable {b b':Nat}{s s':ay}{n:Nat}{q:Pt}{B:cW}
theorem iL.mono(h:iL b s)(ab:b<=b'):iL b' s:=⟨h.eV,h.gd,h.dW,λi ad=>dK (h.bT i ad) ab⟩
theorem iL.same(h:iL b s)(S:i_ s s'):iL b s':=⟨by rw[S.eV];exact h.eV,by rw[S.gd];exact h.gd,by rw[S.dW];exact h.dW,by rw[S.aB];exact h.bT⟩
theorem iL.ng(h:iL b s)(q:Pt)(B:cW)(k:Nat):iL (b+1) (s.ng n q B k):=by
 unfold ay.ng;have bM:=cb.ap3 n (s.aB (k / 2)) s.P (du q k) B;refine⟨h.eV,h.gd,h.dW,λi ad=> ?_⟩;by_cases e:i=k / 2
 ·subst e;simp only[Dg];have:=h.bT _ ad;omega
 ·simp only[ye _ _ e];have:=h.bT _ ad;omega
theorem iL.Qu(q:Pt)(B:cW):∀(l:List Nat) (b:Nat) (t:ay×Int),iL b t.1->iL (b+l.length) (l.foldl (ay.put n q B) t).1
 |[],_,_,bj=>bj
 |k::l,b,t,bj=>by
  have J:iL (b+1) (ay.put n q B t k).1:=bj.ng q B k;have:=iL.Qu q B l (b+1) (ay.put n q B t k) J
  grind
theorem iL.ij(h:iL b s)(q:Pt)(B:cW):iL (b+4) (s.ij n q B).1:=by
 unfold ay.ij;split
 ·exact(iL.Qu q B _ b (s,21) h).mono (by have:=ap4 q.a;omega)
 ·exact h.mono (by omega)
theorem iL.ev(h:iL b s):iL b s.ev.1:=by
 have R:=aai s;refine⟨by rw[R.eV];exact h.eV,by rw[R.gd];exact h.gd,by rw[R.dW];exact h.dW,λi ad=> ?_⟩;rcases R.aB i ad with e|⟨_,e⟩
 ·rw[e];exact h.bT i ad
 ·rw[e];exact gG _
theorem iL.lQ(h:iL b s)(fg:s.P=eL.on)(Z:∀i,vQ (s.aB i)):s.il b:=by
 refine⟨by rw[fg];decide,h.bT,λi ad x W=> ?_,λi=>by rw[h.eV];exact gG _,λi=>by rw[h.gd];exact gG _,by rw[h.dW];exact gG _⟩;rw[(Z i).gl]at W
 cases W
end
def wX(c:jt)(b:Nat)(t:eb):Prop:=c.js=false->¬(c.bY 0=true/\c.bY 1=true)->iL (b+4*t.bX.length) t.s
def tT(c:jt)(b:Nat):iA eb:={ms c with ok:=λt=>tP c t/\wX c b t,bU:=λt=>mK c t/\wX c b t}
section
variable {c:jt}{b:Nat}{t:eb}
theorem wX.rd(h:wX c b t)(av:tP c t){p:Pt}{B:cW}(am:p∈c.eg++t.bX)(ab:nh t.s p B):wX c b (iR c.n t p).1:=λbP bm=>by
 obtain⟨ok,⟨x,y,e,W,G'⟩,aC⟩:=av.bU.Bz p am;have ao:tO t.s:=⟨by rw[av.bU.on bP];rfl,λe=>bm ⟨by rw[<-av.bU.bY 0 (by omega)];exact e.1,by rw[<-av.bU.bY 1 (by omega)];exact e.2⟩⟩;have rO:x∈pa p:=by rw[MU e W];split<;>simp
 have sr:=(av.bU.Di x (HG.2 ⟨p,am,rO⟩)).2;have aN:=ago (n:=c.n) aC e W av.bU.By ao.1 ao.2 sr ab.1 λi ad bm=>ab.2 ao i ad bm x rO;unfold iR;rw[aN];exact h bP bm
theorem wX.nw(h:wX c b t)(p:Pt)(B:cW):wX c b (it c.n c.bf t p B).1:=λbP bm=>by
 have J:=(h bP bm).same (aeF c.n t.s (fE p.k));unfold it;simp only;split
 ·exact J
 ·refine(J.ij _ B).mono ?_
  grind
theorem wX.ca(h:wX c b t)(p:Pt):wX c b (lR c.n t p):=λbP bm=>(h bP bm).same (PH (by decide) (rN p) t.s).1
theorem aEu(hq:c.bf<18446744073709551616):(tT c b).Laws:=by
 have L:=apG (c:=c) hq;have ext:∀{s s':eb} {m g:List Pt},(ms c).fO s s' m g->wX c b s'->(tT c b).fO s s' m g:=λe k=>⟨⟨e.ok,k⟩,e.has,e.bX,e.gN⟩;have z_:∀{s s':eb} {B:Nat} {e:Int},(ms c).ni s B s' e->wX c b s'->(tT c b).ni s B s' e:=λe k=>⟨e.ne,e.EO,⟨e.bU,k⟩,e.ci⟩;refine⟨λs h=>⟨h.1.bU,h.2⟩,λs p B h ab=>L.ae s p B h.1 ab,λs p B h ab=> ?_,λs p B h ab=>ext (L.ca s p B h.1 ab) (h.2.ca p),λs h=>ext (L.agt s h.1) (h.2.ca ah),λs p B h bj ak=> ?_⟩
 ·have k:=h.2.rd h.1 ab.1 ab.2;rcases L.rd s p B h.1 ab with⟨aL,aR⟩|e
  ·exact .inl ⟨ext aL k,aR⟩
  ·exact .inr (z_ e k)
 ·have k:=h.2.nw p B;rcases L.nw s p B h.1 bj ak with⟨q,aL,aR,dB⟩|e
  ·exact .inl ⟨q,aL,ext aR k,dB⟩
  ·exact .inr (z_ e k)
theorem agG(kind num:Nat):∀(C:List (Nat×List UInt8)) (t:eb) (cm:List (Nat×Pt)),nb (tT c b) kind num C t cm=nb (ms c) kind num C t cm
 |[],_,_=>rfl
 |(o,B)::l,t,cm=>by
  unfold nb;have e:(tT c b).nw=(ms c).nw:=rfl;rw[e,agG kind num l,agG kind num l]
theorem aEv(table:Pt)(own:Option bF)(wiped:Bool)(ch:List (Nat×List UInt8))(num:Nat)(t:eb):na (tT c b) table own wiped ch num t=na (ms c) table own wiped ch num t:=by
 unfold na;have aL:(tT c b).nw=(ms c).nw:=rfl;have aR:(tT c b).rd=(ms c).rd:=rfl;have dB:(tT c b).ca=(ms c).ca:=rfl;have dl:∀t V,uA (tT c b) t V=uA (ms c) t V:=λ_ _=>rfl;simp only[aL,aR,dB,dl,agG]
theorem ap5(table:Pt)(C:nW):∀(l:List Nat) (t:eb) (cm:List (Nat×bF)),sF (tT c b) table C l t cm=sF (ms c) table C l t cm
 |[],_,_=>rfl
 |n::l,t,cm=>by
  unfold sF;rw[aEv,ap5 table C l]
theorem aEw(gen:Nat)(table top:Pt)(C:nW)(nums:List Nat)(t:eb):mI (tT c b) gen table top C nums t=mI (ms c) gen table top C nums t:=by
 unfold mI;have aL:(tT c b).nw=(ms c).nw:=rfl;have aR:(tT c b).rd=(ms c).rd:=rfl;have dB:(tT c b).ca=(ms c).ca:=rfl;simp only[aL,aR,dB,ap5]
theorem ap6:∀(n:Nat) (l:List Nat),l.Nodup->(∀a∈l,a<n)->l.length<=n
 |0,l,_,h=>by
  cases l with
  |nil=>exact c_ _
  |cons a l=>exact absurd (h a (by simp)) (by omega)
 |n+1,l,bm,h=>by
  have J:=ap6 n (l.erase n) (bm.erase n) λa ao=>by
   grind
  grind
theorem ap7:∀l:List Pt,(∀p∈l,Fl p)->l.length<=(bx l).length
 |[],_=>c_ _
 |p::l,h=>by
  have J:=ap7 l λq au=>h q (by simp[au]);obtain⟨x,W⟩:=apx (h p (by simp));have T:0<(pa p).length:=List.length_pos_of_mem W;have e:bx (p::l)=pa p++bx l:=rfl
  grind
theorem mK.aEx(h:mK c t):t.bX.length<=c.n:=by
 have J:=ap7 (c.eg++t.bX) λp am=>(h.Bz p am).2.1;have T:=ap6 c.n (bx (c.eg++t.bX)) h.cn λa ao=>(h.Di a ao).2
 grind
end
section
variable {n:Nat}{bY:Nat->Bool}{x:kY}{st:et}{v:List bF}{lf:Nat->Nat->Option (List UInt8)}{c:jt}{dQ aN:List Pt}{O:nj}{D:cV}{xs:List dp}{b:Nat}
theorem ap8(n:Nat):∀(l:List Pt) (s:ay),i_ s (s.yb n l)
 |[],s=>i_.refl s
 |p::l,s=>(PH (n:=n) (f:=1) (t:=0) (by decide) (rN p) s).1.trans (ap8 n l _)
theorem jV.ap9(h:jV n bY x st v lf c dQ aN O)(kP:c.js=false)(aH:st.gen+1<18446744073709551616)(bm:¬(bY 0=true/\bY 1=true))(a':aam (fk D) v (xs.map (·.val))){aY:jt}(fR:aY={c with bf:=st.gen+1})(Q:iL b x.s):
  iL (b+4*n) (tL aY x st D xs).1.s:=by
 obtain⟨Gs,GR,fs,pC,ry,zZ,yk,tm,AO⟩:=h;have tS:aY.n=n:=by rw[fR];exact Gs
 have cZ:aY.bf=st.gen+1:=by rw[fR]
 have zY:aY.eg=c.eg:=by rw[fR]
 have oJ:aY.bY=bY:=by rw[fR];exact GR
 have CC:aY.js=false:=by rw[fR];exact kP
 have MW:tP aY ⟨x.s,[],[]⟩:=by rw[fR];exact fs.bf _
 have L:=aEu (c:=aY) (b:=b) (by rw[cZ];exact aH);have aao:qw ((tT aY b).has ⟨x.s,[],[]⟩) st.dd dQ aN v O lf:=pC.mono λq b au=>⟨by grind,au.2⟩;have agE:st.top=ah\/∃B,(tT aY b).has ⟨x.s,[],[]⟩ st.top B:=by
  rcases yk with⟨e,_,_⟩|⟨_,_,bn,bh,_⟩
  ·exact .inl (by rw[e];rfl)
  ·exact .inr ⟨_,by grind,bh⟩
 have key:∀{t1:eb},mK aY t1->wX aY b t1->iL (b+4*n) t1.s:=λ{t1} bn bh=>(bh CC (by rw[oJ];exact bm)).mono (by have:=bn.aEx;rw[tS]at this;omega);have oX:∀{t1:eb},iL (b+4*n) t1.s->iL (b+4*n) (uG aY.n t1):=λ{t1} k=>by
  unfold uG;exact(k.same (i_.all _ _ _)).same (ap8 _ _ _)
 have cl:∀g dd top l t,mI (tT aY b) g dd top (fk D) l t=mI (ms aY) g dd top (fk D) l t:=λ_ _ _ _ _=>aEw _ _ _ _ _ _;have bU:(mK aY (mI (ms aY) aY.bf st.dd st.top (fk D) (xs.map (·.val)) ⟨x.s,[],[]⟩).1/\wX aY b (mI (ms aY) aY.bf st.dd st.top (fk D) (xs.map (·.val)) ⟨x.s,[],[]⟩).1):=by
  rcases apY L a'.ok a'.kd (s:=⟨x.s,[],[]⟩) ⟨MW,λ_ _=>by omega⟩ (top:=st.top) (gen:=aY.bf) (by rw[cZ];exact aH) aao agE a'.aan a'.Di a'.cP with⟨bK,qx,UN,yj,rv,v',O',m,g,aL,X,_⟩|z_
  ·rw[cl]at aL;rw[aL];exact⟨X.ok.1.bU,X.ok.2⟩
  ·rw[cl]at z_;exact z_.bU
 have ap_:=key bU.1 bU.2;unfold tL;split
 ·exact Q.mono (by omega)
 ·simp only;split
  ·exact oX ap_
  ·have Aa:=ap_.ev;split
   ·grind
   ·split
    ·refine oX (t1:={(mI (ms aY) aY.bf st.dd st.top (fk D) (xs.map (·.val)) ⟨x.s,[],[]⟩).1 with s:=_}) ?_;exact⟨Aa.eV,Aa.gd,Aa.dW,Aa.bT⟩
    ·have bh:iL (b+4*n) ({(mI (ms aY) aY.bf st.dd st.top (fk D) (xs.map (·.val)) ⟨x.s,[],[]⟩).1.s.ev.1 with P:=if aY.bf<=x.ea.1 then(mI (ms aY) aY.bf st.dd st.top (fk D) (xs.map (·.val)) ⟨x.s,[],[]⟩).1.s.ev.1.P else(mI (ms aY) aY.bf st.dd st.top (fk D) (xs.map (·.val)) ⟨x.s,[],[]⟩).1.s.ev.1.P.step}:ay):=⟨Aa.eV,Aa.gd,Aa.dW,Aa.bT⟩;exact bh.same (i_.all _ _ _)
theorem jV.eX(h:jV n bY x st v lf c dQ aN O)(kP:c.js=false)(Q:iL b x.s){cL:eb->Nat}(dC:kG cL):700000 - b<=gX cL ⟨x.s,[],[]⟩:=by
 have hn:=Q.lQ (h.ok.bU.on kP) h.ok.bU.By;have UP:eb.Fn ⟨x.s,[],[]⟩ b:=⟨hn,gG _⟩;unfold gX;rcases dC ⟨x.s,[],[]⟩with k|k
 ·have:=k.2 _ UP;omega
 ·exact absurd UP (k.1 _)
end
end Go.Proofs.YtoohkhcpboldjaaGreatDoor
