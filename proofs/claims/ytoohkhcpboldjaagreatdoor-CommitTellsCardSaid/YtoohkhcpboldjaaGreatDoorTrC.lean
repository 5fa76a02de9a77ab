/- Trees: a sink, and a node that is made anew. Conditions: the variables ptr.wide and tree.hole hold what the text lays. -/
import Derived.Test.YtoohkhcpboldjaaGreatDoorDkC
set_option maxRecDepth 100000
set_option maxHeartbeats 4000000
set_option linter.unusedSimpArgs false
set_option linter.unusedVariables false
namespace Go.Proofs.YtoohkhcpboldjaaGreatDoor
open Go.RowKit Go.Kin Tryz
theorem ajQ{O:Nat->Prop}{w ai an:M}(J:w.1.size<=ai.1.size)(T:ai.1.size<=an.1.size){k:Nat}(h:aE (aE O w ai) ai an k):aE O w an k:=by
 rcases h with(h|h)|h
 ·exact .inl h
 ·exact .inr ⟨h.1,by omega⟩
 ·exact .inr ⟨by omega,h.2⟩
def qF{aF:Type}(rd:Src aF)(off:Nat):Nat->aF->Pt->aF×Pt×Int
 |0,s,p=>(s,p,0)
 |k+1,s,p=>if(cM rd s p).2.2≠0 then((cM rd s p).1,ah,(cM rd s p).2.2)else qF rd off k (cM rd s p).1 ((cM rd s p).2.1.getD (if k=1 then off / 8 else off%8) ah)
def dz{aF:Type}(rd:Src aF)(s:aF)(bO:Pt)(off:Nat):aF×Pt×Int:=if uu bO&&decide (off<64)then qF rd off 2 s bO else(s,ah,1)
section
variable {aF:Type}{ba:aF->jf}{m:aF->Nat}{rd:Src aF}{dy:TypeId}{ce:N}{s:aF}{w w':M}{O:Nat->Prop}
theorem ajr(aA:pL ba m rd (.iface dy ce))(aC:32<=m s)(aT:∀s,kB (ba s))(h:ba s w O)(p:Pt)(ok:cc p)(off:Nat)(iD:off<4294967296)(cv:hI w)(aH:iO ba O):
  bc prog 164 #[.iface dy ce,.agg (ae p),.int .u32 off] w λv' w'=>v'=.tuple #[.agg (ae (dz rd s p off).2.1),aa (dz rd s p off).2.2]/\ba (dz rd s p off).1 w' (aE O w w')/\H O w w':=by
 refine bz func164 ntmps164 λbk af=> ?_;have de:=cd ok;have da:=ef ok;have ee:=cd cH;have ic:=ef cH;have ga:=(aT s).lt h;have aU:=((H.refl al w).alloc (.cells (ae p) 44)).alloc (.cells (ae ah) 44);have bu:=oF w (.cells (ae p) 44) (.cells (ae ah) 44);have bt:=nM w (.cells (ae p) 44) (.cells (ae ah) 44);have fq:=cv.ch aU λ_ _ e=>e;have gZ:((w.alloc (.cells (ae p) 44)).alloc (.cells (ae ah) 44)).1.size=w.1.size+2:=by simp
 simp[go_sem,de,da,gO,gP];revert aU bu bt fq gZ;generalize(w.alloc (.cells (ae p) 44)).alloc (.cells (ae ah) 44)=ai;intro aU bu bt fq gZ;have ff:∀j,w.1.size<=j->¬O j:=λj I e=>by have:=ga j e;omega
 refine(ad2 p ai ok fq).mono ?_;rintro _ an ⟨rfl,aK⟩;have mj:=fq.ch aK λ_ _ e=>e;have jU:=aK.obj bu id;have jS:=aK.obj bt id;have T:=(aT s).ch h (aU.trans aK) λ_ _ e=>e;have kg:=aK.size;have gx:H al w an:=aU.trans aK;obtain⟨cs,bv,fr,aN,W,hz⟩:=id mj.nO;have dN:∀{Y:M},(uu p&&decide (off<64))=false->Y=an.setRow (w.1.size+1) (ae ah)->bk (.tuple #[.agg (ae ah),aa 1]) Y:=λ{Y} aL aR=>by
  have dB:dz rd s p off=(s,ah,1):=by unfold dz;rw[aL];rfl
  rw[dB]at af;have dA:H al w Y:=by rw[aR];exact gx.setRow (.inr (by omega)) _
  exact af _ _ ⟨rfl,(aT s).eK ((aT s).ch h dA λ_ _ e=>e) (λk r=>.inl r) (aE.lt ga dA.size),dA.mono λ_ _ e=>e.elim⟩
 cases EQ:uu p with
 |false=>
  simp[go_sem,jS,aN,W,hz,ee,ic,bS];exact dN (by rw[EQ];rfl) rfl
 |true=>
  by_cases lw:off<64
  ·have Ik:¬(64:Int)<=off:=by omega
   have lv:dz rd s p off=qF rd off 2 s p:=by unfold dz;rw[EQ,ou lw];rfl
   rw[lv]at af;clear dN lv;simp[go_sem,lw,Ik,jU,de,da,gO,gP,ee,bS];have aI:=(H.refl al an).alloc (.cells (ae p) 44);have cK:=cr an (.cells (ae p) 44);have jK:=aI.obj jS id;have kn:=mj.ch aI λ_ _ e=>e;have ag:=(aT s).ch T aI λ_ _ e=>e;have iC:(an.alloc (.cells (ae p) 44)).1.size=an.1.size+1:=by simp
   have hK:=gx.trans aI;obtain⟨g,lp⟩:=aD (an.1.size);rw[lp]at cK iC⊢;generalize an.alloc (.cells (ae p) 44)=aJ at*;obtain⟨cA,vG⟩:=aD (w.1.size+1);rw[vG]at jK⊢;have VL:=hK.size;have dx:IntKind.u32.wrap ((off:Int).tdiv 8)=((off / 8:Nat):Int):=by rw[LF (by omega)];simp[IntKind.wrap,IntKind.bits,IntKind.signed];omega
   have ii:IntKind.u32.wrap ((off:Int).tmod 8)=((off%8:Nat):Int):=by rw[Sm (by omega)];simp[IntKind.wrap,IntKind.bits,IntKind.signed];omega
   have pj:IntKind.u32.wrap ((off:Int) / 8)=(off:Int) / 8:=by simp[IntKind.wrap,IntKind.bits,IntKind.signed];omega
   have kO:IntKind.u32.wrap ((off:Int)%8)=(off:Int)%8:=by simp[IntKind.wrap,IntKind.bits,IntKind.signed];omega
   have gA:(off:Int).tdiv 8=((off / 8:Nat):Int):=by rw[LF (by omega)];omega
   have pq:(off:Int).tmod 8=((off%8:Nat):Int):=by rw[Sm (by omega)];omega
   have FI:∀k,O k->k<aJ.1.size:=λk r=>by have:=ga k r;omega
   refine di (λV f u=>∃(i:Nat) (s':aF) (hZ:Pt),V=2 - i/\i<=2/\f 0=.iface dy ce/\f 6=az cA/\f 8=az g/\f 31=.agg #[.int .u32 (off / 8:Nat),.int .u32 (off%8:Nat)]/\f 32=aa i/\cc hZ/\qF rd off 2 s p=qF rd off (2 - i) s' hZ
     /\u.1[g]? =some (.cells (ae hZ) 44 (0,0))/\ba s' u (aE O aJ u)/\H (λk=>O k\/k=g) aJ u/\16*(2 - i)<=m s') 2
    ⟨0,s,p,rfl,by omega,by simp,by simp,by simp,by simp_all,by simp,ok,rfl,cK,(aT s).eK ag (λk r=>.inl r) (aE.lt FI (c_ _)),H.refl _ _,aC⟩ ?_
   rintro cQ bJ _ f u ⟨i,s',hZ,rfl,ad,f0,f6,bB,Rg,DN,sf,bj,sO,ap,aS,xo⟩;have EP:=aS.size;have pn:=aH.cv kn aS ⟨_,ap⟩ λk r e=>e.elim id λe=>by
    have:=mj.lt k r;omega
   have Ud:¬O g:=ff g (by omega);have N_:¬O cA:=ff cA (by omega);have ME:=aS.obj jK λe=>e.elim N_ λe=>by omega
   have ajR:=cd sf;have au3:=ef sf;have rX:iO ba (aE O aJ u):=aH.cN kn;have bU:∀{Y:M} {x:aF×Pt×Int},qF rd off 2 s p=x->ba x.1 Y (aE O aJ Y)->H (λk=>O k\/k=g) aJ Y->bk (.tuple #[.agg (ae x.2.1),aa x.2.2]) (Y.setRow cA (ae x.2.1)):=λ{Y x} e a c=>by
    subst e;have JP:=c.size;have dA:H (aj cA) Y (Y.setRow cA (ae (qF rd off 2 s p).2.1)):=(H.refl (aj cA) Y).setRow (.inl rfl) _;have Cz:=dA.size;refine af _ _ ⟨rfl,(aT _).eK ((aT _).ch a dA λk r e=>by simp only[aj]at e;subst e;exact r.elim N_ λe=>by omega) (λk r=>r.imp id λe=>⟨by omega,by omega⟩) (aE.lt ga (by omega)),?_⟩;exact((hK.mono λ_ _ e=>e.elim).bZ c λk r e=>e.resolve_right (by omega)).bZ dA λk r e=>by simp only[aj]at e;omega
   by_cases aO:i<2
   ·have aM5:(i:Int)<2:=by omega
    obtain⟨kE,rL⟩:=aD ((if i=0 then off / 8 else off%8));have NH:kE<8:=by rw[<-rL];split<;>omega
    have lV:qF rd off (2 - i) s' hZ=if(cM rd s' hZ).2.2≠0 then((cM rd s' hZ).1,ah,(cM rd s' hZ).2.2)else qF rd off (2 -(i+1)) (cM rd s' hZ).1 ((cM rd s' hZ).2.1.getD kE ah):=by
     rcases(show i=0\/i=1 by omega)with rfl|rfl
     ·subst rL;rfl
     ·subst rL;rfl
    have pB:∀u,(Instr.index 354 (.agg #[.int .u32 ((off:Int) / 8),.int .u32 ((off:Int)%8)]) (aa i)).run prog u=.ok (.int .u32 kE) u:=λu=>by
     rcases(show i=0\/i=1 by omega)with rfl|rfl
     ·subst rL;rfl
     ·subst rL;rfl
    have eQ:IntKind.i64.wrap ((i:Int)+1)=((i+1:Nat):Int):=by rw[cz];omega
    simp[go_sem,f0,bB,Rg,DN,aM5,pB,sO,ajR,au3];have au4:=ED aA s' hZ;refine(YA aA (by omega) aT ap hZ sf pn rX).mono ?_;rintro _ db ⟨rfl,ir,dV⟩;have mC:=Jl rd s' hZ;obtain⟨au5,aM6⟩:=aD (cM rd s' hZ);rw[aM6]at mC ir lV au4⊢;obtain⟨rG,zh,nD⟩:=au5;simp only at mC ir lV au4⊢;have CA:=ll mC;have EF:=se mC;have RP:=dV.size;have aM7:=dV.obj sO λe=>e.elim Ud λe=>by omega
    have afd:=dV.obj ME λe=>e.elim N_ λe=>by omega
    have ir:ba rG db (aE O aJ db):=(aT _).eK ir (λk r=>ajQ EP RP r) (aE.lt FI (by omega));have Wx:H (λk=>O k\/k=g) aJ db:=aS.bZ dV λk r e=>e.elim .inl λe=>by omega
    have Rw:=rX.cv pn dV ⟨_,ir⟩ λ_ _ e=>e;have nd:=(H.refl al db).alloc (.cells (cn zh) 339);have Ag:=cr db (.cells (cn zh) 339);have au6:=nd.obj aM7 id;have aM8:=nd.obj afd id;have aM9:=Rw.ch nd λ_ _ e=>e;have ix:ba rG _ _:=(aT _).ch ir nd λ_ _ e=>e;have ab0:=Wx.trans (nd.mono λ_ _ e=>e.elim);simp[go_sem,uh,ui,CA,EF,ll rA,bS];obtain⟨eR,iM⟩:=aD (db.1.size);rw[iM]at Ag⊢;generalize db.alloc (.cells (cn zh) 339)=nz at*;obtain⟨yU,aTH,Cw,rv,Gd,zi⟩:=id aM9.nO;have aM_:=nd.size;have ix:ba rG nz (aE O aJ nz):=(aT _).eK ix (λk r=>r.imp id λe=>⟨e.1,by omega⟩) (aE.lt FI (by omega));by_cases er:nD=0
    ·subst er;rw[aQ (by simp)]at lV;obtain⟨q,au⟩:∃q,zh[kE]? =some q:=⟨_,d_ (by rw[mC.len];exact NH)⟩;have ov:=mC.all _ (ib au);have ajS:zh.getD kE ah=q:=by rw[lk,au];rfl
     have aM':=adg mC au;rw[ajS]at lV;have Bk:=cd ov;have Rk:(kE:Int)<8:=by omega
     have VN:kE*41+41<=328:=by omega
     simp[go_sem,bB,DN,Ag,au6,NH,Rk,VN,CA,aM',ajR,Bk,bS,eQ];have Lj:H (aj g) nz (nz.setRow g (ae q)):=(H.refl (aj g) nz).setRow (.inl rfl) _;have aTI:=Lj.size;have lY:ba rG (nz.setRow g (ae q)) (aE O aJ (nz.setRow g (ae q))):=(aT _).eK ((aT _).ch ix Lj λk r e=>by simp only[aj]at e;subst e;exact r.elim Ud λe=>by omega) (λk r=>r.imp id λe=>⟨e.1,by omega⟩) (aE.lt FI (by omega));exact ct.intro (2 -(i+1)) (by omega) (bJ _ _ _ ⟨i+1,rG,q,rfl,by omega,by simp[f0],by simp[f6],by simp[bB],by simp[Rg],by simp,ov,bj.trans lV,by rw[gh,au6];rfl,lY,ab0.trans (Lj.mono λk _ e=>by simp only[aj]at e;exact .inr e),by omega⟩)
    ·rw[be er]at lV;have Tf:(nD==0)=false:=hv er;simp[go_sem,er,Tf,bne,f6,aM8,rv,Gd,zi,ee,ic,bS];exact bU (x:=(rG,ah,nD)) (bj.trans lV) ix ab0
   ·obtain rfl:i=2:=by omega
    have bj:qF rd off 2 s p=(s',hZ,0):=bj;simp[go_sem,f6,bB,DN,sO,ME,ajR,au3,ee,bS];exact bU (x:=(s',hZ,0)) bj ap aS
  ·have Ik:(64:Int)<=off:=by omega
   simp[go_sem,lw,Ik,jS,aN,W,hz,ee,ic,bS];exact dN (by grind) rfl
end
def hC{aF:Type}(rd:Src aF)(s:aF)(p:Pt):aF×List bF×Int:=
 if p=ah then(s,hm,0)else if(rd s p).2.2≠0 then((rd s p).1,hm,(rd s p).2.2)else if(sk (rd s p).2.1).2≠0 then((rd s p).1,hm,21)else((rd s p).1,(sk (rd s p).2.1).1,0)
theorem ae6{aF:Type}(rd:Src aF)(s:aF)(p:Pt):me (hC rd s p).2.1:=by
 have aTJ:=amd (rd s p).2.1;unfold hC;generalize sk (rd s p).2.1=L at*;generalize rd s p=V at*;by_cases J:p=ah
 ·rw[be J];exact yT
 ·rw[aQ J];by_cases T:V.2.2≠0
  ·rw[be T];exact yT
  ·rw[aQ T];by_cases ag:L.2≠0
   ·rw[be ag];exact yT
   grind
section
variable {aF:Type}{ba:aF->jf}{m:aF->Nat}{rd:Src aF}{dy:TypeId}{ce:N}{s:aF}{w w':M}{O:Nat->Prop}
theorem auv(aA:pL ba m rd (.iface dy ce))(aC:16<=m s)(aT:∀s,kB (ba s))(h:ba s w O)(p:Pt)(ok:cc p)(cv:hI w)(aH:iO ba O):
  bc prog 148 #[.iface dy ce,.agg (ae p)] w λv' w'=>v'=.tuple #[.agg (dL (hC rd s p).2.1),aa (hC rd s p).2.2]/\ba (hC rd s p).1 w' (aE O w w')/\H O w w':=by
 refine bz func148 ntmps148 λbk af=> ?_;have de:=cd ok;have da:=ef ok;have o_:=xF yT;have oE:=IQ yT;have ga:=(aT s).lt h;have aU:=((H.refl al w).alloc (.cells (ae p) 44)).alloc (.cells (dL hm) 279);have bu:=oF w (.cells (ae p) 44) (.cells (dL hm) 279);have bt:=nM w (.cells (ae p) 44) (.cells (dL hm) 279);have fq:=cv.ch aU λ_ _ e=>e;have gZ:((w.alloc (.cells (ae p) 44)).alloc (.cells (dL hm) 279)).1.size=w.1.size+2:=by simp
 obtain⟨cs,bv,fr,EE,W,hz⟩:=cv.nO;have pD:=lt_of_block EE;have Mg:=aU.obj EE id;have ho:∀w,(Op.equalIn 10000 44 (.agg (ae p)) (.agg (ae ah))).run prog w=.ok (decide (p=ah)) w:=λw=>tc w ok cH;have Te:=dJ bt 0;have wC:∀aO,((w.alloc (.cells (ae p) 44)).alloc (.cells (dL hm) 279)).1[2]'aO=.cells cs bv fr:=λaO=>by
  grind
 by_cases am:p=ah
 ·have bj:hC rd s p=(s,hm,0):=by unfold hC;rw[be am]
  rw[bj]at af;subst am;simp[go_sem,de,da,Gp,Gq,l',ho,Gr,o_,oE,bS];exact af _ _ ⟨rfl,(aT s).eK ((aT s).ch h (aU.setRow (.inr (by omega)) _) λ_ _ e=>e) (λk r=>.inl r) (aE.lt ga (by simp;omega)),(aU.setRow (.inr (by omega)) _).mono λ_ _ e=>e.elim⟩
 ·simp[go_sem,de,da,Gp,Gq,l',ho,am];have J:=(aT s).ch h aU λ_ _ e=>e;have ff:∀j,w.1.size<=j->¬O j:=λj I e=>by have:=ga j e;omega
  have mg:=aU.size;obtain⟨V,ax⟩:=aD (rd s p);have bU:∀{Y:M} {W1:M} {x:aF×List bF×Int},hC rd s p=x->ba x.1 Y (aE O W1 Y)->w.1.size<=W1.1.size->W1.1.size<=Y.1.size->H O w Y->bk (.tuple #[.agg (dL x.2.1),aa x.2.2]) Y:=λ{Y W1 x} e a b c d=>by
   subst e;exact af _ _ ⟨rfl,(aT _).eK a (λk r=>r.imp id λe=>⟨by omega,e.2⟩) (aE.lt ga (by omega)),d⟩
  clear af;revert J bu bt gZ aU fq Te Mg wC mg;generalize(w.alloc (.cells (ae p) 44)).alloc (.cells (dL hm) 279)=ai;intro aU bu bt fq gZ Mg Te wC J mg;refine aA.run s ai O p _ aC J ok fq aH λu an dR dm T aK=> ?_;have mj:=aH.cv fq aK ⟨_,T⟩ λ_ _ e=>e;have jS:=aK.obj bt (ff _ (by omega));have kg:=aK.size;have gx:H O w an:=(aU.mono λ_ _ e=>e.elim).trans aK;rw[ax]at dR dm T⊢;have ayE:=dJ jS 0;have t0:hC rd s p=if V.2.2≠0 then(V.1,hm,V.2.2)else if(sk V.2.1).2≠0 then(V.1,hm,21)else(V.1,(sk V.2.1).1,0):=by
   unfold hC;rw[aQ am,ax]
  have Mh:∀{Y:M} {x:aF×List bF×Int},hC rd s p=x->x.1=V.1->H al an Y->bk (.tuple #[.agg (dL x.2.1),aa x.2.2]) (Y.setRow (w.1.size+1) (dL x.2.1)):=λ{Y x} e aL c=>by
   have dA:H (aj (w.1.size+1)) an (Y.setRow (w.1.size+1) (dL x.2.1)):=(c.mono (S':=aj (w.1.size+1)) λ_ _ e=>e.elim).setRow (.inl rfl) _;have Cz:=dA.size;refine bU (W1:=ai) e ?_ (by omega) (by omega) (gx.bZ dA λk r e=>by simp only[aj]at e;omega);rw[aL];exact(aT V.1).eK ((aT V.1).ch T dA λk r e=>by simp only[aj]at e;exact r.elim (ff k (by omega)) λe=>by omega) (λk r=>r.imp id λe=>⟨e.1,by omega⟩) (aE.lt (λk r=>by have:=ga k r;omega) (by omega))
  by_cases aV:V.2.2=0
  ·rw[aQ (by omega)]at t0;simp[go_sem,aV];refine(azY u V.2.1 an dm dR mj.qQ).mono ?_;rintro _ aJ ⟨rfl,aI⟩;have mC:=amd V.2.1;obtain⟨zh,ad5⟩:=aD ((sk V.2.1).1);obtain⟨nD,ad6⟩:=aD ((sk V.2.1).2);rw[ad5]at mC t0⊢;rw[ad6]at t0⊢;have CA:=xF mC;have EF:=IQ mC;have jK:=aI.obj jS id;have bo:=aI.alloc (.cells (dL hm) 279);have m_:=((H.refl al aJ).alloc (.cells (dL hm) 279)).obj jK id;have sj:=((H.refl al aJ).alloc (.cells (dL zh) 279)).obj jK id;by_cases er:nD=0
   ·rw[aQ (by omega)]at t0;subst er;simp[go_sem,Gp,Gq,CA,EF,o_,oE,m_,sj,bS];have:=Mh t0 rfl (aI.alloc (.cells (dL zh) 279));exact this
   ·rw[be er]at t0;have Tf:(nD==0)=false:=hv er;simp[go_sem,Gp,Gq,CA,EF,o_,oE,m_,sj,bS,er,Tf,bne,Gr];have:=Mh t0 rfl (aI.alloc (.cells (dL zh) 279));exact this
  ·rw[be aV]at t0;have qW:(V.2.2==0)=false:=hv aV;simp[go_sem,aV,qW,bne,Gr,jS,o_,oE,bS];have:=Mh t0 rfl (H.refl al an);exact this
end
theorem Gv{w:M}{e s n:Nat}{v:N}{xs:List N}(h:w.ownsRow 0 e s v n xs):∀k,v.ownBlock=some k->k<w.1.size:=λk r=>by
 rcases h.2 with⟨aM,_⟩|⟨g,cap,dF,aM,_,aH,_⟩
 ·rw[aM]at r;simp[Value.ownBlock]at r
 ·rw[aM]at r;simp[Value.ownBlock]at r
  grind
structure xW{aF:Type}(ba:aF->jf)(m:aF->Nat)(rd:Src aF)(nw:aF->Pt->List UInt8->aF×Pt×Int)(ca:aF->Pt->aF)(sv:N):Prop where
 rd:pL ba m rd sv
 aeU:∀(s:aF) (p:Pt) (b:List UInt8),m s<=m (nw s p b).1+16
 q':∀(s:aF) (p:Pt),m s<=m (ca s p)+16
 nw:∀(s:aF) (w:M) (O:Nat->Prop) (p:Pt) (b:List UInt8) (v:N) (K:N->M->Prop),16<=m s->ba s w O->cc p->b.length=512->bC w v 512 (br b)->(∀j,v.ownBlock=some j->¬O j/\j<w.1.size)->hI w->iO ba O->
  (∀w',cc (nw s p b).2.1->ba (nw s p b).1 w' (aE O w w')->H O w w'->K (.tuple #[.agg (ae (nw s p b).2.1),aa (nw s p b).2.2]) w')->Jk prog sv "New" [.agg (ae p),v] w K
 ca:∀(s:aF) (w:M) (O:Nat->Prop) (p:Pt) (K:N->M->Prop),16<=m s->ba s w O->cc p->hI w->iO ba O->
  (∀v' w',ba (ca s p) w' (aE O w w')->H O w w'->K v' w')->Jk prog sv "Old" [.agg (ae p)] w K
def ub(r_ obj off:Nat):Pt:=⟨3,r_,obj,off,0,List.replicate 32 0,[0,0,0,0]⟩
def sS{aF:Type}(nw:aF->Pt->List UInt8->aF×Pt×Int)(ca:aF->Pt->aF)(s:aF)(p:Pt)(ud n:List Pt)(r_ obj off:Nat):aF×Pt×Int:=
 if n=ud then(s,p,0)else if n=eE then(if p=ah then s else ca s p,ah,0)else if n.all gI=false then(if p=ah then s else ca s p,ah,1)else nw (if p=ah then s else ca s p) (ub r_ obj off) (mZ n)
theorem aNa(w:M)(A B C D E:Obj):∃Y,((((w.alloc A).alloc B).alloc C).alloc D).alloc E=Y/\Y.1[w.1.size]? =some A/\Y.1[w.1.size+1]? =some B/\Y.1[w.1.size+2]? =some C/\Y.1[w.1.size+3]? =some D/\Y.1[w.1.size+4]? =some E/\Y.1.size=w.1.size+5/\H al w Y:=by
 refine⟨_,rfl,?_,?_,?_,?_,?_,by simp,(((((H.refl al w).alloc _).alloc _).alloc _).alloc _).alloc _⟩
 ·rw[rQ _ _ _ (by simp<;>omega),rQ _ _ _ (by simp<;>omega),rQ _ _ _ (by simp<;>omega),rQ _ _ _ (by simp<;>omega),cr]
 ·simp_all
 ·simp_all
 ·simp_all
 ·simp
theorem aNb{w:M}{K:N->M->Prop}(l o f:Nat):jb prog 44 [(0,.int .u8 3),(1,.int .u8 l),(2,.int .u16 o),(3,.int .u32 f)] w K=K (.agg (ae (ub l o f))) w:=by
 refine ma underlying44 gO (places:=#[(0,1),(1,1),(2,1),(3,1),(4,1),(5,32),(37,4)]) (by simp[go_sem]) ?_;simp[jw,gP,Value.cells,uf,cd cH];simp[dT,ae,ah,ub,eO,hg,DT];rfl
theorem at3{l o f:Nat}(J:l<256)(T:o<65536)(ag:f<4294967296):cc (ub l o f):=⟨by simp[ub],by simpa[ub]using J,by simpa[ub]using T,by simpa[ub]using ag,by simp[ub],by simp[ub],by simp[ub],by simp[ub]⟩
section
variable {aF:Type}{ba:aF->jf}{m:aF->Nat}{rd:Src aF}{nw:aF->Pt->List UInt8->aF×Pt×Int}{ca:aF->Pt->aF}{dy:TypeId}{ce sv:N}{s:aF}{w w':M}{O:Nat->Prop}
theorem asM(aA:xW ba m rd nw ca sv)(s:aF)(p:Pt)(ud n:List Pt)(r_ obj off:Nat):m s<=m (sS nw ca s p ud n r_ obj off).1+32:=by
 have J:=aA.q' s p;have T:=aA.aeU (if p=ah then s else ca s p) (ub r_ obj off) (mZ n);have ag:m s<=m (if p=ah then s else ca s p)+16:=by split<;>omega
 unfold sS
 grind
theorem asV(aA:xW ba m rd nw ca (.iface dy ce))(aC:32<=m s)(aT:∀s,kB (ba s))(h:ba s w O)(p:Pt)(ok:cc p)(ud n:List Pt)(Ii:iJ ud)(fx:iJ n)(r_ obj off:Nat)(cv:hI w)(aH:iO ba O)(hU:r_<256)(sJ:obj<65536)(NG:off<4294967296):
  bc prog 214 #[.agg #[.iface dy ce,.int .u16 obj],.agg (ae p),.agg (cn ud),.agg (cn n),.int .u8 r_,.int .u32 off] w λv' w'=>v'=.tuple #[.agg (ae (sS nw ca s p ud n r_ obj off).2.1),aa (sS nw ca s p ud n r_ obj off).2.2]/\cc (sS nw ca s p ud n r_ obj off).2.1/\ba (sS nw ca s p ud n r_ obj off).1 w' (aE O w w')/\H O w w':=by
 refine bz func214 ntmps214 λbk af=> ?_;have de:=cd ok;have da:=ef ok;have ee:=cd cH;have ic:=ef cH;have Wb:=ll Ii;have j_:=se Ii;have o_:=ll fx;have oE:=se fx;have ga:=(aT s).lt h;have ff:∀j,w.1.size<=j->¬O j:=λj I e=>by have:=ga j e;omega
 simp[go_sem,de,da,gO,gP,Wb,j_,o_,oE];obtain⟨W1,AN,bu,bt,cY,cK,cI,gZ,aU⟩:=aNa w (.cells #[.iface dy ce,.int .u16 obj] 362) (.cells (ae p) 44) (.cells (cn ud) 339) (.cells (cn n) 339) (.cells (ae ah) 44);rw[AN];have fq:=cv.ch aU λ_ _ e=>e;have Kw:W1.cell? ⟨w.1.size,0,none⟩=some (.iface dy ce):=aG bu 0;have J:=(aT s).ch h aU λ_ _ e=>e;obtain⟨g,lp⟩:=aD (w.1.size);rw[lp]at bu bt cY cK cI gZ ff Kw⊢;have fb:∀k,O k->k<W1.1.size:=λk r=>by have:=ga k r;omega
 have yh:∀w,(Op.equalIn 10000 339 (.agg (cn n)) (.agg (cn ud))).run prog w=.ok (decide (n=ud)) w:=λw=>ale w fx Ii;have tk:∀w,(Op.equalIn 10000 44 (.agg (ae p)) (.agg (ae ah))).run prog w=.ok (decide (p=ah)) w:=λw=>tc w ok cH;have bU:∀{Y:M} {x:aF×Pt×Int},sS nw ca s p ud n r_ obj off=x->cc x.2.1->ba x.1 Y (aE O W1 Y)->H O W1 Y->bk (.tuple #[.agg (ae x.2.1),aa x.2.2]) (Y.setRow (g+4) (ae x.2.1)):=λ{Y x} e cG a c=>by
  subst e;have JP:=c.size;have dA:H (aj (g+4)) Y (Y.setRow (g+4) (ae (sS nw ca s p ud n r_ obj off).2.1)):=(H.refl (aj (g+4)) Y).setRow (.inl rfl) _;have Cz:=dA.size;refine af _ _ ⟨rfl,cG,(aT _).eK ((aT _).ch a dA λk r e=>by simp only[aj]at e;subst e;exact r.elim (ff _ (by omega)) λe=>by omega) (λk r=>r.imp id λe=>⟨by omega,by omega⟩) (aE.lt ga (by omega)),?_⟩;exact((aU.mono λ_ _ e=>e.elim).trans c).bZ dA λk r e=>by simp only[aj]at e;omega
 clear af;by_cases zL:n=ud
 ·have bj:sS nw ca s p ud n r_ obj off=(s,p,0):=by unfold sS;rw[be zL]
  subst zL;simp[go_sem,yh,bt,cI,de,da,ee,bS];exact bU (x:=(s,p,0)) bj ok ((aT _).eK J (λk r=>.inl r) (aE.lt fb (c_ _))) (H.refl _ _)
 ·obtain⟨bK,gF⟩:=aD ((if p=ah then s else ca s p));have lO:16<=m bK:=by
   have J:=aA.q' s p;rw[<-gF];split<;>omega
  have bj:sS nw ca s p ud n r_ obj off=if n=eE then(bK,ah,0)else if n.all gI=false then(bK,ah,1)else nw bK (ub r_ obj off) (mZ n):=by unfold sS;rw[aQ zL,gF]
  obtain⟨cs,bv,fr,aN,W,hz⟩:=id fq.nO;by_cases am:p=ah
  case' pos=>
   rw[be am]at gF;subst am;obtain⟨an,ii,aK⟩:∃an,W1=an/\H O W1 an:=⟨W1,rfl,H.refl _ _⟩;have T:ba bK an (aE O W1 an):=by rw[<-gF,<-ii];exact(aT _).eK J (λk r=>.inl r) (aE.lt fb (c_ _))
   simp[go_sem,yh,zL,bt,de,da,aN,W,hz,tk];rw[ii]
  case' neg=>
   rw[aQ am]at gF;simp[go_sem,yh,zL,Kw,bt,de,da,aN,W,hz,tk,am];refine aA.ca s W1 O p _ (by omega) J ok fq aH λv' an T aK=> ?_;rw[gF]at T
  all_goals
   have kg:=aK.size;have pU:∀j,g<=j->j<W1.1.size->¬O j:=λj J _=>ff j J;have jU:=aK.obj bu (ff _ (by omega));have Ut:=aK.obj cK (ff _ (by omega));have aNc:=aK.obj cI (ff _ (by omega));have mj:=aH.cv fq aK ⟨_,T⟩ λ_ _ e=>e;simp[go_sem,Ut,o_,oE];refine(awM n an fx).mono ?_;rintro _ aJ ⟨rfl,aI⟩;have kn:=mj.ch aI λ_ _ e=>e;obtain⟨UT,aJv,aJw,aik,sA,vC⟩:=id kn.nO;have af4:=aI.obj Ut id;have ajT:=aI.obj aNc id;have ag:=(aT _).ch T aI λ_ _ e=>e;have VL:=aI.size;have t_:ba bK aJ (aE O W1 aJ):=(aT _).eK ag (λk r=>r.imp id λe=>⟨e.1,by omega⟩) (aE.lt fb (by omega));have hK:H O W1 aJ:=aK.trans (aI.mono λ_ _ e=>e.elim);by_cases qV:n=eE
   ·rw[be qV]at bj;simp[go_sem,qV,aik,sA,vC,ajT,ee,ic,bS];exact bU (x:=(bK,ah,0)) bj cH t_ hK
   ·rw[aQ qV]at bj;simp[go_sem,qV,af4,o_,oE];refine(azI n aJ fx kn.qQ).mono ?_;rintro v4 bs (⟨gV,dR,rfl,aC⟩|⟨gV,rfl,bo⟩)
    ·rw[aQ (by rw[gV];simp)]at bj;have bo:=aC.ch;have iQ:(mZ n).length=512:=by rw[YK _ fx.all,fx.len]
     have n_:=(aI.trans bo).obj jU id;have aef:bs.cell? (bl g 0)=some (.iface dy ce):=aG n_ 0;have xL:bs.cell? (bl g 1)=some (.int .u16 obj):=aG n_ 1;have ajU:=bo.obj ajT id;have wV:=kn.ch bo λ_ _ e=>e;have Dp:=bo.size;have aP:ba bK bs (aE O W1 an):=(aT _).ch ((aT _).ch T aI λ_ _ e=>e) bo λ_ _ e=>e;have zT:iO ba (aE O W1 an):=aH.cN fq;simp[go_sem,aef,xL,aNb];refine aA.nw bK bs (aE O W1 an) (ub r_ obj off) (mZ n) dR _ (by omega) aP (at3 hU sJ NG) iQ (bC.fF aC.own) (λj I=>⟨λe=> ?_,Gv aC.own j I⟩) wV zT λbD ab1 bH bE=> ?_
     ·have:=aC.pF j I;exact e.elim (λe=>by have:=fb j e;omega) λe=>by omega
     ·have EU:=bE.size;have afV:=bE.obj ajU λe=>e.elim (ff _ (by omega)) λe=>by omega
      obtain⟨⟨kV,hw,gL⟩,Ac⟩:∃Ej,nw bK (ub r_ obj off) (mZ n)=Ej:=⟨_,rfl⟩;rw[Ac]at ab1 bH bj⊢;have Bk:=cd ab1;have wK:=ef ab1;simp only at Bk wK;simp[go_sem,afV,Bk,wK,ee,bS];exact bU (x:=(kV,hw,gL)) bj ab1 ((aT _).eK bH (λk r=>by
       rcases r with(r|r)|r
       ·exact .inl r
       ·exact .inr ⟨r.1,by omega⟩
       ·exact .inr ⟨by omega,r.2⟩) (aE.lt fb (by omega))) ((hK.trans (bo.mono λ_ _ e=>e.elim)).bZ bE λk r e=>e.elim id λe=>by omega)
    ·rw[be gV]at bj;have wV:=kn.ch bo λ_ _ e=>e;obtain⟨Fv,J_,aTK,aNd,su,Tx⟩:=id wV.nO;have ajU:=bo.obj ajT id;have Dp:=bo.size;simp[go_sem,aNd,su,Tx,ajU,ee,ic,bS];exact bU (x:=(bK,ah,1)) bj cH ((aT _).eK ((aT _).ch t_ bo λ_ _ e=>e) (λk r=>r.imp id λe=>⟨e.1,by omega⟩) (aE.lt fb (by omega))) (hK.trans (bo.mono λ_ _ e=>e.elim))
end
end Go.Proofs.YtoohkhcpboldjaaGreatDoor
