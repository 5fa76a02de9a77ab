/- Trees: a sink, and a node that is made anew. Conditions: the variables ptr.wide and tree.hole hold what the text lays. -/
import Derived.Test.YtoohkhcpboldjaaGreatDoorDkA
set_option maxRecDepth 100000
set_option maxHeartbeats 4000000
set_option linter.unusedSimpArgs false
set_option linter.unusedVariables false
namespace Go.Proofs.YtoohkhcpboldjaaGreatDoor
open Go.RowKit Go.Kin
theorem acW{O:Nat->Prop}{w ab ai:World}(H:w.1.size<=ab.1.size)(I:ab.1.size<=ai.1.size){k:Nat}(h:ax (ax O w ab) ab ai k):ax O w ai k:=by
 rcases h with(h|h)|h
 ·exact .inl h
 ·exact .inr ⟨h.1,by omega⟩
 ·exact .inr ⟨by omega,h.2⟩
def oZ{ay:Type}(rd:Src ay)(off:Nat):Nat->ay->Pt->ay×Pt×Int
 |0,s,p=>(s,p,0)
 |k+1,s,p=>if(cv rd s p).2.2≠0 then((cv rd s p).1,ad,(cv rd s p).2.2)else oZ rd off k (cv rd s p).1 ((cv rd s p).2.1.getD (if k=1 then off / 8 else off%8) ad)
def dl{ay:Type}(rd:Src ay)(s:ay)(bu:Pt)(off:Nat):ay×Pt×Int:=if r' bu&&decide (off<64)then oZ rd off 2 s bu else(s,ad,1)
section
variable{ay:Type}{bc:ay->h_}{m:ay->Nat}{rd:Src ay}{dB:TypeId}{ca:Value}{s:ay}{w w':World}{O:Nat->Prop}
theorem ame(aw:qu bc m rd (.iface dB ca))(aH:32<=m s)(aN:∀s,kk (bc s))(h:bc s w O)(p:Pt)(ok:bN p)(off:Nat)(lg:off<4294967296)(ck:hj w)(aF:ik bc O):
  aP Tryz.prog 164 #[.iface dB ca,.agg (Y p),.int .u32 off] w λW w'=>W=.tuple #[.agg (Y (dl rd s p off).2.1),.int .i64 (dl rd s p off).2.2]/\bc (dl rd s p off).1 w' (ax O w w')/\D O w w':=by
 refine bn Tryz.func164 Tryz.ntmps164 λaZ Z=> ?_;have cU:=bW ok;have cT:=dW ok;have dN:=bW cE;have iz:=dW cE;have gc:=(aN s).lt h;have aY:=((D.refl ak w).alloc (.cells (Y p) 44)).alloc (.cells (Y ad) 44);have bj:=oa w (.cells (Y p) 44) (.cells (Y ad) 44);have ba:=ny w (.cells (Y p) 44) (.cells (Y ad) 44);have eJ:=ck.ch aY λ_ _ e=>e;have gd:((w.alloc (.cells (Y p) 44)).alloc (.cells (Y ad) 44)).1.size=w.1.size+2:=by simp
 simp[go_sem,cU,cT,gm,gn];revert aY bj ba eJ gd;generalize(w.alloc (.cells (Y p) 44)).alloc (.cells (Y ad) 44)=ab;intro aY bj ba eJ gd;have eO:∀j,w.1.size<=j->¬O j:=λj F e=>by have:=gc j e;omega
 refine(WS p ab ok eJ).mono ?_;rintro _ ai ⟨rfl,aA⟩;have mX:=eJ.ch aA λ_ _ e=>e;have jd:=aA.obj bj id;have i_:=aA.obj ba id;have I:=(aN s).ch h (aY.trans aA) λ_ _ e=>e;have jg:=aA.size;have eF:D ak w ai:=aY.trans aA;obtain⟨cs,bl,fr,aD,M,hz⟩:=id mX.mx;have dT:∀{N:World},(r' p&&decide (off<64))=false->N=ai.setRow (w.1.size+1) (Y ad)->aZ (.tuple #[.agg (Y ad),.int .i64 1]) N:=λ{N} aK aW=>by
  have dt:dl rd s p off=(s,ad,1):=by unfold dl;rw[aK];rfl
  rw[dt]at Z;have dg:D ak w N:=by rw[aW];exact eF.setRow (.inr (by omega)) _
  exact Z _ _ ⟨rfl,(aN s).ex ((aN s).ch h dg λ_ _ e=>e) (λk r=>.inl r) (ax.lt gc dg.size),dg.mono λ_ _ e=>e.elim⟩
 cases Bd:r' p with
 |false=>
  simp[go_sem,i_,aD,M,hz,dN,iz,bQ];exact dT (by rw[Bd];rfl) rfl
 |true=>
  by_cases kq:off<64
  ·have DW:¬(64:Int)<=off:=by omega
   have kp:dl rd s p off=oZ rd off 2 s p:=by unfold dl;rw[Bd,decide_eq_true kq];rfl
   rw[kp]at Z;clear dT kp;simp[go_sem,kq,DW,jd,cU,cT,gm,gn,dN,bQ];have aE:=(D.refl ak ai).alloc (.cells (Y p) 44);have cm:=cl ai (.cells (Y p) 44);have iL:=aE.obj i_ id;have ka:=mX.ch aE λ_ _ e=>e;have af:=(aN s).ch I aE λ_ _ e=>e;have gL:(ai.alloc (.cells (Y p) 44)).1.size=ai.1.size+1:=by simp
   have iU:=eF.trans aE;obtain⟨g,mG⟩:=az (ai.1.size);rw[mG]at cm gL⊢;generalize ai.alloc (.cells (Y p) 44)=aC at*;obtain⟨cM,tb⟩:=az (w.1.size+1);rw[tb]at iL⊢;have KZ:=iU.size;have de:IntKind.u32.wrap ((off:Int).tdiv 8)=((off / 8:Nat):Int):=by rw[Int.tdiv_eq_ediv_of_nonneg (by omega)];simp[IntKind.wrap,IntKind.bits,IntKind.signed];omega
   have hd:IntKind.u32.wrap ((off:Int).tmod 8)=((off%8:Nat):Int):=by rw[Int.tmod_eq_emod_of_nonneg (by omega)];simp[IntKind.wrap,IntKind.bits,IntKind.signed];omega
   have rm:IntKind.u32.wrap ((off:Int) / 8)=(off:Int) / 8:=by simp[IntKind.wrap,IntKind.bits,IntKind.signed];omega
   have vJ:IntKind.u32.wrap ((off:Int)%8)=(off:Int)%8:=by simp[IntKind.wrap,IntKind.bits,IntKind.signed];omega
   have jR:(off:Int).tdiv 8=((off / 8:Nat):Int):=by rw[Int.tdiv_eq_ediv_of_nonneg (by omega)];omega
   have wC:(off:Int).tmod 8=((off%8:Nat):Int):=by rw[Int.tmod_eq_emod_of_nonneg (by omega)];omega
   have B_:∀k,O k->k<aC.1.size:=λk r=>by have:=gc k r;omega
   refine du (λJ f u=>∃(i:Nat) (s':ay) (gW:Pt),J=2 - i/\i<=2/\f 0=.iface dB ca/\f 6=.pointer (some ⟨cM,0,none⟩)/\f 8=.pointer (some ⟨g,0,none⟩)/\f 31=.agg #[.int .u32 (off / 8:Nat),.int .u32 (off%8:Nat)]/\f 32=.int .i64 i/\bN gW/\oZ rd off 2 s p=oZ rd off (2 - i) s' gW
     /\u.1[g]? =some (.cells (Y gW) 44 (0,0))/\bc s' u (ax O aC u)/\D (λk=>O k\/k=g) aC u/\16*(2 - i)<=m s') 2
    ⟨0,s,p,rfl,by omega,by simp,by simp,by simp,by simp_all,by simp,ok,rfl,cm,(aN s).ex af (λk r=>.inl r) (ax.lt B_ (Nat.le_refl _)),D.refl _ _,aH⟩ ?_
   rintro cJ bK _ f u ⟨i,s',gW,rfl,aa,f0,f6,bz,FG,Au,qq,bd,qR,an,aJ,uH⟩;have A':=aJ.size;have mH:=aF.ck ka aJ ⟨_,an⟩ λk r e=>e.elim id λe=>by
    have:=mX.lt k r;omega
   have NI:¬O g:=eO g (by omega);have IG:¬O cM:=eO cM (by omega);have Hl:=aJ.obj iL λe=>e.elim IG λe=>by omega
   have acX:=bW qq;have amZ:=dW qq;have qc:ik bc (ax O aC u):=aF.cq ka;have bL:∀{N:World} {x:ay×Pt×Int},oZ rd off 2 s p=x->bc x.1 N (ax O aC N)->D (λk=>O k\/k=g) aC N->aZ (.tuple #[.agg (Y x.2.1),.int .i64 x.2.2]) (N.setRow cM (Y x.2.1)):=λ{N x} e a c=>by
    subst e;have EZ:=c.size;have dg:D (aj cM) N (N.setRow cM (Y (oZ rd off 2 s p).2.1)):=(D.refl (aj cM) N).setRow (.inl rfl) _;have AM:=dg.size;refine Z _ _ ⟨rfl,(aN _).ex ((aN _).ch a dg λk r e=>by simp only[aj]at e;subst e;exact r.elim IG λe=>by omega) (λk r=>r.imp id λe=>⟨by omega,by omega⟩) (ax.lt gc (by omega)),?_⟩;exact((iU.mono λ_ _ e=>e.elim).bJ c λk r e=>e.resolve_right (by omega)).bJ dg λk r e=>by simp only[aj]at e;omega
   by_cases aO:i<2
   ·have aDF:(i:Int)<2:=by omega
    obtain⟨jL,pT⟩:=az ((if i=0 then off / 8 else off%8));have IM:jL<8:=by rw[<-pT];split<;>omega
    have iD:oZ rd off (2 - i) s' gW=if(cv rd s' gW).2.2≠0 then((cv rd s' gW).1,ad,(cv rd s' gW).2.2)else oZ rd off (2 -(i+1)) (cv rd s' gW).1 ((cv rd s' gW).2.1.getD jL ad):=by
     rcases(show i=0\/i=1 by omega)with rfl|rfl
     ·subst pT;rfl
     ·subst pT;rfl
    have mu:∀u,(Instr.index 354 (.agg #[.int .u32 ((off:Int) / 8),.int .u32 ((off:Int)%8)]) (.int .i64 i)).run Tryz.prog u=.ok (.int .u32 jL) u:=λu=>by
     rcases(show i=0\/i=1 by omega)with rfl|rfl
     ·subst pT;rfl
     ·subst pT;rfl
    have gO:IntKind.i64.wrap ((i:Int)+1)=((i+1:Nat):Int):=by rw[IntKind.wrap_i64];omega
    simp[go_sem,f0,bz,FG,Au,aDF,mu,qR,acX,amZ];have am0:=AK aw s' gW;refine(RH aw (by omega) aN an gW qq mH qc).mono ?_;rintro _ dC ⟨rfl,hl,dX⟩;have lx:=Ex rd s' gW;obtain⟨am1,aDG⟩:=az (cv rd s' gW);rw[aDG]at lx hl iD am0⊢;obtain⟨qE,vW,lu⟩:=am1;simp only at lx hl iD am0⊢;have yR:=kh lx;have AN:=qp lx;have Md:=dX.size;have aDH:=dX.obj qR λe=>e.elim NI λe=>by omega
    have Yk:=dX.obj Hl λe=>e.elim IG λe=>by omega
    have hl:bc qE dC (ax O aC dC):=(aN _).ex hl (λk r=>acW A' Md r) (ax.lt B_ (by omega));have Qz:D (λk=>O k\/k=g) aC dC:=aJ.bJ dX λk r e=>e.elim .inl λe=>by omega
    have LC:=qc.ck mH dX ⟨_,hl⟩ λ_ _ e=>e;have lX:=(D.refl ak dC).alloc (.cells (bZ vW) 339);have wI:=cl dC (.cells (bZ vW) 339);have am2:=lX.obj aDH id;have aDI:=lX.obj Yk id;have aDJ:=LC.ch lX λ_ _ e=>e;have jn:bc qE _ _:=(aN _).ch hl lX λ_ _ e=>e;have Vz:=Qz.trans (lX.mono λ_ _ e=>e.elim);simp[go_sem,rW,rX,yR,AN,kh pL,bQ];obtain⟨eu,nb⟩:=az (dC.1.size);rw[nb]at wI⊢;generalize dC.alloc (.cells (bZ vW) 339)=mr at*;obtain⟨Po,aJQ,yN,qn,Jk,vX⟩:=id aDJ.mx;have aDK:=lX.size;have jn:bc qE mr (ax O aC mr):=(aN _).ex jn (λk r=>r.imp id λe=>⟨e.1,by omega⟩) (ax.lt B_ (by omega));by_cases eb:lu=0
    ·subst eb;rw[if_neg (by simp)]at iD;obtain⟨q,aq⟩:∃q,vW[jL]? =some q:=⟨_,List.getElem?_eq_getElem (by rw[lx.len];exact IM)⟩;have kV:=lx.all _ (List.mem_of_getElem? aq);have acY:vW.getD jL ad=q:=by rw[List.getD_eq_getElem?_getD,aq];rfl
     have aDL:=Wy lx aq;rw[acY]at iD;have uh:=bW kV;have LI:(jL:Int)<8:=by omega
     have QA:jL*41+41<=328:=by omega
     simp[go_sem,bz,Au,wI,am2,IM,LI,QA,yR,aDL,acX,uh,bQ,gO];have Gl:D (aj g) mr (mr.setRow g (Y q)):=(D.refl (aj g) mr).setRow (.inl rfl) _;have aJR:=Gl.size;have pz:bc qE (mr.setRow g (Y q)) (ax O aC (mr.setRow g (Y q))):=(aN _).ex ((aN _).ch jn Gl λk r e=>by simp only[aj]at e;subst e;exact r.elim NI λe=>by omega) (λk r=>r.imp id λe=>⟨e.1,by omega⟩) (ax.lt B_ (by omega));exact cH.intro (2 -(i+1)) (by omega) (bK _ _ _ ⟨i+1,qE,q,rfl,by omega,by simp[f0],by simp[f6],by simp[bz],by simp[FG],by simp,kV,bd.trans iD,by rw[gk,am2];rfl,pz,Vz.trans (Gl.mono λk _ e=>by simp only[aj]at e;exact .inr e),by omega⟩)
    ·rw[if_pos eb]at iD;have MG:(lu==0)=false:=beq_false_of_ne eb;simp[go_sem,eb,MG,bne,f6,aDI,qn,Jk,vX,dN,iz,bQ];exact bL (x:=(qE,ad,lu)) (bd.trans iD) jn Vz
   ·obtain rfl:i=2:=by omega
    have bd:oZ rd off 2 s p=(s',gW,0):=bd;simp[go_sem,f6,bz,Au,qR,Hl,acX,amZ,dN,bQ];exact bL (x:=(s',gW,0)) bd an aJ
  ·have DW:(64:Int)<=off:=by omega
   simp[go_sem,kq,DW,i_,aD,M,hz,dN,iz,bQ];exact dT (by grind) rfl
end
def fS{ay:Type}(rd:Src ay)(s:ay)(p:Pt):ay×List br×Int:=
 if p=ad then(s,fO,0)else if(rd s p).2.2≠0 then((rd s p).1,fO,(rd s p).2.2)else if(qw (rd s p).2.1).2≠0 then((rd s p).1,fO,21)else((rd s p).1,(qw (rd s p).2.1).1,0)
theorem So{ay:Type}(rd:Src ay)(s:ay)(p:Pt):kW (fS rd s p).2.1:=by
 have aJS:=aez (rd s p).2.1;unfold fS;generalize qw (rd s p).2.1=ae at*;generalize rd s p=J at*;by_cases H:p=ad
 ·rw[if_pos H];exact uR
 ·rw[if_neg H];by_cases I:J.2.2≠0
  ·rw[if_pos I];exact uR
  ·rw[if_neg I];by_cases af:ae.2≠0
   ·rw[if_pos af];exact uR
   grind
section
variable{ay:Type}{bc:ay->h_}{m:ay->Nat}{rd:Src ay}{dB:TypeId}{ca:Value}{s:ay}{w w':World}{O:Nat->Prop}
theorem acm(aw:qu bc m rd (.iface dB ca))(aH:16<=m s)(aN:∀s,kk (bc s))(h:bc s w O)(p:Pt)(ok:bN p)(ck:hj w)(aF:ik bc O):
  aP Tryz.prog 148 #[.iface dB ca,.agg (Y p)] w λW w'=>W=.tuple #[.agg (dc (fS rd s p).2.1),.int .i64 (fS rd s p).2.2]/\bc (fS rd s p).1 w' (ax O w w')/\D O w w':=by
 refine bn Tryz.func148 Tryz.ntmps148 λaZ Z=> ?_;have cU:=bW ok;have cT:=dW ok;have kG:=sR uR;have mW:=Cv uR;have gc:=(aN s).lt h;have aY:=((D.refl ak w).alloc (.cells (Y p) 44)).alloc (.cells (dc fO) 279);have bj:=oa w (.cells (Y p) 44) (.cells (dc fO) 279);have ba:=ny w (.cells (Y p) 44) (.cells (dc fO) 279);have eJ:=ck.ch aY λ_ _ e=>e;have gd:((w.alloc (.cells (Y p) 44)).alloc (.cells (dc fO) 279)).1.size=w.1.size+2:=by simp
 obtain⟨cs,bl,fr,AL,M,hz⟩:=ck.mx;have nY:=lt_of_block AL;have GQ:=aY.obj AL id;have gI:∀w,(Op.equalIn 10000 44 (.agg (Y p)) (.agg (Y ad))).run Tryz.prog w=.ok (decide (p=ad)) w:=λw=>sO w ok cE;have MF:=dD ba 0;have tW:∀aO,((w.alloc (.cells (Y p) 44)).alloc (.cells (dc fO) 279)).1[2]'aO=.cells cs bl fr:=λaO=>by
  grind
 by_cases ah:p=ad
 ·have bd:fS rd s p=(s,fO,0):=by unfold fS;rw[if_pos ah]
  rw[bd]at Z;subst ah;simp[go_sem,cU,cT,yG,yH,oz,gI,Cw,kG,mW,bQ];exact Z _ _ ⟨rfl,(aN s).ex ((aN s).ch h (aY.setRow (.inr (by omega)) _) λ_ _ e=>e) (λk r=>.inl r) (ax.lt gc (by simp;omega)),(aY.setRow (.inr (by omega)) _).mono λ_ _ e=>e.elim⟩
 ·simp[go_sem,cU,cT,yG,yH,oz,gI,ah];have H:=(aN s).ch h aY λ_ _ e=>e;have eO:∀j,w.1.size<=j->¬O j:=λj F e=>by have:=gc j e;omega
  have lw:=aY.size;obtain⟨J,ap⟩:=az (rd s p);have bL:∀{N:World} {W1:World} {x:ay×List br×Int},fS rd s p=x->bc x.1 N (ax O W1 N)->w.1.size<=W1.1.size->W1.1.size<=N.1.size->D O w N->aZ (.tuple #[.agg (dc x.2.1),.int .i64 x.2.2]) N:=λ{N W1 x} e a b c d=>by
   subst e;exact Z _ _ ⟨rfl,(aN _).ex a (λk r=>r.imp id λe=>⟨by omega,e.2⟩) (ax.lt gc (by omega)),d⟩
  clear Z;revert H bj ba gd aY eJ MF GQ tW lw;generalize(w.alloc (.cells (Y p) 44)).alloc (.cells (dc fO) 279)=ab;intro aY bj ba eJ gd GQ MF tW H lw;refine aw.run s ab O p _ aH H ok eJ aF λu ai dI dk I aA=> ?_;have mX:=aF.ck eJ aA ⟨_,I⟩ λ_ _ e=>e;have i_:=aA.obj ba (eO _ (by omega));have jg:=aA.size;have eF:D O w ai:=(aY.mono λ_ _ e=>e.elim).trans aA;rw[ap]at dI dk I⊢;have apc:=dD i_ 0;have t0:fS rd s p=if J.2.2≠0 then(J.1,fO,J.2.2)else if(qw J.2.1).2≠0 then(J.1,fO,21)else(J.1,(qw J.2.1).1,0):=by
   unfold fS;rw[if_neg ah,ap]
  have GR:∀{N:World} {x:ay×List br×Int},fS rd s p=x->x.1=J.1->D ak ai N->aZ (.tuple #[.agg (dc x.2.1),.int .i64 x.2.2]) (N.setRow (w.1.size+1) (dc x.2.1)):=λ{N x} e aK c=>by
   have dg:D (aj (w.1.size+1)) ai (N.setRow (w.1.size+1) (dc x.2.1)):=(c.mono (S':=aj (w.1.size+1)) λ_ _ e=>e.elim).setRow (.inl rfl) _;have AM:=dg.size;refine bL (W1:=ab) e ?_ (by omega) (by omega) (eF.bJ dg λk r e=>by simp only[aj]at e;omega);rw[aK];exact(aN J.1).ex ((aN J.1).ch I dg λk r e=>by simp only[aj]at e;exact r.elim (eO k (by omega)) λe=>by omega) (λk r=>r.imp id λe=>⟨e.1,by omega⟩) (ax.lt (λk r=>by have:=gc k r;omega) (by omega))
  by_cases aV:J.2.2=0
  ·rw[if_neg (by omega)]at t0;simp[go_sem,aV];refine(aqi u J.2.1 ai dk dI mX.qt).mono ?_;rintro _ aC ⟨rfl,aE⟩;have lx:=aez J.2.1;obtain⟨vW,WV⟩:=az ((qw J.2.1).1);obtain⟨lu,WW⟩:=az ((qw J.2.1).2);rw[WV]at lx t0⊢;rw[WW]at t0⊢;have yR:=sR lx;have AN:=Cv lx;have iL:=aE.obj i_ id;have bv:=aE.alloc (.cells (dc fO) 279);have lU:=((D.refl ak aC).alloc (.cells (dc fO) 279)).obj iL id;have qv:=((D.refl ak aC).alloc (.cells (dc vW) 279)).obj iL id;by_cases eb:lu=0
   ·rw[if_neg (by omega)]at t0;subst eb;simp[go_sem,yG,yH,yR,AN,kG,mW,lU,qv,bQ];have:=GR t0 rfl (aE.alloc (.cells (dc vW) 279));exact this
   ·rw[if_pos eb]at t0;have MG:(lu==0)=false:=beq_false_of_ne eb;simp[go_sem,yG,yH,yR,AN,kG,mW,lU,qv,bQ,eb,MG,bne,Cw];have:=GR t0 rfl (aE.alloc (.cells (dc vW) 279));exact this
  ·rw[if_pos aV]at t0;have mY:(J.2.2==0)=false:=beq_false_of_ne aV;simp[go_sem,aV,mY,bne,Cw,i_,kG,mW,bQ];have:=GR t0 rfl (D.refl ak ai);exact this
end
theorem vj{w:World}{e s n:Nat}{v:Value}{xs:List Value}(h:w.ownsRow 0 e s v n xs):∀k,v.ownBlock=some k->k<w.1.size:=λk r=>by
 rcases h.2 with⟨aS,_⟩|⟨g,cap,di,aS,_,aF,_⟩
 ·rw[aS]at r;simp[Value.ownBlock]at r
 ·rw[aS]at r;simp[Value.ownBlock]at r
  grind
structure vb{ay:Type}(bc:ay->h_)(m:ay->Nat)(rd:Src ay)(nw:ay->Pt->List UInt8->ay×Pt×Int)(bM:ay->Pt->ay)(sv:Value):Prop where
 rd:qu bc m rd sv
 XV:∀(s:ay) (p:Pt) (b:List UInt8),m s<=m (nw s p b).1+16
 Sj:∀(s:ay) (p:Pt),m s<=m (bM s p)+16
 nw:∀(s:ay) (w:World) (O:Nat->Prop) (p:Pt) (b:List UInt8) (v:Value) (K:Value->World->Prop),16<=m s->bc s w O->bN p->b.length=512->bD w v 512 (bm b)->(∀j,v.ownBlock=some j->¬O j/\j<w.1.size)->hj w->ik bc O->
  (∀w',bN (nw s p b).2.1->bc (nw s p b).1 w' (ax O w w')->D O w w'->K (.tuple #[.agg (Y (nw s p b).2.1),.int .i64 (nw s p b).2.2]) w')->GP Tryz.prog sv "New" [.agg (Y p),v] w K
 bM:∀(s:ay) (w:World) (O:Nat->Prop) (p:Pt) (K:Value->World->Prop),16<=m s->bc s w O->bN p->hj w->ik bc O->
  (∀W w',bc (bM s p) w' (ax O w w')->D O w w'->K W w')->GP Tryz.prog sv "Old" [.agg (Y p)] w K
def rP(qk obj off:Nat):Pt:=⟨3,qk,obj,off,0,List.replicate 32 0,[0,0,0,0]⟩
def qZ{ay:Type}(nw:ay->Pt->List UInt8->ay×Pt×Int)(bM:ay->Pt->ay)(s:ay)(p:Pt)(rR n:List Pt)(qk obj off:Nat):ay×Pt×Int:=
 if n=rR then(s,p,0)else if n=dY then(if p=ad then s else bM s p,ad,0)else if n.all fy=false then(if p=ad then s else bM s p,ad,1)else nw (if p=ad then s else bM s p) (rP qk obj off) (lS n)
theorem aDM(w:World)(ag B C L E:Obj):∃N,((((w.alloc ag).alloc B).alloc C).alloc L).alloc E=N/\N.1[w.1.size]? =some ag/\N.1[w.1.size+1]? =some B/\N.1[w.1.size+2]? =some C/\N.1[w.1.size+3]? =some L/\N.1[w.1.size+4]? =some E/\N.1.size=w.1.size+5/\D ak w N:=by
 refine⟨_,rfl,?_,?_,?_,?_,?_,by simp,(((((D.refl ak w).alloc _).alloc _).alloc _).alloc _).alloc _⟩
 ·rw[pY _ _ _ (by simp<;>omega),pY _ _ _ (by simp<;>omega),pY _ _ _ (by simp<;>omega),pY _ _ _ (by simp<;>omega),cl]
 ·simp_all
 ·simp_all
 ·simp_all
 ·simp
theorem aDN{w:World}{K:Value->World->Prop}(l o f:Nat):hX Tryz.prog 44 [(0,.int .u8 3),(1,.int .u8 l),(2,.int .u16 o),(3,.int .u32 f)] w K=K (.agg (Y (rP l o f))) w:=by
 refine lp Tryz.underlying44 gm (places:=#[(0,1),(1,1),(2,1),(3,1),(4,1),(5,32),(37,4)]) (by simp[go_sem]) ?_;simp[iH,gn,Value.cells,tI,bW cE];simp[d',Y,ad,rP,eB,ky,Cm];rfl
theorem al3{l o f:Nat}(H:l<256)(I:o<65536)(af:f<4294967296):bN (rP l o f):=⟨by simp[rP],by simpa[rP]using H,by simpa[rP]using I,by simpa[rP]using af,by simp[rP],by simp[rP],by simp[rP],by simp[rP]⟩
section
variable{ay:Type}{bc:ay->h_}{m:ay->Nat}{rd:Src ay}{nw:ay->Pt->List UInt8->ay×Pt×Int}{bM:ay->Pt->ay}{dB:TypeId}{ca sv:Value}{s:ay}{w w':World}{O:Nat->Prop}
theorem am3(aw:vb bc m rd nw bM sv)(s:ay)(p:Pt)(rR n:List Pt)(qk obj off:Nat):m s<=m (qZ nw bM s p rR n qk obj off).1+32:=by
 have H:=aw.Sj s p;have I:=aw.XV (if p=ad then s else bM s p) (rP qk obj off) (lS n);have af:m s<=m (if p=ad then s else bM s p)+16:=by split<;>omega
 unfold qZ
 grind
theorem am4(aw:vb bc m rd nw bM (.iface dB ca))(aH:32<=m s)(aN:∀s,kk (bc s))(h:bc s w O)(p:Pt)(ok:bN p)(rR n:List Pt)(DU:hE rR)(ez:hE n)(qk obj off:Nat)(ck:hj w)(aF:ik bc O)(ij:qk<256)(vn:obj<65536)(acZ:off<4294967296):
  aP Tryz.prog 214 #[.agg #[.iface dB ca,.int .u16 obj],.agg (Y p),.agg (bZ rR),.agg (bZ n),.int .u8 qk,.int .u32 off] w λW w'=>W=.tuple #[.agg (Y (qZ nw bM s p rR n qk obj off).2.1),.int .i64 (qZ nw bM s p rR n qk obj off).2.2]/\bN (qZ nw bM s p rR n qk obj off).2.1/\bc (qZ nw bM s p rR n qk obj off).1 w' (ax O w w')/\D O w w':=by
 refine bn Tryz.func214 Tryz.ntmps214 λaZ Z=> ?_;have cU:=bW ok;have cT:=dW ok;have dN:=bW cE;have iz:=dW cE;have Qg:=kh DU;have rF:=qp DU;have kG:=kh ez;have mW:=qp ez;have gc:=(aN s).lt h;have eO:∀j,w.1.size<=j->¬O j:=λj F e=>by have:=gc j e;omega
 simp[go_sem,cU,cT,gm,gn,Qg,rF,kG,mW];obtain⟨W1,Ho,bj,ba,cC,cm,ci,gd,aY⟩:=aDM w (.cells #[.iface dB ca,.int .u16 obj] 362) (.cells (Y p) 44) (.cells (bZ rR) 339) (.cells (bZ n) 339) (.cells (Y ad) 44);rw[Ho];have eJ:=ck.ch aY λ_ _ e=>e;have FJ:W1.cell? ⟨w.1.size,0,none⟩=some (.iface dB ca):=aG bj 0;have H:=(aN s).ch h aY λ_ _ e=>e;obtain⟨g,mG⟩:=az (w.1.size);rw[mG]at bj ba cC cm ci gd eO FJ⊢;have eG:∀k,O k->k<W1.1.size:=λk r=>by have:=gc k r;omega
 have qb:∀w,(Op.equalIn 10000 339 (.agg (bZ n)) (.agg (bZ rR))).run Tryz.prog w=.ok (decide (n=rR)) w:=λw=>aea w ez DU;have xl:∀w,(Op.equalIn 10000 44 (.agg (Y p)) (.agg (Y ad))).run Tryz.prog w=.ok (decide (p=ad)) w:=λw=>sO w ok cE;have bL:∀{N:World} {x:ay×Pt×Int},qZ nw bM s p rR n qk obj off=x->bN x.2.1->bc x.1 N (ax O W1 N)->D O W1 N->aZ (.tuple #[.agg (Y x.2.1),.int .i64 x.2.2]) (N.setRow (g+4) (Y x.2.1)):=λ{N x} e dh a c=>by
  subst e;have EZ:=c.size;have dg:D (aj (g+4)) N (N.setRow (g+4) (Y (qZ nw bM s p rR n qk obj off).2.1)):=(D.refl (aj (g+4)) N).setRow (.inl rfl) _;have AM:=dg.size;refine Z _ _ ⟨rfl,dh,(aN _).ex ((aN _).ch a dg λk r e=>by simp only[aj]at e;subst e;exact r.elim (eO _ (by omega)) λe=>by omega) (λk r=>r.imp id λe=>⟨by omega,by omega⟩) (ax.lt gc (by omega)),?_⟩;exact((aY.mono λ_ _ e=>e.elim).trans c).bJ dg λk r e=>by simp only[aj]at e;omega
 clear Z;by_cases wk:n=rR
 ·have bd:qZ nw bM s p rR n qk obj off=(s,p,0):=by unfold qZ;rw[if_pos wk]
  subst wk;simp[go_sem,qb,ba,ci,cU,cT,dN,bQ];exact bL (x:=(s,p,0)) bd ok ((aN _).ex H (λk r=>.inl r) (ax.lt eG (Nat.le_refl _))) (D.refl _ _)
 ·obtain⟨bt,gE⟩:=az ((if p=ad then s else bM s p));have kH:16<=m bt:=by
   have H:=aw.Sj s p;rw[<-gE];split<;>omega
  have bd:qZ nw bM s p rR n qk obj off=if n=dY then(bt,ad,0)else if n.all fy=false then(bt,ad,1)else nw bt (rP qk obj off) (lS n):=by unfold qZ;rw[if_neg wk,gE]
  obtain⟨cs,bl,fr,aD,M,hz⟩:=id eJ.mx;by_cases ah:p=ad
  case' pos=>
   rw[if_pos ah]at gE;subst ah;obtain⟨ai,hd,aA⟩:∃ai,W1=ai/\D O W1 ai:=⟨W1,rfl,D.refl _ _⟩;have I:bc bt ai (ax O W1 ai):=by rw[<-gE,<-hd];exact(aN _).ex H (λk r=>.inl r) (ax.lt eG (Nat.le_refl _))
   simp[go_sem,qb,wk,ba,cU,cT,aD,M,hz,xl];rw[hd]
  case' neg=>
   rw[if_neg ah]at gE;simp[go_sem,qb,wk,FJ,ba,cU,cT,aD,M,hz,xl,ah];refine aw.bM s W1 O p _ (by omega) H ok eJ aF λW ai I aA=> ?_;rw[gE]at I
  all_goals
   have jg:=aA.size;have oi:∀j,g<=j->j<W1.1.size->¬O j:=λj H _=>eO j H;have jd:=aA.obj bj (eO _ (by omega));have NX:=aA.obj cm (eO _ (by omega));have aDO:=aA.obj ci (eO _ (by omega));have mX:=aF.ck eJ aA ⟨_,I⟩ λ_ _ e=>e;simp[go_sem,NX,kG,mW];refine(aoJ n ai ez).mono ?_;rintro _ aC ⟨rfl,aE⟩;have ka:=mX.ch aE λ_ _ e=>e;obtain⟨aDP,aDQ,aDR,ac0,qD,AV⟩:=id ka.mx;have Zk:=aE.obj NX id;have ac1:=aE.obj aDO id;have af:=(aN _).ch I aE λ_ _ e=>e;have KZ:=aE.size;have rJ:bc bt aC (ax O W1 aC):=(aN _).ex af (λk r=>r.imp id λe=>⟨e.1,by omega⟩) (ax.lt eG (by omega));have iU:D O W1 aC:=aA.trans (aE.mono λ_ _ e=>e.elim);by_cases pe:n=dY
   ·rw[if_pos pe]at bd;simp[go_sem,pe,ac0,qD,AV,ac1,dN,iz,bQ];exact bL (x:=(bt,ad,0)) bd cE rJ iU
   ·rw[if_neg pe]at bd;simp[go_sem,pe,Zk,kG,mW];refine(ap4 n aC ez ka.qt).mono ?_;rintro v4 be (⟨fq,dI,rfl,aH⟩|⟨fq,rfl,bv⟩)
    ·rw[if_neg (by rw[fq];simp)]at bd;have bv:=aH.ch;have ia:(lS n).length=512:=by rw[RP _ ez.all,ez.len]
     have oQ:=(aE.trans bv).obj jd id;have Xg:be.cell? ⟨g,0,none⟩=some (.iface dB ca):=aG oQ 0;have y_:be.cell? ⟨g,1,none⟩=some (.int .u16 obj):=aG oQ 1;have ac2:=bv.obj ac1 id;have ux:=ka.ch bv λ_ _ e=>e;have BT:=bv.size;have aU:bc bt be (ax O W1 ai):=(aN _).ch ((aN _).ch I aE λ_ _ e=>e) bv λ_ _ e=>e;have HC:ik bc (ax O W1 ai):=aF.cq eJ;simp[go_sem,Xg,y_,aDN];refine aw.nw bt be (ax O W1 ai) (rP qk obj off) (lS n) dI _ (by omega) aU (al3 ij vn acZ) ia (bD.fp aH.own) (λj F=>⟨λe=> ?_,vj aH.own j F⟩) ux HC λbw VA bC bx=> ?_
     ·have:=aH.up j F;exact e.elim (λe=>by have:=eG j e;omega) λe=>by omega
     ·have Bi:=bx.size;have HD:=bx.obj ac2 λe=>e.elim (eO _ (by omega)) λe=>by omega
      obtain⟨⟨j_,gS,fD⟩,IN⟩:∃BM,nw bt (rP qk obj off) (lS n)=BM:=⟨_,rfl⟩;rw[IN]at VA bC bd⊢;have uh:=bW VA;have uc:=dW VA;simp only at uh uc;simp[go_sem,HD,uh,uc,dN,bQ];exact bL (x:=(j_,gS,fD)) bd VA ((aN _).ex bC (λk r=>by
       rcases r with(r|r)|r
       ·exact .inl r
       ·exact .inr ⟨r.1,by omega⟩
       ·exact .inr ⟨by omega,r.2⟩) (ax.lt eG (by omega))) ((iU.trans (bv.mono λ_ _ e=>e.elim)).bJ bx λk r e=>e.elim id λe=>by omega)
    ·rw[if_pos fq]at bd;have ux:=ka.ch bv λ_ _ e=>e;obtain⟨aJT,Fi,aJU,aDS,xz,Xw⟩:=id ux.mx;have ac2:=bv.obj ac1 id;have BT:=bv.size;simp[go_sem,aDS,xz,Xw,ac2,dN,iz,bQ];exact bL (x:=(bt,ad,1)) bd cE ((aN _).ex ((aN _).ch rJ bv λ_ _ e=>e) (λk r=>r.imp id λe=>⟨e.1,by omega⟩) (ax.lt eG (by omega))) (iU.trans (bv.mono λ_ _ e=>e.elim))
end
end Go.Proofs.YtoohkhcpboldjaaGreatDoor
