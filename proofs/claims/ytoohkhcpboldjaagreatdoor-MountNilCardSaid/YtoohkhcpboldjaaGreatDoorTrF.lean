/- Trees: Set, of any sink. Conditions: the variables ptr.wide and tree.hole hold what the text lays. -/
import Derived.Test.YtoohkhcpboldjaaGreatDoorTrG
set_option maxRecDepth 100000
set_option maxHeartbeats 8000000
set_option linter.unusedSimpArgs false
set_option linter.unusedVariables false
namespace Go.Proofs.YtoohkhcpboldjaaGreatDoor
open Go.RowKit Go.Kin
section
variable{ay:Type}{bc:ay->h_}{m:ay->Nat}{rd:Src ay}{nw:ay->Pt->List UInt8->ay×Pt×Int}{bM:ay->Pt->ay}{dB:TypeId}{ca:Value}{s:ay}{w w':World}{O:Nat->Prop}
def DX(ae:List (Nat×Pt))(k:Nat):Option Nat:=if k=0 then none else(ae[k - 1]?).map (·.1)
theorem am5{n i j a b:Nat}(hF:i<j)(F:j<=n)(h:16*(4*(n - i)+2)<=a):16*((j - i)+3)<=a/\(a<=b+16*((j - i)+3)->16*(4*(n - j)+2)<=b):=by omega
theorem am6{sv:Value}(aw:vb bc m rd nw bM sv)(obj:Nat):∀(iF:Nat) (s:ay) (n:List Pt) (l:List (Nat×Pt)),m s<=m (o_ rd nw bM obj iF s n l).1+16*(4*l.length)
 |0,s,n,l=>by unfold o_;simp
 |iF+1,s,n,[]=>by unfold o_;simp
 |iF+1,s,n,x::l=>by
  have bf:jB (x.1 / 8) (x::l)=x::jB (x.1 / 8) l:=by
   unfold jB;rw[List.takeWhile_cons];simp
  have H:=ac3 aw s (n.getD (x.1 / 8) ad) obj (x.1 / 8) (jB (x.1 / 8) (x::l));have af:(jB (x.1 / 8) (x::l)).length<=(x::l).length:=by unfold jB;exact List.Sublist.length_le (List.takeWhile_sublist _)
  have aU:1<=(jB (x.1 / 8) (x::l)).length:=by rw[bf];simp
  unfold o_;simp only;split
  ·simp only;omega
  ·have I:=am6 aw obj iF (nR rd nw bM obj s (n.getD (x.1 / 8) ad) (x.1 / 8) (jB (x.1 / 8) (x::l))).1 (n.set (x.1 / 8) (nR rd nw bM obj s (n.getD (x.1 / 8) ad) (x.1 / 8) (jB (x.1 / 8) (x::l))).2.1) ((x::l).drop (jB (x.1 / 8) (x::l)).length)
   grind
theorem agQ{sv:Value}(aw:vb bc m rd nw bM sv)(obj:Nat)(s:ay)(bu:Pt)(l:List (Nat×Pt)):m s<=m (pq rd nw bM obj s bu l).1+16*(4*l.length+3):=by
 have H:=AK aw.rd s bu;have I:=am6 aw obj l.length (cv rd s bu).1 (cv rd s bu).2.1 l;have af:=am3 aw (o_ rd nw bM obj l.length (cv rd s bu).1 (cv rd s bu).2.1 l).1 bu (cv rd s bu).2.1 (o_ rd nw bM obj l.length (cv rd s bu).1 (cv rd s bu).2.1 l).2.1 2 obj 0;unfold pq
 grind
theorem af9(aw:vb bc m rd nw bM (.iface dB ca))(aN:∀s,kk (bc s))(h:bc s w O)(p:Pt)(ok:bN p)(obj:Nat)(v:Value)(ae:List (Nat×Pt))(aH:16*(4*ae.length+3)<=m s)(bT:fA w v qA 42 ae)(Gm:∀a∈ae,mF a)(hS:∀j,v.ownBlock=some j->¬O j/\j<w.1.size)(ck:hj w)(aF:ik bc O)(vn:obj<65536):
  aP Tryz.prog 176 #[.iface dB ca,.agg (Y p),.int .u16 obj,v] w λW w'=>W=.tuple #[.agg (Y (pq rd nw bM obj s p ae).2.1),.int .i64 (pq rd nw bM obj s p ae).2.2]/\bN (pq rd nw bM obj s p ae).2.1/\bc (pq rd nw bM obj s p ae).1 w' (ax O w w')/\D O w w':=by
 refine bn Tryz.func176 Tryz.ntmps176 λaZ Z=> ?_;have cU:=bW ok;have cT:=dW ok;have dN:=bW cE;have iz:=dW cE;have gc:=(aN s).lt h;have eO:∀j,w.1.size<=j->¬O j:=λj F e=>by have:=gc j e;omega
 have aY:=((D.refl ak w).alloc (.cells (Y p) 44)).alloc (.cells (Y ad) 44);have bj:=oa w (.cells (Y p) 44) (.cells (Y ad) 44);have ba:=ny w (.cells (Y p) 44) (.cells (Y ad) 44);have gd:((w.alloc (.cells (Y p) 44)).alloc (.cells (Y ad) 44)).1.size=w.1.size+2:=by simp
 have cI:=bT.len Tryz.underlying223 3;simp[go_sem,cU,cT,gm,gn,cI];obtain⟨g,mG⟩:=az (w.1.size);rw[mG]at bj ba gd eO⊢;generalize(w.alloc (.cells (Y p) 44)).alloc (.cells (Y ad) 44)=W1 at*;have eJ:=ck.ch aY λ_ _ e=>e;have H:=(aN s).ch h aY λ_ _ e=>e;have eG:∀k,O k->k<W1.1.size:=λk r=>by have:=gc k r;omega
 have bL:∀{N:World} {x:ay×Pt×Int},pq rd nw bM obj s p ae=x->bN x.2.1->bc x.1 N (ax O W1 N)->D O W1 N->aZ (.tuple #[.agg (Y x.2.1),.int .i64 x.2.2]) (N.setRow (g+1) (Y x.2.1)):=λ{N x} e dh a c=>by
  subst e;have EZ:=c.size;have dg:D (aj (g+1)) N (N.setRow (g+1) (Y (pq rd nw bM obj s p ae).2.1)):=(D.refl (aj (g+1)) N).setRow (.inl rfl) _;have AM:=dg.size;refine Z _ _ ⟨rfl,dh,(aN _).ex ((aN _).ch a dg λk r e=>by simp only[aj]at e;subst e;exact r.elim (eO _ (by omega)) λe=>by omega) (λk r=>r.imp id λe=>⟨by omega,by omega⟩) (ax.lt gc (by omega)),?_⟩;exact((aY.mono λ_ _ e=>e.elim).trans c).bJ dg λk r e=>by simp only[aj]at e;omega
 clear Z;have dT:∀{N:World},(tF none ae&&r' p)=false->D ak W1 N->aZ (.tuple #[.agg (Y ad),.int .i64 1]) (N.setRow (g+1) (Y ad)):=λ{N} e c=>
  bL (x:=(s,ad,1)) (by unfold pq;rw[e];rfl) cE ((aN _).ex ((aN _).ch H c λ_ _ e=>e) (λk r=>.inl r) (ax.lt eG c.size)) (c.mono λ_ _ e=>e.elim)
 refine du (λJ f u=>∃k,J=ae.length - k/\k<=ae.length/\f 0=.iface dB ca/\f 2=.int .u16 obj/\f 3=v/\f 5=.pointer (some ⟨g,0,none⟩)/\f 8=.pointer (some ⟨g+1,0,none⟩)/\f 24=v/\f 25=.int .i64 ae.length/\f 26=.int .i64 k/\tF none ae=tF (DX ae k) (ae.drop k)/\D ak W1 u) ae.length
  ⟨0,rfl,Nat.zero_le _,by simp,by simp,by simp,by simp,by simp,by simp,by simp,by simp,rfl,D.refl _ _⟩ ?_
 rintro cJ bK _ f u ⟨k,rfl,r,f0,bh,bV,cN,bz,f24,f25,f26,ij,aJ⟩;have mH:=eJ.ch aJ λ_ _ e=>e;have wr:=aJ.obj bj id;have wj:=aJ.obj ba id;by_cases aO:k<ae.length
 ·have sP:(k:Int)<ae.length:=by omega
  have GX:ae.length<=maxLen:=by
   obtain⟨ag,c,_,H,I,_⟩:=bT;omega
  have eo:IntKind.i64.wrap ((k:Int)+1)=((k+1:Nat):Int):=by
   unfold maxLen at GX;rw[IntKind.wrap_i64];omega
  obtain⟨x,M⟩:∃x,ae[k]? =some x:=⟨_,List.getElem?_eq_getElem aO⟩;have dh:=Gm x (List.mem_of_getElem? M);obtain⟨b,nF,c,cs,bl,fr,Gn,ac4,nL,gu⟩:=ac5 bT Gm M;have yi:=(aY.trans aJ).obj ac4 id;have eU:=mC dh;have gs:=Ni dh;have mD:=Sl dh;have sl:ae.drop k=x::ae.drop (k+1):=by
   rw[List.drop_eq_getElem_cons aO];congr 1;exact(List.getElem?_eq_some_iff.1 M).2
  have aDT:DX ae (k+1)=some x.1:=by simp[DX,M]
  rw[sl]at ij;subst Gn;simp[go_sem,f24,f25,f26,sP,aO,yi,nL,gu,Hf,Hg,eU,gs,mC ER,bQ];have bx:=(D.refl ak u).alloc (.cells (et x) 229);have dj:=cl u (.cells (et x) 229);obtain⟨vg,zv⟩:=az (u.1.size);rw[zv]at dj⊢;generalize u.alloc (.cells (et x) 229)=bw at*;have IP:=aJ.trans bx;have pu:=mH.ch bx λ_ _ e=>e;have oE:bw.cell? ⟨vg,0,none⟩=some (.int .u32 x.1):=(aG dj 0).trans (Vo x);refine cD [A 0,A 1,A 2,A 3,A 4,A 5,A 6,A 7,A 8,A 9,A 10,A 11,A 12,A 13,A 14,A 15,A 16,A 17,A 18,A 19,A 20,(21,some []),A 22,A 23] ?_;have xn:tF (DX ae k) (x::ae.drop (k+1))=(decide (x.1<64)&&(match DX ae k with|none=>true|some y=>decide (y<x.1))&&fy x.2&&tF (some x.1) (ae.drop (k+1))):=rfl;rw[xn]at ij;have Ht:=IP.drew;have pX:bw.drew.1[g+1]? =some (.cells (Y ad) 44 (0,0)):=(IP.obj ba id);have NB:=pu.ch (D.refl ak bw).drew λ_ _ e=>e;obtain⟨aDU,aDV,aDW,aDX,rH,am7⟩:=id NB.mx;have am8:bw.1[2]? =some (.cells aDU aDV aDW):=aDX;have am9:=IP.obj ba id;by_cases kq:x.1<64
  ·have DW:¬(64:Int)<=x.1:=by omega
   rw[decide_eq_true kq,Bool.true_and]at ij;have NC:DX ae k=none/\k=0\/∃y,0<k/\ae[k - 1]? =some y/\DX ae k=some y.1:=by
    by_cases bf:k=0
    ·exact .inl ⟨by unfold DX;rw[if_pos bf],bf⟩
    ·obtain⟨y,ar⟩:∃y,ae[k - 1]? =some y:=⟨_,List.getElem?_eq_getElem (by omega)⟩;exact .inr ⟨y,by omega,ar,by unfold DX;rw[if_neg bf,ar];rfl⟩
   rcases NC with⟨oB,kO⟩|⟨y,kO,ar,YH⟩
   case' inl=>
    rw[oB]at ij;have ij:tF none ae=(fy x.2&&tF (some x.1) (ae.drop (k+1))):=ij;have Dc:¬(0:Int)<k:=by omega
    simp[go_sem,oE,kq,DW,dj,eU,mD,kO,Dc]
   case' inr=>
    rw[YH]at ij;have ij:tF none ae=(decide (y.1<x.1)&&fy x.2&&tF (some x.1) (ae.drop (k+1))):=ij;have Dc:(0:Int)<k:=by omega
    have zF:=Gm y (List.mem_of_getElem? ar);obtain⟨cC,aJV,aA,SM,agz,NF,aDY,aDZ,aD0,aJW⟩:=ac5 bT Gm ar;injection aDY with xO _ _;injection xO with xO;injection xO with Ka YI;subst Ka YI;have aD1:=(aY.trans IP).obj aDZ id;have NE:IntKind.i64.wrap ((k:Int) - 1)=((k - 1:Nat):Int):=by
     unfold maxLen at GX;rw[IntKind.wrap_i64];omega
    have fg:bw.cell? ⟨b,nF+(k - 1)*42,none⟩=some (.int .u32 y.1):=by
     rw[aG aD1];have bf:=Vo y;rw[<-aD0,Array.getElem?_extract,if_pos (by omega)]at bf;exact bf
    have ND:k - 1<ae.length:=by omega
    by_cases xP:y.1<x.1
    case' neg=>
     have Hr:(x.1:Int)<=y.1:=by omega
     rw[decide_eq_false xP]at ij;simp[go_sem,oE,kq,DW,bV,kO,Dc,NE,ND,fg,xP,Hr,am8,rH,am7,bz,am9,dN,iz,bQ];exact dT (by rw[ij];simp) Ht
    have Hr:¬(x.1:Int)<=y.1:=by omega
    rw[decide_eq_true xP,Bool.true_and]at ij;simp[go_sem,oE,kq,DW,bV,kO,Dc,NE,ND,fg,xP,Hr,dj,eU,mD]
   all_goals
    refine(aD2 x.2 _ dh.p NB).mono ?_;rintro _ cd ⟨rfl,co⟩;have Gp:=Ht.trans co
    cases sD:fy x.2 with
    |false=>
     rw[sD]at ij;have wV:=NB.ch co λ_ _ e=>e;obtain⟨am_,am',ana,QB,Lf,VB⟩:=id wV.mx;have qC:=Gp.obj ba id;simp[go_sem,QB,Lf,VB,bz,qC,dN,iz,bQ];exact dT (by rw[ij];simp) Gp
    |true=>
     rw[sD]at ij;simp[go_sem,f26,eo];exact cH.intro (ae.length -(k+1)) (by omega) (bK _ _ _ ⟨k+1,rfl,by omega,by simp[f0],by simp[bh],by simp[bV],by simp[cN],by simp[bz],by simp[f24],by simp[f25],by simp,by rw[ij,aDT];rfl,Gp⟩)
  ·have DW:(64:Int)<=x.1:=by omega
   rw[decide_eq_false kq]at ij;simp[go_sem,oE,kq,DW,am8,rH,am7,bz,am9,dN,iz,bQ];exact dT (by rw[ij];simp) Ht
 ·obtain rfl:k=ae.length:=by omega
  have ij:tF none ae=true:=by rw[ij,List.drop_length];rfl
  simp[go_sem,f24,f25,f26,wr,cN,cU,cT];refine(WS p u ok mH).mono ?_;rintro _ ai ⟨rfl,aA⟩;have kr:=aJ.trans aA;have mX:=mH.ch aA λ_ _ e=>e;obtain⟨SM,agz,NF,aD3,nO,iu⟩:=id mX.mx;have jd:=kr.obj bj id;have i_:=kr.obj ba id
  cases Bd:r' p with
  |false=>
   simp[go_sem,bz,aD3,nO,iu,i_,dN,iz,bQ];exact dT (by rw[Bd];simp) kr
  |true=>
   have bd:pq rd nw bM obj s p ae=if ae=[]then(s,p,0)else if(cv rd s p).2.2≠0 then((cv rd s p).1,ad,(cv rd s p).2.2)else
     if(o_ rd nw bM obj ae.length (cv rd s p).1 (cv rd s p).2.1 ae).2.2≠0 then((o_ rd nw bM obj ae.length (cv rd s p).1 (cv rd s p).2.1 ae).1,ad,(o_ rd nw bM obj ae.length (cv rd s p).1 (cv rd s p).2.1 ae).2.2)else qZ nw bM (o_ rd nw bM obj ae.length (cv rd s p).1 (cv rd s p).2.1 ae).1 p (cv rd s p).2.1 (o_ rd nw bM obj ae.length (cv rd s p).1 (cv rd s p).2.1 ae).2.1 2 obj 0:=by
    unfold pq;rw[ij,Bd];rfl
   have I:bc s ai (ax O W1 ai):=(aN _).ex ((aN _).ch H kr λ_ _ e=>e) (λk r=>.inl r) (ax.lt eG kr.size);by_cases KA:ae=[]
   ·rw[if_pos KA]at bd;have nY:ae.length=0:=by rw[KA];rfl
    simp[go_sem,bV,cI,nY,bz,cN,jd,i_,cU,cT,dN,bQ];exact bL (x:=(s,p,0)) bd ok I (kr.mono λ_ _ e=>e.elim)
   ·rw[if_neg KA]at bd;have nY:ae.length≠0:=λe=>KA (List.eq_nil_of_length_eq_zero e);have aD4:((ae.length:Int)==0)=false:=beq_false_of_ne (by omega);have aE:=(D.refl ak ai).alloc (.cells #[.iface dB ca,.int .u16 obj] 362);have Tb:=cl ai (.cells #[.iface dB ca,.int .u16 obj] 362);have anb:=aE.obj jd id;have aD5:=aE.obj i_ id;have vD:=kr.trans aE;have ka:=mX.ch aE λ_ _ e=>e;have af:=(aN _).ch H vD λ_ _ e=>e;have gL:(ai.alloc (.cells #[.iface dB ca,.int .u16 obj] 362)).1.size=ai.1.size+1:=by simp
    have cw:=kr.size;simp[go_sem,f0,bh,bV,cI,nY,aD4,KA,cN,jd,anb,cU,cT];obtain⟨ma,agG⟩:=az (ai.1.size);rw[agG]at Tb gL⊢;generalize ai.alloc (.cells #[.iface dB ca,.int .u16 obj] 362)=aC at*;have FN:=AK aw.rd s p;have aD6:16<=m s:=Nat.le_trans (by omega) aH;refine(RH aw.rd aD6 aN af p ok ka aF).mono ?_;rintro _ be ⟨rfl,aU,bv⟩;have ez:=Ex rd s p;obtain⟨⟨hv,wX,cW⟩,aD7⟩:∃bl,cv rd s p=bl:=⟨_,rfl⟩;rw[aD7]at ez aU bd FN⊢;simp only at ez aU bd FN⊢;have kG:=kh ez;have mW:=qp ez;have aCy:=bv.size;have oQ:=bv.obj anb (eO _ (by omega));have lU:=bv.obj aD5 (eO _ (by omega));have YV:=bv.obj Tb (eO _ (by omega));have ux:=aF.ck ka bv ⟨_,aU⟩ λ_ _ e=>e;have bx:=(D.refl ak be).alloc (.cells (bZ wX) 339);have dj:=cl be (.cells (bZ wX) 339);have j_:(be.alloc (.cells (bZ wX) 339)).1.size=be.1.size+1:=by simp
    simp[go_sem,rW,rX,kG,mW,kh pL,bQ];obtain⟨LJ,UA⟩:=az (be.1.size);rw[UA]at dj j_⊢;generalize be.alloc (.cells (bZ wX) 339)=bw at*;have CY:=bx.obj oQ id;have qv:=bx.obj lU id;have aD8:=bx.obj YV id;have pu:=ux.ch bx λ_ _ e=>e;have aif:=bx.size;have bC:bc hv bw (ax O W1 bw):=(aN _).ex ((aN _).ch aU bx λ_ _ e=>e) (λk r=>r.imp id λe=>⟨by omega,by omega⟩) (ax.lt eG (by omega));have lB:D O W1 bw:=((vD.mono λ_ _ e=>e.elim).trans bv).trans (bx.mono λ_ _ e=>e.elim);obtain⟨anc,ane,anf,HI,IN,LH⟩:=id pu.mx;by_cases aV:cW=0
    ·subst aV;rw[if_neg (by simp)]at bd;have co:=(D.refl ak bw).alloc (.cells (bZ wX) 339);have gx:=cl bw (.cells (bZ wX) 339);have oh:(bw.alloc (.cells (bZ wX) 339)).1.size=bw.1.size+1:=by simp
     simp[go_sem,dj,kG,mW,rW,rX,kh pL,bQ];obtain⟨eu,nb⟩:=az (bw.1.size);rw[nb]at gx oh⊢;generalize bw.alloc (.cells (bZ wX) 339)=cd at*;have Bx:=co.obj CY id;have qC:=co.obj qv id;have aD9:=co.obj aD8 id;have aD_:=co.obj dj id;have wV:=pu.ch co λ_ _ e=>e;have asa:=co.size;obtain⟨nu,xS⟩:=az (ax O aC be);have cG:bc hv cd nu:=by rw[<-xS];exact(aN _).ch ((aN _).ch aU bx λ_ _ e=>e) co λ_ _ e=>e
     have oD:=(aN _).lt cG;have LK:¬nu eu:=λe=>by rw[<-xS]at e;exact e.elim (eO _ (by omega)) λe=>by omega
     have ac6:=aD' ae none ij;refine du (λJ f u=>∃(i iF:Nat) (s':ay) (fi:List Pt),J=ae.length - i/\i<=ae.length/\ae.length - i<=iF/\f 0=.iface dB ca/\f 3=v/\f 5=.pointer (some ⟨g,0,none⟩)/\f 8=.pointer (some ⟨g+1,0,none⟩)/\f 12=.pointer (some ⟨ma,0,none⟩)/\f 13=.pointer (some ⟨LJ,0,none⟩)/\f 15=.pointer (some ⟨eu,0,none⟩)/\f 16=.int .i64 i
       /\hE fi/\o_ rd nw bM obj ae.length hv wX ae=o_ rd nw bM obj iF s' fi (ae.drop i)/\u.1[eu]? =some (.cells (bZ fi) 339 (0,0))/\bc s' u (ax nu cd u)/\D (λk=>nu k\/k=eu) cd u/\16*(4*(ae.length - i)+2)<=m s') ae.length
      ⟨0,ae.length,hv,wX,rfl,Nat.zero_le _,by omega,by simp[f0],by simp[bV],by simp[cN],by simp[bz],by simp,by simp,by simp,by simp,ez,rfl,gx,(aN _).ex cG (λk r=>.inl r) (ax.lt oD (Nat.le_refl _)),D.refl _ _,by clear cI ac6;omega⟩ ?_
     clear bK;rintro cJ bK _ f u ⟨i,iF,s',fi,rfl,aa,tn,f0,bV,cN,bz,dA,eW,f15,zC,nW,Ar,qR,an,aJ,uH⟩;have oi:∀j,g<=j->j<aC.1.size->¬nu j:=λj H I e=>by rw[<-xS]at e;exact e.elim (eO _ H) λe=>by omega
     have ac7:¬nu LJ:=λe=>by rw[<-xS]at e;exact e.elim (eO _ (by omega)) λe=>by omega
     have ac8:∀j,g<=j->j<aC.1.size->¬(nu j\/j=eu):=λj H I e=>e.elim (oi j H I) λe=>by omega
     have wr:=aJ.obj Bx (ac8 _ (by omega) (by omega));have wj:=aJ.obj qC (ac8 _ (by omega) (by omega));have VC:=aJ.obj aD9 (ac8 _ (by omega) (by omega));have aEa:=aJ.obj aD_ λe=>e.elim ac7 λe=>by omega
     have LL:ik bc nu:=by rw[<-xS];exact aF.cq ka
     have qc:ik bc (ax nu cd u):=LL.cq wV;have mH:=LL.ck wV aJ ⟨_,an⟩ λk r e=>e.elim id λe=>by
      have hl:=pu.lt k r;have e:k=eu:=e;rw[e,nb]at hl;exact(Nat.lt_irrefl _ hl).elim
     have A':=aJ.size;have oG:=kh nW;have LM:=qp nW;have zJ:∀{N:World} {y:ay×Pt×Int},pq rd nw bM obj s p ae=y->bN y.2.1->bc y.1 N (ax nu cd N)->D (λk=>nu k\/k=eu) cd N->aZ (.tuple #[.agg (Y y.2.1),.int .i64 y.2.2]) (N.setRow (g+1) (Y y.2.1)):=λ{N y} e zF a c=>by
      have EZ:=c.size;refine bL e zF ((aN _).ex a (λk r=> ?_) (ax.lt eG (by omega))) ((lB.trans (co.mono λ_ _ e=>e.elim)).bJ c λk r e=> ?_)
      ·rcases r with r|r
       ·rw[<-xS]at r;exact r.imp id λe=>⟨by omega,by omega⟩
       ·exact .inr ⟨by omega,r.2⟩
      ·rcases e with e|e
       ·rw[<-xS]at e;exact e.elim id λe=>by omega
       ·omega
     by_cases aO:i<ae.length
     ·have sP:(i:Int)<ae.length:=by omega
      obtain⟨ag,c,Gn,aJX,GX,ew⟩:=id bT;obtain⟨b,nF,hm,ia,ap⟩:=ew (by omega);subst hm;have V:¬O b:=(hS b (by rw[Gn];rfl)).1;have ac9:¬(nu b\/b=eu):=λe=>e.elim (λe=>by rw[<-xS]at e;exact e.elim V λe=>by omega) λe=>by omega
      have kz:∀j y,ae[j]? =some y->u.cell? ⟨b,nF+j*42,none⟩=some (.int .u32 y.1):=λj y ar=>by
       have bf:=ap j y 0 _ ar rfl;exact aJ.cell (co.cell (lB.cell (aY.cell bf id) V) id) ac9
      obtain⟨x,M⟩:∃x,ae[i]? =some x:=⟨_,List.getElem?_eq_getElem aO⟩;have aJY:=ac6 x (List.mem_of_getElem? M);have zS:=kz i x M;obtain⟨gG,TT⟩:=az (x.1 / 8);have VD:gG<8:=by omega
      have aq:∀y:Nat,((y:Int)).tdiv 8=((y / 8:Nat):Int):=λy=>by rfl
      have OQ:((x.1:Int)).tdiv 8=(gG:Int):=by rw[aq,TT]
      have ang:IntKind.u32.wrap (gG:Int)=gG:=by simp[IntKind.wrap,IntKind.bits,IntKind.signed];omega
      subst Gn;simp[go_sem,bV,zC,cI,sP,aO,zS,OQ,ang];refine du (λJ f' cS=>∃j,J=ae.length - j/\i<=j/\j<=ae.length/\f' 0=.iface dB ca/\f' 3=.slice (some ⟨b,nF,none⟩) ae.length c/\f' 5=.pointer (some ⟨g,0,none⟩)/\f' 8=.pointer (some ⟨g+1,0,none⟩)/\f' 12=.pointer (some ⟨ma,0,none⟩)/\f' 13=.pointer (some ⟨LJ,0,none⟩)/\f' 15=.pointer (some ⟨eu,0,none⟩)/\f' 16=.int .i64 i/\f' 17=.int .u32 gG/\f' 18=.int .i64 j/\cS=u/\∀m y,i<=m->m<j->ae[m]? =some y->y.1 / 8=gG) (ae.length - i)
       ⟨i,rfl,Nat.le_refl _,aa,by simp[f0],by simp[bV],by simp[cN],by simp[bz],by simp[dA],by simp[eW],by simp[f15],by simp[zC],by simp,by simp[zC],rfl,λm y H I=>absurd I (by omega)⟩ ?_
      clear f0 bV cN bz dA eW f15 zC;rintro CO pV _ f cS ⟨j,rfl,hF,i',f0,bV,cN,bz,dA,eW,f15,zC,lz,sm,rfl,fq⟩;by_cases iD:∃y,ae[j]? =some y/\y.1 / 8=gG
      ·obtain⟨y,ar,VE⟩:=iD;have Qd:j<ae.length:=(List.getElem?_eq_some_iff.1 ar).1;have ac_:(j:Int)<ae.length:=by omega
       have ac':=kz j y ar;have kJ:IntKind.i64.wrap ((j:Int)+1)=((j+1:Nat):Int):=by
        unfold maxLen at GX;rw[IntKind.wrap_i64];omega
       have Ur:((y.1:Int)).tdiv 8=(gG:Int):=by rw[aq,VE]
       simp[go_sem,bV,lz,sm,cI,Qd,ac_,ac',Ur,ang,kJ];exact cH.intro (ae.length -(j+1)) (by omega) (pV _ _ _ ⟨j+1,rfl,by omega,by omega,by simp[f0],by simp[bV],by simp[cN],by simp[bz],by simp[dA],by simp[eW],by simp[f15],by simp[zC],by simp[lz],by simp,rfl,λm z H I hz=>by
        by_cases aJZ:m=j
        ·grind
        ·exact fq m z H (by omega) hz⟩)
      ·have nL:(j=ae.length)\/∃y,ae[j]? =some y/\y.1 / 8≠gG:=by
        by_cases VF:j=ae.length
        ·exact .inl VF
        ·obtain⟨y,ar⟩:∃y,ae[j]? =some y:=⟨_,List.getElem?_eq_getElem (by omega)⟩;exact .inr ⟨y,ar,λe=>iD ⟨y,ar,e⟩⟩
       have QC:i<j:=by
        rcases Nat.lt_or_ge i j with h|h
        ·exact h
        ·exact absurd ⟨x,by grind,TT⟩ iD
       rcases nL with VF|⟨y,ar,VE⟩
       case' inl=>
        simp[go_sem,bV,lz,sm,cI,VF]
       case' inr=>
        have Qd:j<ae.length:=(List.getElem?_eq_some_iff.1 ar).1;have ac_:(j:Int)<ae.length:=by omega
        have ac':=kz j y ar;obtain⟨qF,SG⟩:=az (y.1 / 8);have aJ0:=ac6 y (List.mem_of_getElem? ar);have Ur:((y.1:Int)).tdiv 8=(qF:Int):=by rw[aq,SG]
        have aEb:IntKind.u32.wrap (qF:Int)=qF:=by simp[IntKind.wrap,IntKind.bits,IntKind.signed];omega
        have da:((qF:Int)==(gG:Int))=false:=beq_false_of_ne (by omega);have Li:qF≠gG:=by omega
        simp[go_sem,bV,lz,sm,cI,Qd,ac_,ac',Ur,aEb,da,Li]
       all_goals
        have Kf:=aEc b nF ae.length c i j QC (by omega);have eT:∀q,(Value.slice (some ⟨b,nF,none⟩) ae.length c).ownBlock=some q->q=b:=λq e=>by simp[Value.ownBlock]at e;exact e.symm
        have Ta:fA cS (.slice (some ⟨b,nF,none⟩) ae.length c) qA 42 ae:=by
         have lm:=bT.ch aY λ_ _ _ e=>e;have jD:=fA.ch (S:=O) lm lB λq _ e=>by rw[eT q e];exact V
         have nT:=jD.ch co λ_ _ _ e=>e;exact fA.ch (S:=λk=>nu k\/k=eu) nT aJ λq _ e=>by rw[eT q e];exact ac9
        have anh:=fA.part Ta i j hF i';have aEd:=aEe gG ae i j hF i' fq (by first|exact .inl VF|exact .inr ⟨y,ar,by rw[SG];exact Li⟩);obtain⟨gz,nN⟩:∃q,fi[gG]? =some q:=⟨_,List.getElem?_eq_getElem (by rw[nW.len];exact VD)⟩;have Gq:=nW.all _ (List.mem_of_getElem? nN);have nJ:=Wy nW nN;have xD:fi.getD gG ad=gz:=by rw[List.getD_eq_getElem?_getD,nN];rfl
        have VG:(gG:Int)<8:=by omega
        have ani:gG*41+41<=328:=by omega
        have IQ:cS.cell? ⟨ma,0,none⟩=some (.iface dB ca):=aG VC 0;have vx:cS.cell? ⟨ma,1,none⟩=some (.int .u16 obj):=aG VC 1;refine aEf [[A 0,A 1,A 2,A 3,A 4,A 5,A 6,A 7,A 8,A 9,(10,some []),A 11,A 12,A 13,(14,some [11,12,13]),(15,some [13]),A 16],[A 0,A 1,A 2,A 3,A 4,A 5,A 6,A 7,A 8,A 9,(14,some [0,1,2,3,4,5,6,7,8,9]),(10,some []),A 11,A 12,A 13,(15,some [13]),A 16]] (by kernel_rfl) (by kernel_rfl) ?_;intro nn th;simp only[List.mem_cons,List.not_mem_nil,or_false]at th;obtain⟨QD,aEg⟩:∃QD,iF=QD+1:=Nat.exists_eq_succ_of_ne_zero λe=>by
         grind
        have ada:ae.drop i=x::ae.drop (i+1):=by
         rw[List.drop_eq_getElem_cons aO];congr 1;exact(List.getElem?_eq_some_iff.1 M).2
        have iw:((ae.take j).drop i).length=j - i:=by simp;omega
        have yw:o_ rd nw bM obj ae.length hv wX ae=if(nR rd nw bM obj s' gz gG ((ae.take j).drop i)).2.2≠0 then((nR rd nw bM obj s' gz gG ((ae.take j).drop i)).1,fi,(nR rd nw bM obj s' gz gG ((ae.take j).drop i)).2.2)else o_ rd nw bM obj QD (nR rd nw bM obj s' gz gG ((ae.take j).drop i)).1 (fi.set gG (nR rd nw bM obj s' gz gG ((ae.take j).drop i)).2.1) (ae.drop j):=by
         have anj:=aEd;rw[ada]at anj;rw[Ar,aEg,ada,o_];simp only[TT];rw[anj,xD,iw,<-ada,List.drop_drop,show i+(j - i)=j by omega]
        have aEh:=(aN _).ch an (D.refl ak cS).drew λ_ _ e=>e;have ank:∀a∈(ae.take j).drop i,mF a:=λa am=>Gm a (List.mem_of_mem_take (List.mem_of_mem_drop am));have QE:∀q,(Value.slice (some ⟨b,nF+i*42,none⟩) (j - i) (j - i)).ownBlock=some q->¬ax nu cd cS q/\q<cS.1.size:=λq aq=>by
         simp[Value.ownBlock]at aq;subst aq;exact⟨λe=>e.elim (λe=>ac9 (.inl e)) λe=>by omega,by omega⟩
        have sl:∀{ct:Type} {w:World} {v:Value} {g':ct->List Value} {k:Nat} {l:List ct},fA w v g' k l->fA w.drew v g' k l:=λh=>h;rcases th with rfl|rfl
        ·simp[go_sem,bV,dA,f15,zC,lz,sm,IQ,vx,qR,oG,nJ,VD,VG,ani,Kf];have aJ1:((ae.take j).drop i).length=j - i:=iw;have DY:=ac3 aw s' gz obj gG ((ae.take j).drop i);refine(anl aw aN aEh gz Gq obj gG _ ((ae.take j).drop i) (by grind) (sl anh) ank QE (mH.ch (D.refl ak cS).drew λ_ _ e=>e) qc vn (by omega)).mono ?_;rintro _ cF ⟨rfl,pG,eD,dz⟩;obtain⟨⟨hn,lk,hi⟩,QF⟩:∃bl,nR rd nw bM obj s' gz gG ((ae.take j).drop i)=bl:=⟨_,rfl⟩;rw[QF]at pG eD yw DY⊢;simp only at pG eD yw DY⊢;rw[iw]at DY;have adb:=(am5 (b:=m hn) QC i' uH).2 DY;have Gr:=bW pG;have IR:=dW pG;have dz:D (ax nu cd cS) cS cF:=D.iy dz;have Ti:=dz.size;have ev:=(D.refl ak cF).alloc (.cells (Y lk) 44);have oj:=cl cF (.cells (Y lk) 44);have xI:=ev.obj (dz.obj wj λe=>e.elim (oi _ (by omega) (by omega)) λe=>by omega) id;have Gs:=ev.obj (dz.obj qR λe=>e.elim LK λe=>by omega) id;have VH:=(qc.ck mH dz ⟨_,eD⟩ λ_ _ e=>e).ch ev λ_ _ e=>e;obtain⟨aEi,aEj,aEk,adc,LN,Jg⟩:=id VH.mx;have aEl:=ev.size;simp[go_sem,gm,gn,dN,Gr,IR,bQ];obtain⟨fB,qI⟩:=az (cF.1.size);rw[qI]at oj⊢;have eb:bc hn (cF.alloc (.cells (Y lk) 44)) (ax nu cd cF):=(aN _).ch ((aN _).ex eD (λk r=>acW A' Ti r) (ax.lt oD (by omega))) ev λ_ _ e=>e;have np:D (λk=>nu k\/k=eu) cd (cF.alloc (.cells (Y lk) 44)):=(aJ.bJ dz λk r e=>.inl (e.resolve_right (by omega))).trans (ev.mono λ_ _ e=>e.elim);generalize cF.alloc (.cells (Y lk) 44)=eA at*;have DR:bc hn eA (ax nu cd eA):=(aN _).ex eb (λk r=>r.imp id λe=>⟨e.1,by omega⟩) (ax.lt oD (by omega));by_cases px:hi=0
         ·subst px;rw[if_neg (by simp)]at yw;simp[go_sem,f15,lz,sm,Gs,oG,LM,oj,Gr,IR,show IntKind.i64.wrap (gG:Int)=gG by rw[IntKind.wrap_i64];omega];refine(WA fi gG lk eA nW pG).mono ?_;rintro _ dC ⟨rfl,dX⟩;rw[if_pos ⟨by omega,VG⟩];have QG:hE (fi.set gG lk):=nW.set _ pG;have ade:=kh QG;have QH:=dX.obj Gs id;have qE:=dX.size;simp[go_sem,f15,sm,QH,oG,ade,bQ];have lX:D (aj eu) dC (dC.setRow eu (bZ (fi.set gG lk))):=(D.refl (aj eu) dC).setRow (.inl rfl) _;have Yt:=lX.size;have jn:bc hn (dC.setRow eu (bZ (fi.set gG lk))) (ax nu cd (dC.setRow eu (bZ (fi.set gG lk)))):=(aN _).ex ((aN _).ch ((aN _).ch DR dX λ_ _ e=>e) lX λk r e=>by simp only[aj]at e;subst e;exact r.elim LK λe=>by omega) (λk r=>r.imp id λe=>⟨e.1,by omega⟩) (ax.lt oD (by omega));exact cH.intro (ae.length - j) (Nat.sub_lt_sub_left aO QC) (bK _ _ _ ⟨j,QD,hn,fi.set gG lk,rfl,i',by
           grind,by simp[f0],by simp[bV],by simp[cN],by simp[bz],by simp[dA],by simp[eW],by simp[f15],by simp,QG,yw,by rw[gk,QH];rfl,jn,(np.trans (dX.mono λ_ _ e=>e.elim)).trans (lX.mono λk _ e=>by simp only[aj]at e;exact .inr e),adb⟩)
         ·rw[if_pos px]at yw;rw[yw]at bd;simp only at bd;rw[if_pos px]at bd;have QI:(hi==0)=false:=beq_false_of_ne px;simp[go_sem,px,QI,bne,adc,LN,Jg,bz,xI,dN,iz,bQ];exact zJ (y:=(hn,ad,hi)) bd cE DR np
        ·have aI:=(D.refl ak cS).alloc (.cells (Y ad) 44);have Kg:=cl cS (.cells (Y ad) 44);have ahB:(cS.alloc (.cells (Y ad) 44)).1.size=cS.1.size+1:=by simp
         have anm:=aI.obj qR id;have aEm:=aI.obj wj id;have aEn:=aI.cell IQ id;have aEo:=aI.cell vx id;have aEp:=(mH.ch aI λ_ _ e=>e).ch (D.refl ak _).drew λ_ _ e=>e;have sZ:=(aN _).ch ((aN _).ch an aI λ_ _ e=>e) (D.refl ak _).drew λ_ _ e=>e;have aEq:=sl (anh.ch aI λ_ _ _ e=>e);simp[go_sem,bV,dA,f15,zC,lz,sm,IQ,vx,qR,oG,nJ,VD,VG,ani,Kf,gm,gn,aEn,aEo,anm];have aEr:cS.1.size<=(cS.alloc (.cells (Y ad) 44)).drew.1.size:=aI.drew.size;have DY:=ac3 aw s' gz obj gG ((ae.take j).drop i);refine(anl aw aN sZ gz Gq obj gG _ ((ae.take j).drop i) (by grind) aEq ank (λq aq=>⟨(QE q aq).1,Nat.lt_of_lt_of_le (QE q aq).2 aEr⟩) aEp qc vn (Nat.lt_of_lt_of_le VD (by decide))).mono ?_;rintro _ cF ⟨rfl,pG,eD,dz⟩;obtain⟨⟨hn,lk,hi⟩,QF⟩:∃bl,nR rd nw bM obj s' gz gG ((ae.take j).drop i)=bl:=⟨_,rfl⟩;rw[QF]at pG eD yw DY⊢;simp only at pG eD yw DY⊢;rw[iw]at DY;have adb:=(am5 (b:=m hn) QC i' uH).2 DY;have Gr:=bW pG;have IR:=dW pG;have dz:D (ax nu cd cS) (cS.alloc (.cells (Y ad) 44)) cF:=D.iy dz;have Ti:=dz.size;have eD:bc hn cF (ax (ax nu cd cS) (cS.alloc (.cells (Y ad) 44)) cF):=eD;obtain⟨fB,qI⟩:=az (cS.1.size);rw[qI]at Kg ahB⊢;have zz:∀k,ax nu cd cS k->k<fB:=λk r=>by rw[<-qI];exact(aN _).lt an k r
         have Gj:=dz.obj Kg λe=>Nat.lt_irrefl _ (zz _ e);have VI:=dz.obj anm λe=>e.elim LK λe=>by omega
         have Zt:=dz.obj aEm λe=>e.elim (oi _ (by omega) (by omega)) λe=>by omega
         have adf:=qc.ck (mH.ch aI λ_ _ e=>e) dz ⟨_,eD⟩ λ_ _ e=>e;simp[go_sem,Gj,dN,Gr,bQ];have ev:D (aj fB) cF (cF.setRow fB (Y lk)):=(D.refl (aj fB) cF).setRow (.inl rfl) _;have oj:(cF.setRow fB (Y lk)).1[fB]? =some (.cells (Y lk) 44 (0,0)):=by rw[gk,Gj];rfl
         have xI:=ev.obj Zt λe=>by simp only[aj]at e;omega
         have Gs:=ev.obj VI λe=>by simp only[aj]at e;omega
         have VH:=adf.ch ev λk r e=>by
          have hl:=mH.lt k r;simp only[aj]at e;omega
         obtain⟨aEi,aEj,aEk,adc,LN,Jg⟩:=id VH.mx;have aEl:=ev.size;have DR:bc hn (cF.setRow fB (Y lk)) (ax nu cd (cF.setRow fB (Y lk))):=(aN _).ex ((aN _).ch eD ev λk r e=>by
          simp only[aj]at e;rcases r with r|r
          ·have:=zz k r;omega
          ·omega) (λk r=>by
           rcases r with(r|r)|r
           ·exact .inl r
           ·exact .inr ⟨r.1,by omega⟩
           ·exact .inr ⟨by omega,by omega⟩) (ax.lt oD (by omega))
         have np:D (λk=>nu k\/k=eu) cd (cF.setRow fB (Y lk)):=((aJ.trans (aI.mono λ_ _ e=>e.elim)).bJ dz λk r e=>.inl (e.resolve_right (by omega))).bJ ev λk r e=>by simp only[aj]at e;omega
         generalize cF.setRow fB (Y lk)=eA at*;by_cases px:hi=0
         ·subst px;rw[if_neg (by simp)]at yw;simp[go_sem,f15,lz,sm,Gs,oG,LM,oj,Gr,IR,show IntKind.i64.wrap (gG:Int)=gG by rw[IntKind.wrap_i64];omega];refine(WA fi gG lk eA nW pG).mono ?_;rintro _ dC ⟨rfl,dX⟩;rw[if_pos ⟨by omega,VG⟩];have QG:hE (fi.set gG lk):=nW.set _ pG;have ade:=kh QG;have QH:=dX.obj Gs id;have qE:=dX.size;simp[go_sem,f15,sm,QH,oG,ade,bQ];have lX:D (aj eu) dC (dC.setRow eu (bZ (fi.set gG lk))):=(D.refl (aj eu) dC).setRow (.inl rfl) _;have Yt:=lX.size;have jn:bc hn (dC.setRow eu (bZ (fi.set gG lk))) (ax nu cd (dC.setRow eu (bZ (fi.set gG lk)))):=(aN _).ex ((aN _).ch ((aN _).ch DR dX λ_ _ e=>e) lX λk r e=>by simp only[aj]at e;subst e;exact r.elim LK λe=>by omega) (λk r=>r.imp id λe=>⟨e.1,by omega⟩) (ax.lt oD (by omega));exact cH.intro (ae.length - j) (Nat.sub_lt_sub_left aO QC) (bK _ _ _ ⟨j,QD,hn,fi.set gG lk,rfl,i',by
           grind,by simp[f0],by simp[bV],by simp[cN],by simp[bz],by simp[dA],by simp[eW],by simp[f15],by simp,QG,yw,by rw[gk,QH];rfl,jn,(np.trans (dX.mono λ_ _ e=>e.elim)).trans (lX.mono λk _ e=>by simp only[aj]at e;exact .inr e),adb⟩)
         ·rw[if_pos px]at yw;rw[yw]at bd;simp only at bd;rw[if_pos px]at bd;have QI:(hi==0)=false:=beq_false_of_ne px;simp[go_sem,px,QI,bne,adc,LN,Jg,bz,xI,dN,iz,bQ];exact zJ (y:=(hn,ad,hi)) bd cE DR np
     ·obtain rfl:i=ae.length:=by omega
      have aEs:o_ rd nw bM obj ae.length hv wX ae=(s',fi,0):=by
       rw[Ar,List.drop_length]
       cases iF<;>rfl
      rw[aEs,if_neg (by simp)]at bd;have IQ:u.cell? ⟨ma,0,none⟩=some (.iface dB ca):=aG VC 0;have vx:u.cell? ⟨ma,1,none⟩=some (.int .u16 obj):=aG VC 1;simp[go_sem,bV,cN,bz,dA,eW,f15,zC,cI,IQ,vx,wr,cU,cT,aEa,kG,mW,qR,oG,LM];refine(am4 aw (Nat.le_trans (by omega) uH) aN an p ok wX fi ez nW 2 obj 0 mH qc (by decide) vn (by decide)).mono ?_;rintro _ dC ⟨rfl,DZ,hl,dX⟩;simp only at bd;rw[<-bd]at hl DZ⊢;have qE:=dX.size;have JV:=dX.obj wj λe=>e.elim (oi _ (by omega) (by omega)) λe=>by omega
      simp[go_sem,bz,JV,dN,bW DZ,dW DZ,bQ];exact zJ rfl DZ ((aN _).ex hl (λk r=>acW A' qE r) (ax.lt oD (by omega))) (aJ.bJ dX λk r e=>e.elim .inl λe=>by omega)
    ·rw[if_pos aV]at bd;have mY:(cW==0)=false:=beq_false_of_ne aV;simp[go_sem,aV,mY,bne,HI,IN,LH,bz,qv,dN,iz,bQ];exact bL (x:=(hv,ad,cW)) bd cE bC lB
end
end Go.Proofs.YtoohkhcpboldjaaGreatDoor
