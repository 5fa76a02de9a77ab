/- Trees: Set, of any sink. Conditions: the variables ptr.wide and tree.hole hold what the text lays. -/
import Derived.Test.YtoohkhcpboldjaaGreatDoorSlK
set_option maxRecDepth 100000
set_option maxHeartbeats 8000000
set_option linter.unusedSimpArgs false
set_option linter.unusedVariables false
namespace Go.Proofs.YtoohkhcpboldjaaGreatDoor
open Go.RowKit Go.Kin Tryz
section
variable {aF:Type}{ba:aF->jf}{m:aF->Nat}{rd:Src aF}{nw:aF->Pt->List UInt8->aF×Pt×Int}{ca:aF->Pt->aF}{dy:TypeId}{ce:N}{s:aF}{w w':M}{O:Nat->Prop}
def Il(L:List (Nat×Pt))(k:Nat):Option Nat:=if k=0 then none else(L[k - 1]?).map (·.1)
theorem au7{n i j a b:Nat}(iT:i<j)(I:j<=n)(h:16*(4*(n - i)+2)<=a):16*((j - i)+3)<=a/\(a<=b+16*((j - i)+3)->16*(4*(n - j)+2)<=b):=by omega
theorem au8{sv:N}(aA:xW ba m rd nw ca sv)(obj:Nat):∀(eX:Nat) (s:aF) (n:List Pt) (l:List (Nat×Pt)),m s<=m (qH rd nw ca obj eX s n l).1+16*(4*l.length)
 |0,s,n,l=>by unfold qH;simp
 |eX+1,s,n,[]=>by unfold qH;simp
 |eX+1,s,n,x::l=>by
  have bi:ks (x.1 / 8) (x::l)=x::ks (x.1 / 8) l:=by
   unfold ks;rw[XF];simp
  have J:=aij aA s (n.getD (x.1 / 8) ah) obj (x.1 / 8) (ks (x.1 / 8) (x::l));have ag:(ks (x.1 / 8) (x::l)).length<=(x::l).length:=by unfold ks;exact List.Sublist.length_le (ac9 _)
  have aP:1<=(ks (x.1 / 8) (x::l)).length:=by rw[bi];simp
  unfold qH;simp only;split
  ·simp only;omega
  ·have T:=au8 aA obj eX (px rd nw ca obj s (n.getD (x.1 / 8) ah) (x.1 / 8) (ks (x.1 / 8) (x::l))).1 (n.set (x.1 / 8) (px rd nw ca obj s (n.getD (x.1 / 8) ah) (x.1 / 8) (ks (x.1 / 8) (x::l))).2.1) ((x::l).drop (ks (x.1 / 8) (x::l)).length)
   grind
theorem aoC{sv:N}(aA:xW ba m rd nw ca sv)(obj:Nat)(s:aF)(bO:Pt)(l:List (Nat×Pt)):m s<=m (rc rd nw ca obj s bO l).1+16*(4*l.length+3):=by
 have J:=ED aA.rd s bO;have T:=au8 aA obj l.length (cM rd s bO).1 (cM rd s bO).2.1 l;have ag:=asM aA (qH rd nw ca obj l.length (cM rd s bO).1 (cM rd s bO).2.1 l).1 bO (cM rd s bO).2.1 (qH rd nw ca obj l.length (cM rd s bO).1 (cM rd s bO).2.1 l).2.1 2 obj 0;unfold rc
 grind
theorem anW(aA:xW ba m rd nw ca (.iface dy ce))(aT:∀s,kB (ba s))(h:ba s w O)(p:Pt)(ok:cc p)(obj:Nat)(v:N)(L:List (Nat×Pt))(aC:16*(4*L.length+3)<=m s)(b_:fC w v sx 42 L)(KY:∀a∈L,nU a)(g_:∀j,v.ownBlock=some j->¬O j/\j<w.1.size)(cv:hI w)(aH:iO ba O)(sJ:obj<65536):
  bc prog 176 #[.iface dy ce,.agg (ae p),.int .u16 obj,v] w λv' w'=>v'=.tuple #[.agg (ae (rc rd nw ca obj s p L).2.1),aa (rc rd nw ca obj s p L).2.2]/\cc (rc rd nw ca obj s p L).2.1/\ba (rc rd nw ca obj s p L).1 w' (aE O w w')/\H O w w':=by
 refine bz func176 ntmps176 λbk af=> ?_;have de:=cd ok;have da:=ef ok;have ee:=cd cH;have ic:=ef cH;have ga:=(aT s).lt h;have ff:∀j,w.1.size<=j->¬O j:=λj I e=>by have:=ga j e;omega
 have aU:=((H.refl al w).alloc (.cells (ae p) 44)).alloc (.cells (ae ah) 44);have bu:=oF w (.cells (ae p) 44) (.cells (ae ah) 44);have bt:=nM w (.cells (ae p) 44) (.cells (ae ah) 44);have gZ:((w.alloc (.cells (ae p) 44)).alloc (.cells (ae ah) 44)).1.size=w.1.size+2:=by simp
 have cu:=b_.len underlying223 3;simp[go_sem,de,da,gO,gP,cu];obtain⟨g,lp⟩:=aD (w.1.size);rw[lp]at bu bt gZ ff⊢;generalize(w.alloc (.cells (ae p) 44)).alloc (.cells (ae ah) 44)=W1 at*;have fq:=cv.ch aU λ_ _ e=>e;have J:=(aT s).ch h aU λ_ _ e=>e;have fb:∀k,O k->k<W1.1.size:=λk r=>by have:=ga k r;omega
 have bU:∀{Y:M} {x:aF×Pt×Int},rc rd nw ca obj s p L=x->cc x.2.1->ba x.1 Y (aE O W1 Y)->H O W1 Y->bk (.tuple #[.agg (ae x.2.1),aa x.2.2]) (Y.setRow (g+1) (ae x.2.1)):=λ{Y x} e cG a c=>by
  subst e;have JP:=c.size;have dA:H (aj (g+1)) Y (Y.setRow (g+1) (ae (rc rd nw ca obj s p L).2.1)):=(H.refl (aj (g+1)) Y).setRow (.inl rfl) _;have Cz:=dA.size;refine af _ _ ⟨rfl,cG,(aT _).eK ((aT _).ch a dA λk r e=>by simp only[aj]at e;subst e;exact r.elim (ff _ (by omega)) λe=>by omega) (λk r=>r.imp id λe=>⟨by omega,by omega⟩) (aE.lt ga (by omega)),?_⟩;exact((aU.mono λ_ _ e=>e.elim).trans c).bZ dA λk r e=>by simp only[aj]at e;omega
 clear af;have dN:∀{Y:M},(vW none L&&uu p)=false->H al W1 Y->bk (.tuple #[.agg (ae ah),aa 1]) (Y.setRow (g+1) (ae ah)):=λ{Y} e c=>
  bU (x:=(s,ah,1)) (by unfold rc;rw[e];rfl) cH ((aT _).eK ((aT _).ch J c λ_ _ e=>e) (λk r=>.inl r) (aE.lt fb c.size)) (c.mono λ_ _ e=>e.elim)
 refine di (λV f u=>∃k,V=L.length - k/\k<=L.length/\f 0=.iface dy ce/\f 2=.int .u16 obj/\f 3=v/\f 5=az g/\f 8=.pointer (some ⟨g+1,0,none⟩)/\f 24=v/\f 25=aa L.length/\f 26=aa k/\vW none L=vW (Il L k) (L.drop k)/\H al W1 u) L.length
  ⟨0,rfl,gG _,by simp,by simp,by simp,by simp,by simp,by simp,by simp,by simp,rfl,H.refl _ _⟩ ?_
 rintro cQ bJ _ f u ⟨k,rfl,r,f0,bg,bR,f5,bB,f24,f25,f26,hU,aS⟩;have pn:=fq.ch aS λ_ _ e=>e;have zS:=aS.obj bu id;have zJ:=aS.obj bt id;by_cases aO:k<L.length
 ·have vb:(k:Int)<L.length:=by omega
  have Mk:L.length<=maxLen:=by
   obtain⟨A,c,_,J,T,_⟩:=b_;omega
  have ej:IntKind.i64.wrap ((k:Int)+1)=((k+1:Nat):Int):=by
   unfold maxLen at Mk;rw[cz];omega
  obtain⟨x,W⟩:∃x,L[k]? =some x:=⟨_,d_ aO⟩;have cG:=KY x (ib W);obtain⟨b,uB,c,cs,bv,fr,wZ,Dm,mr,fd⟩:=aih b_ KY W;have Ae:=(aU.trans aS).obj Dm id;have eF:=ra cG;have fN:=Zf cG;have rO:=ae1 cG;have wO:L.drop k=x::L.drop (k+1):=by
   rw[xD aO];congr 1;exact(jG.1 W).2
  have aNe:Il L (k+1)=some x.1:=by simp[Il,W]
  rw[wO]at hU;subst wZ;simp[go_sem,f24,f25,f26,vb,aO,Ae,mr,fd,PL,PM,eF,fN,ra Mz,bS];have bE:=(H.refl al u).alloc (.cells (ft x) 229);have dG:=cr u (.cells (ft x) 229);obtain⟨vK,CZ⟩:=aD (u.1.size);rw[CZ]at dG⊢;generalize u.alloc (.cells (ft x) 229)=bD at*;have HT:=aS.trans bE;have rf:=pn.ch bE λ_ _ e=>e;have ql:bD.cell? (bl vK 0)=some (.int .u32 x.1):=(aG dG 0).trans (aig x);refine cT [F 0,F 1,F 2,F 3,F 4,F 5,F 6,F 7,F 8,F 9,F 10,F 11,F 12,F 13,F 14,F 15,F 16,F 17,F 18,F 19,F 20,(21,some []),F 22,F 23] ?_;have vw:vW (Il L k) (x::L.drop (k+1))=(decide (x.1<64)&&(match Il L k with|none=>true|some y=>decide (y<x.1))&&gI x.2&&vW (some x.1) (L.drop (k+1))):=rfl;rw[vw]at hU;have MK:=HT.drew;have zK:bD.drew.1[g+1]? =some (.cells (ae ah) 44 (0,0)):=(HT.obj bt id);have TY:=rf.ch (H.refl al bD).drew λ_ _ e=>e;obtain⟨aNf,aNg,aNh,aNi,Kz,au9⟩:=id TY.nO;have au_:bD.1[2]? =some (.cells aNf aNg aNh):=aNi;have au':=HT.obj bt id;by_cases lw:x.1<64
  ·have Ik:¬(64:Int)<=x.1:=by omega
   rw[ou lw,Gf]at hU;have TZ:Il L k=none/\k=0\/∃y,0<k/\L[k - 1]? =some y/\Il L k=some y.1:=by
    by_cases bi:k=0
    ·exact .inl ⟨by unfold Il;rw[be bi],bi⟩
    ·obtain⟨y,ar⟩:∃y,L[k - 1]? =some y:=⟨_,d_ (by omega)⟩;exact .inr ⟨y,by omega,ar,by unfold Il;rw[aQ bi,ar];rfl⟩
   rcases TZ with⟨qe,lH⟩|⟨y,lH,ar,afy⟩
   case' inl=>
    rw[qe]at hU;have hU:vW none L=(gI x.2&&vW (some x.1) (L.drop (k+1))):=hU;have Hl:¬(0:Int)<k:=by omega
    simp[go_sem,ql,lw,Ik,dG,eF,rO,lH,Hl]
   case' inr=>
    rw[afy]at hU;have hU:vW none L=(decide (y.1<x.1)&&gI x.2&&vW (some x.1) (L.drop (k+1))):=hU;have Hl:(0:Int)<k:=by omega
    have Qc:=KY y (ib ar);obtain⟨cY,aTL,aK,ZC,aol,Ua,aNj,aNk,aNl,aTM⟩:=aih b_ KY ar;injection aNj with AU _ _;injection AU with AU;injection AU with PS afz;subst PS afz;have aho:=(aU.trans HT).obj aNk id;have T':IntKind.i64.wrap ((k:Int) - 1)=((k - 1:Nat):Int):=by
     unfold maxLen at Mk;rw[cz];omega
    have fI:bD.cell? ⟨b,uB+(k - 1)*42,none⟩=some (.int .u32 y.1):=by
     rw[aG aho];have bi:=aig y;rw[<-aNl,Sd,be (by omega)]at bi;exact bi
    have T_:k - 1<L.length:=by omega
    by_cases Bt:y.1<x.1
    case' neg=>
     have ET:(x.1:Int)<=y.1:=by omega
     rw[vi Bt]at hU;simp[go_sem,ql,lw,Ik,bR,lH,Hl,T',T_,fI,Bt,ET,au_,Kz,au9,bB,au',ee,ic,bS];exact dN (by rw[hU];simp) MK
    have ET:¬(x.1:Int)<=y.1:=by omega
    rw[ou Bt,Gf]at hU;simp[go_sem,ql,lw,Ik,bR,lH,Hl,T',T_,fI,Bt,ET,dG,eF,rO]
   all_goals
    refine(aJF x.2 _ cG.p TY).mono ?_;rintro _ cD ⟨rfl,cF⟩;have K_:=MK.trans cF
    cases rW:gI x.2 with
    |false=>
     rw[rW]at hU;have Ak:=TY.ch cF λ_ _ e=>e;obtain⟨agT,asP,asQ,VO,oP,QA⟩:=id Ak.nO;have sz:=K_.obj bt id;simp[go_sem,VO,oP,QA,bB,sz,ee,ic,bS];exact dN (by rw[hU];simp) K_
    |true=>
     rw[rW]at hU;simp[go_sem,f26,ej];exact ct.intro (L.length -(k+1)) (by omega) (bJ _ _ _ ⟨k+1,rfl,by omega,by simp[f0],by simp[bg],by simp[bR],by simp[f5],by simp[bB],by simp[f24],by simp[f25],by simp,by rw[hU,aNe];rfl,K_⟩)
  ·have Ik:(64:Int)<=x.1:=by omega
   rw[vi lw]at hU;simp[go_sem,ql,lw,Ik,au_,Kz,au9,bB,au',ee,ic,bS];exact dN (by rw[hU];simp) MK
 ·obtain rfl:k=L.length:=by omega
  have hU:vW none L=true:=by rw[hU,Xy];rfl
  simp[go_sem,f24,f25,f26,zS,f5,de,da];refine(ad2 p u ok pn).mono ?_;rintro _ an ⟨rfl,aK⟩;have kJ:=aS.trans aK;have mj:=pn.ch aK λ_ _ e=>e;obtain⟨ZC,aol,Ua,aNm,yY,ju⟩:=id mj.nO;have jU:=kJ.obj bu id;have jS:=kJ.obj bt id
  cases EQ:uu p with
  |false=>
   simp[go_sem,bB,aNm,yY,ju,jS,ee,ic,bS];exact dN (by rw[EQ];simp) kJ
  |true=>
   have bj:rc rd nw ca obj s p L=if L=[]then(s,p,0)else if(cM rd s p).2.2≠0 then((cM rd s p).1,ah,(cM rd s p).2.2)else
     if(qH rd nw ca obj L.length (cM rd s p).1 (cM rd s p).2.1 L).2.2≠0 then((qH rd nw ca obj L.length (cM rd s p).1 (cM rd s p).2.1 L).1,ah,(qH rd nw ca obj L.length (cM rd s p).1 (cM rd s p).2.1 L).2.2)else sS nw ca (qH rd nw ca obj L.length (cM rd s p).1 (cM rd s p).2.1 L).1 p (cM rd s p).2.1 (qH rd nw ca obj L.length (cM rd s p).1 (cM rd s p).2.1 L).2.1 2 obj 0:=by
    unfold rc;rw[hU,EQ];rfl
   have T:ba s an (aE O W1 an):=(aT _).eK ((aT _).ch J kJ λ_ _ e=>e) (λk r=>.inl r) (aE.lt fb kJ.size);by_cases Qo:L=[]
   ·rw[be Qo]at bj;have pD:L.length=0:=by rw[Qo];rfl
    simp[go_sem,bR,cu,pD,bB,f5,jU,jS,de,da,ee,bS];exact bU (x:=(s,p,0)) bj ok T (kJ.mono λ_ _ e=>e.elim)
   ·rw[aQ Qo]at bj;have pD:L.length≠0:=λe=>Qo (wh e);have aNn:((L.length:Int)==0)=false:=hv (by omega);have aI:=(H.refl al an).alloc (.cells #[.iface dy ce,.int .u16 obj] 362);have ZM:=cr an (.cells #[.iface dy ce,.int .u16 obj] 362);have ava:=aI.obj jU id;have aNo:=aI.obj jS id;have uU:=kJ.trans aI;have kn:=mj.ch aI λ_ _ e=>e;have ag:=(aT _).ch J uU λ_ _ e=>e;have iC:(an.alloc (.cells #[.iface dy ce,.int .u16 obj] 362)).1.size=an.1.size+1:=by simp
    have cR:=kJ.size;simp[go_sem,f0,bg,bR,cu,pD,aNn,Qo,f5,jU,ava,de,da];obtain⟨fM,aos⟩:=aD (an.1.size);rw[aos]at ZM iC⊢;generalize an.alloc (.cells #[.iface dy ce,.int .u16 obj] 362)=aJ at*;have NE:=ED aA.rd s p;have aNp:16<=m s:=dK (by omega) aC;refine(YA aA.rd aNp aT ag p ok kn aH).mono ?_;rintro _ bs ⟨rfl,aP,bo⟩;have fx:=Jl rd s p;obtain⟨⟨jo,Ap,dl⟩,aNq⟩:∃bv,cM rd s p=bv:=⟨_,rfl⟩;rw[aNq]at fx aP bj NE⊢;simp only at fx aP bj NE⊢;have o_:=ll fx;have oE:=se fx;have aTN:=bo.size;have n_:=bo.obj ava (ff _ (by omega));have m_:=bo.obj aNo (ff _ (by omega));have afM:=bo.obj ZM (ff _ (by omega));have wV:=aH.cv kn bo ⟨_,aP⟩ λ_ _ e=>e;have bE:=(H.refl al bs).alloc (.cells (cn Ap) 339);have dG:=cr bs (.cells (cn Ap) 339);have kV:(bs.alloc (.cells (cn Ap) 339)).1.size=bs.1.size+1:=by simp
    simp[go_sem,uh,ui,o_,oE,ll rA,bS];obtain⟨Re,aa0⟩:=aD (bs.1.size);rw[aa0]at dG kV⊢;generalize bs.alloc (.cells (cn Ap) 339)=bD at*;have Hd:=bE.obj n_ id;have sj:=bE.obj m_ id;have aNr:=bE.obj afM id;have rf:=wV.ch bE λ_ _ e=>e;have apP:=bE.size;have bH:ba jo bD (aE O W1 bD):=(aT _).eK ((aT _).ch aP bE λ_ _ e=>e) (λk r=>r.imp id λe=>⟨by omega,by omega⟩) (aE.lt fb (by omega));have mH:H O W1 bD:=((uU.mono λ_ _ e=>e.elim).trans bo).trans (bE.mono λ_ _ e=>e.elim);obtain⟨Qz,asR,asS,MT,Ac,Kq⟩:=id rf.nO;by_cases aV:dl=0
    ·subst aV;rw[aQ (by simp)]at bj;have cF:=(H.refl al bD).alloc (.cells (cn Ap) 339);have gj:=cr bD (.cells (cn Ap) 339);have qs:(bD.alloc (.cells (cn Ap) 339)).1.size=bD.1.size+1:=by simp
     simp[go_sem,dG,o_,oE,uh,ui,ll rA,bS];obtain⟨eR,iM⟩:=aD (bD.1.size);rw[iM]at gj qs⊢;generalize bD.alloc (.cells (cn Ap) 339)=cD at*;have Fi:=cF.obj Hd id;have sz:=cF.obj sj id;have aNs:=cF.obj aNr id;have aNt:=cF.obj dG id;have Ak:=rf.ch cF λ_ _ e=>e;have aBO:=cF.size;obtain⟨oT,EZ⟩:=aD (aE O aJ bs);have cS:ba jo cD oT:=by rw[<-EZ];exact(aT _).ch ((aT _).ch aP bE λ_ _ e=>e) cF λ_ _ e=>e
     have qg:=(aT _).lt cS;have Ri:¬oT eR:=λe=>by rw[<-EZ]at e;exact e.elim (ff _ (by omega)) λe=>by omega
     have ajV:=aJG L none hU;refine di (λV f u=>∃(i eX:Nat) (s':aF) (fB:List Pt),V=L.length - i/\i<=L.length/\L.length - i<=eX/\f 0=.iface dy ce/\f 3=v/\f 5=az g/\f 8=.pointer (some ⟨g+1,0,none⟩)/\f 12=az fM/\f 13=az Re/\f 15=az eR/\f 16=aa i
       /\iJ fB/\qH rd nw ca obj L.length jo Ap L=qH rd nw ca obj eX s' fB (L.drop i)/\u.1[eR]? =some (.cells (cn fB) 339 (0,0))/\ba s' u (aE oT cD u)/\H (λk=>oT k\/k=eR) cD u/\16*(4*(L.length - i)+2)<=m s') L.length
      ⟨0,L.length,jo,Ap,rfl,gG _,by omega,by simp[f0],by simp[bR],by simp[f5],by simp[bB],by simp,by simp,by simp,by simp,fx,rfl,gj,(aT _).eK cS (λk r=>.inl r) (aE.lt qg (c_ _)),H.refl _ _,by clear cu ajV;omega⟩ ?_
     clear bJ;rintro cQ bJ _ f u ⟨i,eX,s',fB,rfl,ad,tr,f0,bR,f5,bB,dj,fw,f15,zc,pz,DL,sO,ap,aS,xo⟩;have pU:∀j,g<=j->j<aJ.1.size->¬oT j:=λj J T e=>by rw[<-EZ]at e;exact e.elim (ff _ J) λe=>by omega
     have ail:¬oT Re:=λe=>by rw[<-EZ]at e;exact e.elim (ff _ (by omega)) λe=>by omega
     have ajW:∀j,g<=j->j<aJ.1.size->¬(oT j\/j=eR):=λj J T e=>e.elim (pU j J T) λe=>by omega
     have zS:=aS.obj Fi (ajW _ (by omega) (by omega));have zJ:=aS.obj sz (ajW _ (by omega) (by omega));have ab2:=aS.obj aNs (ajW _ (by omega) (by omega));have aNu:=aS.obj aNt λe=>e.elim ail λe=>by omega
     have Rf:iO ba oT:=by rw[<-EZ];exact aH.cN kn
     have rX:iO ba (aE oT cD u):=Rf.cN Ak;have pn:=Rf.cv Ak aS ⟨_,ap⟩ λk r e=>e.elim id λe=>by
      have ir:=rf.lt k r;have e:k=eR:=e;rw[e,iM]at ir;exact(FX _ ir).elim
     have EP:=aS.size;have qG:=ll pz;have Cp:=se pz;have De:∀{Y:M} {y:aF×Pt×Int},rc rd nw ca obj s p L=y->cc y.2.1->ba y.1 Y (aE oT cD Y)->H (λk=>oT k\/k=eR) cD Y->bk (.tuple #[.agg (ae y.2.1),aa y.2.2]) (Y.setRow (g+1) (ae y.2.1)):=λ{Y y} e Qc a c=>by
      have JP:=c.size;refine bU e Qc ((aT _).eK a (λk r=> ?_) (aE.lt fb (by omega))) ((mH.trans (cF.mono λ_ _ e=>e.elim)).bZ c λk r e=> ?_)
      ·rcases r with r|r
       ·rw[<-EZ]at r;exact r.imp id λe=>⟨by omega,by omega⟩
       ·exact .inr ⟨by omega,r.2⟩
      ·rcases e with e|e
       ·rw[<-EZ]at e;exact e.elim id λe=>by omega
       ·omega
     by_cases aO:i<L.length
     ·have vb:(i:Int)<L.length:=by omega
      obtain⟨A,c,wZ,aTO,Mk,eY⟩:=id b_;obtain⟨b,uB,fp,iQ,ax⟩:=eY (by omega);subst fp;have ab:¬O b:=(g_ b (by rw[wZ];rfl)).1;have ajX:¬(oT b\/b=eR):=λe=>e.elim (λe=>by rw[<-EZ]at e;exact e.elim ab λe=>by omega) λe=>by omega
      have mR:∀j y,L[j]? =some y->u.cell? (bl b (uB+j*42))=some (.int .u32 y.1):=λj y ar=>by
       have bi:=ax j y 0 _ ar rfl;exact aS.cell (cF.cell (mH.cell (aU.cell bi id) ab) id) ajX
      obtain⟨x,W⟩:∃x,L[i]? =some x:=⟨_,d_ aO⟩;have aTP:=ajV x (ib W);have Cu:=mR i x W;obtain⟨hG,Pa⟩:=aD (x.1 / 8);have ab3:hG<8:=by omega
      have au:∀y:Nat,((y:Int)).tdiv 8=((y / 8:Nat):Int):=λy=>by rfl
      have Vp:((x.1:Int)).tdiv 8=(hG:Int):=by rw[au,Pa]
      have SD:IntKind.u32.wrap (hG:Int)=hG:=by simp[IntKind.wrap,IntKind.bits,IntKind.signed];omega
      subst wZ;simp[go_sem,bR,zc,cu,vb,aO,Cu,Vp,SD];refine di (λV f' cq=>∃j,V=L.length - j/\i<=j/\j<=L.length/\f' 0=.iface dy ce/\f' 3=.slice (some ⟨b,uB,none⟩) L.length c/\f' 5=az g/\f' 8=.pointer (some ⟨g+1,0,none⟩)/\f' 12=az fM/\f' 13=az Re/\f' 15=az eR/\f' 16=aa i/\f' 17=.int .u32 hG/\f' 18=aa j/\cq=u/\∀m y,i<=m->m<j->L[m]? =some y->y.1 / 8=hG) (L.length - i)
       ⟨i,rfl,c_ _,ad,by simp[f0],by simp[bR],by simp[f5],by simp[bB],by simp[dj],by simp[fw],by simp[f15],by simp[zc],by simp,by simp[zc],rfl,λm y J T=>absurd T (by omega)⟩ ?_
      clear f0 bR f5 bB dj fw f15 zc;rintro vq jR _ f cq ⟨j,rfl,iT,iP,f0,bR,f5,bB,dj,fw,f15,zc,lJ,oZ,rfl,gV⟩;by_cases lV:∃y,L[j]? =some y/\y.1 / 8=hG
      ·obtain⟨y,ar,abi⟩:=lV;have V':j<L.length:=(jG.1 ar).1;have ajY:(j:Int)<L.length:=by omega
       have ajZ:=mR j y ar;have hN:IntKind.i64.wrap ((j:Int)+1)=((j+1:Nat):Int):=by
        unfold maxLen at Mk;rw[cz];omega
       have aj0:((y.1:Int)).tdiv 8=(hG:Int):=by rw[au,abi]
       simp[go_sem,bR,lJ,oZ,cu,V',ajY,ajZ,aj0,SD,hN];exact ct.intro (L.length -(j+1)) (by omega) (jR _ _ _ ⟨j+1,rfl,by omega,by omega,by simp[f0],by simp[bR],by simp[f5],by simp[bB],by simp[dj],by simp[fw],by simp[f15],by simp[zc],by simp[lJ],by simp,rfl,λm z J T hz=>by
        by_cases aTQ:m=j
        ·grind
        ·exact gV m z J (by omega) hz⟩)
      ·have mr:(j=L.length)\/∃y,L[j]? =some y/\y.1 / 8≠hG:=by
        by_cases ab4:j=L.length
        ·exact .inl ab4
        ·obtain⟨y,ar⟩:∃y,L[j]? =some y:=⟨_,d_ (by omega)⟩;exact .inr ⟨y,ar,λe=>lV ⟨y,ar,e⟩⟩
       have Wy:i<j:=by
        rcases Xw i j with h|h
        ·exact h
        ·exact absurd ⟨x,by grind,Pa⟩ lV
       rcases mr with ab4|⟨y,ar,abi⟩
       case' inl=>
        simp[go_sem,bR,lJ,oZ,cu,ab4]
       case' inr=>
        have V':j<L.length:=(jG.1 ar).1;have ajY:(j:Int)<L.length:=by omega
        have ajZ:=mR j y ar;obtain⟨sB,Zw⟩:=aD (y.1 / 8);have aTR:=ajV y (ib ar);have aj0:((y.1:Int)).tdiv 8=(sB:Int):=by rw[au,Zw]
        have aNv:IntKind.u32.wrap (sB:Int)=sB:=by simp[IntKind.wrap,IntKind.bits,IntKind.signed];omega
        have dn:((sB:Int)==(hG:Int))=false:=hv (by omega);have KM:sB≠hG:=by omega
        simp[go_sem,bR,lJ,oZ,cu,V',ajY,ajZ,aj0,aNv,dn,KM]
       all_goals
        have EX:=aJJ b uB L.length c i j Wy (by omega);have fG:∀q,(Value.slice (some ⟨b,uB,none⟩) L.length c).ownBlock=some q->q=b:=λq e=>by simp[Value.ownBlock]at e;exact e.symm
        have ZL:fC cq (.slice (some ⟨b,uB,none⟩) L.length c) sx 42 L:=by
         have mx:=b_.ch aU λ_ _ _ e=>e;have lh:=fC.ch (S:=O) mx mH λq _ e=>by rw[fG q e];exact ab
         have qL:=lh.ch cF λ_ _ _ e=>e;exact fC.ch (S:=λk=>oT k\/k=eR) qL aS λq _ e=>by rw[fG q e];exact ajX
        have avb:=fC.part ZL i j iT iP;have aNw:=aJH hG L i j iT iP gV (by first|exact .inl ab4|exact .inr ⟨y,ar,by rw[Zw];exact KM⟩);obtain⟨hs,pt⟩:∃q,fB[hG]? =some q:=⟨_,d_ (by rw[pz.len];exact ab3)⟩;have KZ:=pz.all _ (ib pt);have pe:=adg pz pt;have Bj:fB.getD hG ah=hs:=by rw[lk,pt];rfl
        have ab5:(hG:Int)<8:=by omega
        have avc:hG*41+41<=328:=by omega
        have NI:cq.cell? (bl fM 0)=some (.iface dy ce):=aG ab2 0;have DA:cq.cell? (bl fM 1)=some (.int .u16 obj):=aG ab2 1;refine aNx [[F 0,F 1,F 2,F 3,F 4,F 5,F 6,F 7,F 8,F 9,(10,some []),F 11,F 12,F 13,(14,some [11,12,13]),(15,some [13]),F 16],[F 0,F 1,F 2,F 3,F 4,F 5,F 6,F 7,F 8,F 9,(14,some [0,1,2,3,4,5,6,7,8,9]),(10,some []),F 11,F 12,F 13,(15,some [13]),F 16]] (by kernel_rfl) (by kernel_rfl) ?_;intro mh mA;simp only[io,yD,or_false]at mA;obtain⟨Wz,LZ⟩:∃Wz,eX=Wz+1:=Nat.exists_eq_succ_of_ne_zero λe=>by
         grind
        have aj1:L.drop i=x::L.drop (i+1):=by
         rw[xD aO];congr 1;exact(jG.1 W).2
        have jj:((L.take j).drop i).length=j - i:=by simp;omega
        have BT:qH rd nw ca obj L.length jo Ap L=if(px rd nw ca obj s' hs hG ((L.take j).drop i)).2.2≠0 then((px rd nw ca obj s' hs hG ((L.take j).drop i)).1,fB,(px rd nw ca obj s' hs hG ((L.take j).drop i)).2.2)else qH rd nw ca obj Wz (px rd nw ca obj s' hs hG ((L.take j).drop i)).1 (fB.set hG (px rd nw ca obj s' hs hG ((L.take j).drop i)).2.1) (L.drop j):=by
         have avd:=aNw;rw[aj1]at avd;rw[DL,LZ,aj1,qH];simp only[Pa];rw[avd,Bj,jj,<-aj1,ru,show i+(j - i)=j by omega]
        have aNy:=(aT _).ch ap (H.refl al cq).drew λ_ _ e=>e;have ave:∀a∈(L.take j).drop i,nU a:=λa ao=>KY a (DU (XI ao));have VM:∀q,(Value.slice (some ⟨b,uB+i*42,none⟩) (j - i) (j - i)).ownBlock=some q->¬aE oT cD cq q/\q<cq.1.size:=λq au=>by
         simp[Value.ownBlock]at au;subst au;exact⟨λe=>e.elim (λe=>ajX (.inl e)) λe=>by omega,by omega⟩
        have wO:∀{α:Type} {w:M} {v:N} {en:α->List N} {k:Nat} {l:List α},fC w v en k l->fC w.drew v en k l:=λh=>h;rcases mA with rfl|rfl
        ·simp[go_sem,bR,dj,f15,zc,lJ,oZ,NI,DA,sO,qG,pe,ab3,ab5,avc,EX];have aTS:((L.take j).drop i).length=j - i:=jj;have Im:=aij aA s' hs obj hG ((L.take j).drop i);refine(asN aA aT aNy hs KZ obj hG _ ((L.take j).drop i) (by grind) (wO avb) ave VM (pn.ch (H.refl al cq).drew λ_ _ e=>e) rX sJ (by omega)).mono ?_;rintro _ cE ⟨rfl,rq,fi,dE⟩;obtain⟨⟨iy,mv,hX⟩,WA⟩:∃bv,px rd nw ca obj s' hs hG ((L.take j).drop i)=bv:=⟨_,rfl⟩;rw[WA]at rq fi BT Im⊢;simp only at rq fi BT Im⊢;rw[jj]at Im;have aj2:=(au7 (b:=m iy) Wy iP xo).2 Im;have Lk:=cd rq;have Ob:=ef rq;have dE:H (aE oT cD cq) cq cE:=H.hR dE;have ZU:=dE.size;have ds:=(H.refl al cE).alloc (.cells (ae mv) 44);have jI:=cr cE (.cells (ae mv) 44);have Bo:=ds.obj (dE.obj zJ λe=>e.elim (pU _ (by omega) (by omega)) λe=>by omega) id;have La:=ds.obj (dE.obj sO λe=>e.elim Ri λe=>by omega) id;have ab6:=(rX.cv pn dE ⟨_,fi⟩ λ_ _ e=>e).ch ds λ_ _ e=>e;obtain⟨aNz,aNA,aNB,aj3,Rj,Oy⟩:=id ab6.nO;have aNC:=ds.size;simp[go_sem,gO,gP,ee,Lk,Ob,bS];obtain⟨gy,sD⟩:=aD (cE.1.size);rw[sD]at jI⊢;have er:ba iy (cE.alloc (.cells (ae mv) 44)) (aE oT cD cE):=(aT _).ch ((aT _).eK fi (λk r=>ajQ EP ZU r) (aE.lt qg (by omega))) ds λ_ _ e=>e;have pZ:H (λk=>oT k\/k=eR) cD (cE.alloc (.cells (ae mv) 44)):=(aS.bZ dE λk r e=>.inl (e.resolve_right (by omega))).trans (ds.mono λ_ _ e=>e.elim);generalize cE.alloc (.cells (ae mv) 44)=ec at*;have Ad:ba iy ec (aE oT cD ec):=(aT _).eK er (λk r=>r.imp id λe=>⟨e.1,by omega⟩) (aE.lt qg (by omega));by_cases ri:hX=0
         ·subst ri;rw[aQ (by simp)]at BT;simp[go_sem,f15,lJ,oZ,La,qG,Cp,jI,Lk,Ob,show IntKind.i64.wrap (hG:Int)=hG by rw[cz];omega];refine(adi fB hG mv ec pz rq).mono ?_;rintro _ db ⟨rfl,dV⟩;rw[be ⟨by omega,ab5⟩];have WB:iJ (fB.set hG mv):=pz.set _ rq;have aj4:=ll WB;have WC:=dV.obj La id;have rG:=dV.size;simp[go_sem,f15,oZ,WC,qG,aj4,bS];have nd:H (aj eR) db (db.setRow eR (cn (fB.set hG mv))):=(H.refl (aj eR) db).setRow (.inl rfl) _;have afm:=nd.size;have ix:ba iy (db.setRow eR (cn (fB.set hG mv))) (aE oT cD (db.setRow eR (cn (fB.set hG mv)))):=(aT _).eK ((aT _).ch ((aT _).ch Ad dV λ_ _ e=>e) nd λk r e=>by simp only[aj]at e;subst e;exact r.elim Ri λe=>by omega) (λk r=>r.imp id λe=>⟨e.1,by omega⟩) (aE.lt qg (by omega));exact ct.intro (L.length - j) (Nat.sub_lt_sub_left aO Wy) (bJ _ _ _ ⟨j,Wz,iy,fB.set hG mv,rfl,iP,by
           grind,by simp[f0],by simp[bR],by simp[f5],by simp[bB],by simp[dj],by simp[fw],by simp[f15],by simp,WB,BT,by rw[gh,WC];rfl,ix,(pZ.trans (dV.mono λ_ _ e=>e.elim)).trans (nd.mono λk _ e=>by simp only[aj]at e;exact .inr e),aj2⟩)
         ·rw[be ri]at BT;rw[BT]at bj;simp only at bj;rw[be ri]at bj;have WD:(hX==0)=false:=hv ri;simp[go_sem,ri,WD,bne,aj3,Rj,Oy,bB,Bo,ee,ic,bS];exact De (y:=(iy,ah,hX)) bj cH Ad pZ
        ·have aY:=(H.refl al cq).alloc (.cells (ae ah) 44);have PX:=cr cq (.cells (ae ah) 44);have apk:(cq.alloc (.cells (ae ah) 44)).1.size=cq.1.size+1:=by simp
         have avf:=aY.obj sO id;have aND:=aY.obj zJ id;have aNE:=aY.cell NI id;have aNF:=aY.cell DA id;have aNG:=(pn.ch aY λ_ _ e=>e).ch (H.refl al _).drew λ_ _ e=>e;have uq:=(aT _).ch ((aT _).ch ap aY λ_ _ e=>e) (H.refl al _).drew λ_ _ e=>e;have aNH:=wO (avb.ch aY λ_ _ _ e=>e);simp[go_sem,bR,dj,f15,zc,lJ,oZ,NI,DA,sO,qG,pe,ab3,ab5,avc,EX,gO,gP,aNE,aNF,avf];have aNI:cq.1.size<=(cq.alloc (.cells (ae ah) 44)).drew.1.size:=aY.drew.size;have Im:=aij aA s' hs obj hG ((L.take j).drop i);refine(asN aA aT uq hs KZ obj hG _ ((L.take j).drop i) (by grind) aNH ave (λq au=>⟨(VM q au).1,gQ (VM q au).2 aNI⟩) aNG rX sJ (gQ ab3 (by decide))).mono ?_;rintro _ cE ⟨rfl,rq,fi,dE⟩;obtain⟨⟨iy,mv,hX⟩,WA⟩:∃bv,px rd nw ca obj s' hs hG ((L.take j).drop i)=bv:=⟨_,rfl⟩;rw[WA]at rq fi BT Im⊢;simp only at rq fi BT Im⊢;rw[jj]at Im;have aj2:=(au7 (b:=m iy) Wy iP xo).2 Im;have Lk:=cd rq;have Ob:=ef rq;have dE:H (aE oT cD cq) (cq.alloc (.cells (ae ah) 44)) cE:=H.hR dE;have ZU:=dE.size;have fi:ba iy cE (aE (aE oT cD cq) (cq.alloc (.cells (ae ah) 44)) cE):=fi;obtain⟨gy,sD⟩:=aD (cq.1.size);rw[sD]at PX apk⊢;have Hj:∀k,aE oT cD cq k->k<gy:=λk r=>by rw[<-sD];exact(aT _).lt ap k r
         have avg:=dE.obj PX λe=>FX _ (Hj _ e);have abh:=dE.obj avf λe=>e.elim Ri λe=>by omega
         have agc:=dE.obj aND λe=>e.elim (pU _ (by omega) (by omega)) λe=>by omega
         have aj5:=rX.cv (pn.ch aY λ_ _ e=>e) dE ⟨_,fi⟩ λ_ _ e=>e;simp[go_sem,avg,ee,Lk,bS];have ds:H (aj gy) cE (cE.setRow gy (ae mv)):=(H.refl (aj gy) cE).setRow (.inl rfl) _;have jI:(cE.setRow gy (ae mv)).1[gy]? =some (.cells (ae mv) 44 (0,0)):=by rw[gh,avg];rfl
         have Bo:=ds.obj agc λe=>by simp only[aj]at e;omega
         have La:=ds.obj abh λe=>by simp only[aj]at e;omega
         have ab6:=aj5.ch ds λk r e=>by
          have ir:=pn.lt k r;simp only[aj]at e;omega
         obtain⟨aNz,aNA,aNB,aj3,Rj,Oy⟩:=id ab6.nO;have aNC:=ds.size;have Ad:ba iy (cE.setRow gy (ae mv)) (aE oT cD (cE.setRow gy (ae mv))):=(aT _).eK ((aT _).ch fi ds λk r e=>by
          simp only[aj]at e;rcases r with r|r
          ·have:=Hj k r;omega
          ·omega) (λk r=>by
           rcases r with(r|r)|r
           ·exact .inl r
           ·exact .inr ⟨r.1,by omega⟩
           ·exact .inr ⟨by omega,by omega⟩) (aE.lt qg (by omega))
         have pZ:H (λk=>oT k\/k=eR) cD (cE.setRow gy (ae mv)):=((aS.trans (aY.mono λ_ _ e=>e.elim)).bZ dE λk r e=>.inl (e.resolve_right (by omega))).bZ ds λk r e=>by simp only[aj]at e;omega
         generalize cE.setRow gy (ae mv)=ec at*;by_cases ri:hX=0
         ·subst ri;rw[aQ (by simp)]at BT;simp[go_sem,f15,lJ,oZ,La,qG,Cp,jI,Lk,Ob,show IntKind.i64.wrap (hG:Int)=hG by rw[cz];omega];refine(adi fB hG mv ec pz rq).mono ?_;rintro _ db ⟨rfl,dV⟩;rw[be ⟨by omega,ab5⟩];have WB:iJ (fB.set hG mv):=pz.set _ rq;have aj4:=ll WB;have WC:=dV.obj La id;have rG:=dV.size;simp[go_sem,f15,oZ,WC,qG,aj4,bS];have nd:H (aj eR) db (db.setRow eR (cn (fB.set hG mv))):=(H.refl (aj eR) db).setRow (.inl rfl) _;have afm:=nd.size;have ix:ba iy (db.setRow eR (cn (fB.set hG mv))) (aE oT cD (db.setRow eR (cn (fB.set hG mv)))):=(aT _).eK ((aT _).ch ((aT _).ch Ad dV λ_ _ e=>e) nd λk r e=>by simp only[aj]at e;subst e;exact r.elim Ri λe=>by omega) (λk r=>r.imp id λe=>⟨e.1,by omega⟩) (aE.lt qg (by omega));exact ct.intro (L.length - j) (Nat.sub_lt_sub_left aO Wy) (bJ _ _ _ ⟨j,Wz,iy,fB.set hG mv,rfl,iP,by
           grind,by simp[f0],by simp[bR],by simp[f5],by simp[bB],by simp[dj],by simp[fw],by simp[f15],by simp,WB,BT,by rw[gh,WC];rfl,ix,(pZ.trans (dV.mono λ_ _ e=>e.elim)).trans (nd.mono λk _ e=>by simp only[aj]at e;exact .inr e),aj2⟩)
         ·rw[be ri]at BT;rw[BT]at bj;simp only at bj;rw[be ri]at bj;have WD:(hX==0)=false:=hv ri;simp[go_sem,ri,WD,bne,aj3,Rj,Oy,bB,Bo,ee,ic,bS];exact De (y:=(iy,ah,hX)) bj cH Ad pZ
     ·obtain rfl:i=L.length:=by omega
      have aNJ:qH rd nw ca obj L.length jo Ap L=(s',fB,0):=by
       rw[DL,Xy]
       cases eX<;>rfl
      rw[aNJ,aQ (by simp)]at bj;have NI:u.cell? (bl fM 0)=some (.iface dy ce):=aG ab2 0;have DA:u.cell? (bl fM 1)=some (.int .u16 obj):=aG ab2 1;simp[go_sem,bR,f5,bB,dj,fw,f15,zc,cu,NI,DA,zS,de,da,aNu,o_,oE,sO,qG,Cp];refine(asV aA (dK (by omega) xo) aT ap p ok Ap fB fx pz 2 obj 0 pn rX (by decide) sJ (by decide)).mono ?_;rintro _ db ⟨rfl,H_,ir,dV⟩;simp only at bj;rw[<-bj]at ir H_⊢;have rG:=dV.size;have PN:=dV.obj zJ λe=>e.elim (pU _ (by omega) (by omega)) λe=>by omega
      simp[go_sem,bB,PN,ee,cd H_,ef H_,bS];exact De rfl H_ ((aT _).eK ir (λk r=>ajQ EP rG r) (aE.lt qg (by omega))) (aS.bZ dV λk r e=>e.elim .inl λe=>by omega)
    ·rw[be aV]at bj;have qW:(dl==0)=false:=hv aV;simp[go_sem,aV,qW,bne,MT,Ac,Kq,bB,sj,ee,ic,bS];exact bU (x:=(jo,ah,dl)) bj cH bH mH
end
end Go.Proofs.YtoohkhcpboldjaaGreatDoor
