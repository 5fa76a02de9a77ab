/- A commit, whole. Conditions: the variables that are listed hold what the text lays; sizes. -/
import Derived.Test.YtoohkhcpboldjaaGreatDoorVwA
set_option maxRecDepth 100000
set_option maxHeartbeats 4000000
set_option linter.unusedSimpArgs false
set_option linter.unusedVariables false
namespace Go.Proofs.YtoohkhcpboldjaaGreatDoor
open Go.RowKit Go.Kin Tryz
abbrev yd:=Nat×List UInt8×List Nat
abbrev wS(a:yd):Prop:=F' a.1 a.2.1 a.2.2
abbrev wx(a:yd):Array N:=dw a.1 a.2.1 a.2.2
structure kY where
 s:ay
 ea:yd
def uG(n:Nat)(t:eb):ay:=(t.s.all n 1).yb n t.bX
def tL(c:jt)(x:kY)(st:et)(D:cV)(xs:List dp):kY×et×Int:=
 if xs=[]then(x,st,0)else
 let y:=mI (ms c) c.bf st.dd st.top (fk D) (xs.map (·.val)) ⟨x.s,[],[]⟩
 if y.2.2≠0 then(⟨uG c.n y.1,x.ea⟩,st,y.2.2)else
 let f:=y.1.s.ev
 if f.2≠0 then(⟨uG c.n {y.1 with s:=f.1},x.ea⟩,st,f.2)else
 let e:=vO x.ea.1 c.bf f.1.P.off f.1.P.dS;let s':ay:={f.1 with P:=if c.bf<=x.ea.1 then f.1.P else f.1.P.step}
 if e≠0 then(⟨uG c.n {y.1 with s:=s'},x.ea⟩,st,e)else
 (⟨s'.all c.n 0,(c.bf,y.2.1.1.h,y.2.1.1.a)⟩,⟨c.bf,y.2.1.1,y.2.1.2⟩,0)
def km(m p n cg:Nat)(z:fV)(x:kY):jf:=λw O=>∃a_ A,e' w m p n z x.s a_ A/\sH w cg p (jk x.ea.1 x.ea.2.1 x.ea.2.2)/\¬gU z m p a_ A cg/\(∀j,gU z m p a_ A j->O j)/\O cg/\∀j,O j->j<w.1.size
section
variable {m p n cg k:Nat}{z:fV}{x:kY}{w w':M}{O S:Nat->Prop}{a_ ey:N}{A:Nat->Nat->Prop}{s:ay}
theorem km.ok(m p n cg:Nat)(z:fV)(x:kY):kB (km m p n cg z x):=by
 refine⟨?_,?_,?_⟩
 ·rintro w O ⟨a_,A,J,T,ag,aP,bH,cS⟩;exact cS
 ·rintro w w' O S ⟨a_,A,J,T,ag,aP,bH,cS⟩ Z cl;exact⟨a_,A,J.ch Z λj I=>cl j (aP j I),Z.obj T (cl cg bH),ag,aP,bH,λj I=>gQ (cS j I) Z.size⟩
 ·rintro w O O' ⟨a_,A,J,T,ag,aP,bH,cS⟩ h h';exact⟨a_,A,J,T,ag,λj I=>h j (aP j I),h cg bH,h'⟩
theorem e'.aCN(h:e' w m p n z s a_ A)(Z:H S w w')(cl:∀j,gU z m p a_ A j->j≠p->¬S j){P':eL}(am:ty w' p P'):e' w' m p n z {s with P:=P'} a_ A:=by
 have W:∀k,Fg z m a_ k->¬S k:=λk r=>cl k (.inl r) (h.hD k r).2.2;have fp:∀i,i<2->∀k,A i k->¬S k:=λi ad k r=>cl k (by
  rcases kX ad with rfl|rfl
  ·exact .inr (.inl r)
  ·exact .inr (.inr (.inl r))) λe=>(h.kW i ad).CK (by rw[<-e];exact r)
 refine⟨Z.obj h.blk (W _ (.inl rfl)),λi ad=>⟨(h.kW i ad).aB.ch Z (fp i ad),am,(h.kW i ad).CK⟩,Z.obj h.c' (W _ (.inr (.inl rfl))),λi ad=>Z.obj (h.pl i ad) (W _ ?_),gu h.zV Z λk r=>W _ (.inr (.inr (.inr (.inr r)))),h.lP,h.HA,h.ne,h.hD,h.fe⟩;rcases kX ad with rfl|rfl
 ·exact .inr (.inr (.inl rfl))
 ·exact .inr (.inr (.inr (.inl rfl)))
theorem lu.aCO{bf:Nat}{t:eb}{s':ay}(h:lu w k m p n z bf t a_ A ey)(J:kF w' m p n z s' (aE (gU z m p a_ A) w w'))(Z:H (gU z m p a_ A) w w'):∃jr gM,lu w' k m p n z bf ⟨s',t.bX,t.gN⟩ jr gM ey/\∀j,oL k m p z jr gM ey j->aE (oL k m p z a_ A ey) w w' j:=by
 obtain⟨jr,gM,fh,fv,iY⟩:=J;have ox:k<w.1.size:=lt_of_block h.blk;refine⟨jr,gM,⟨fh,Z.obj h.blk h.oM,gu h.fS Z λj I x=>(h.fe j I).1 x,h.lP,λx=> ?_,λj I=>⟨λx=> ?_,(h.fe j I).2⟩⟩,λj I=> ?_⟩
 ·rcases fv _ x with x|x
  ·exact h.oM x
  ·omega
 ·have iP:=nK h.fS j I;rcases fv _ x with x|x
  ·exact(h.fe j I).1 x
  ·omega
 ·rcases I with I|I
  ·exact(fv j I).imp .inl id
  ·exact .inl (.inr I)
theorem H.mV{S B:Nat->Prop}(h:H S w w')(gY:∀k,B k->w'.1[k]? =w.1[k]?):H (λk=>S k/\¬B k) w w':=
 ⟨h.os,h.tape,h.output,h.size,λk r aq=>by
  by_cases ab:B k
  ·exact gY k ab
  ·exact h.block k r λe=>aq ⟨e,ab⟩⟩
theorem ao4{ep:M}{eB:Nat->Prop}{cL:eb->Nat}{c:jt}(dC:kG cL)(e:sw ep eB)(hq:c.bf<18446744073709551616)(aq:c.n<=65536)(dd:Pt)(C:nW)(rb:∀n,(C.ch n).length<=64):∀(l:List Nat) (t:eb) (cm:List (Nat×bF)),gX cL t<=gX cL (sF (ms c) dd C l t cm).1+6600*l.length
 |[],t,cm=>c_ _
 |n::l,t,cm=>by
  have bi:=aoB dC e hq aq t dd (C.own n) (C.wiped n) (C.ch n) (rb n) n;unfold sF;rw[qK];split
  ·simp only;omega
  ·have J:=ao4 dC e hq aq dd C rb l (na (ms c) dd (C.own n) (C.wiped n) (C.ch n) n t).1 (cm++[(na (ms c) dd (C.own n) (C.wiped n) (C.ch n) n t).2.1]);omega
theorem aCP{ep:M}{eB:Nat->Prop}{cL:eb->Nat}{c:jt}(dC:kG cL)(e:sw ep eB)(hq:c.bf<18446744073709551616)(aq:c.n<=65536)(dd top:Pt)(C:nW)(rb:∀n,(C.ch n).length<=64)(l:List Nat)(t:eb)(g:Nat):gX cL t<=gX cL (mI (ms c) g dd top C l t).1+(6600*l.length+8500):=by
 have bi:=ao4 dC e hq aq dd C rb l t [];unfold mI;have nB:(ms c).rd=iR c.n:=rfl;have zL:(ms c).nw=it c.n c.bf:=rfl;have Bj:(ms c).ca=lR c.n:=rfl;rw[nB,zL,Bj];obtain⟨⟨t1,mx,aL⟩,fD⟩:∃y,sF (ms c) dd C l t []=y:=⟨_,rfl⟩;rw[fD]at bi⊢;simp only at bi⊢;split
 ·simp only;omega
 ·have J:=aoD dC e hq aq t1 dd mx;obtain⟨⟨el,Av,aR⟩,lv⟩:∃y,rR (iR c.n) (it c.n c.bf) (lR c.n) t1 dd mx=y:=⟨_,rfl⟩;rw[lv]at J⊢;simp only at J⊢;split
  ·simp only;omega
  ·have T:=Zd dC c.n el top;have ag:=TC dC c.n c.bf (lR c.n el top) vN (po (g,Av))
   grind
theorem LV(cv:hI w)(fT:jz w)(gB:qO w):∀j,iK j->j<w.1.size:=by
 rintro j ((rfl|rfl)|rfl|rfl)
 ·exact xC w _ (cv.qQ 0 _ rfl)
 ·obtain⟨cs,bv,fr,es,_⟩:=cv.nO;exact lt_of_block es
 ·exact xC w _ (fT 0 (by decide))
 ·exact xC w _ (gB 0 _ rfl)
end
section
variable {m p o vE cg:Nat}{z:fV}{Cn:zE}{w w':M}{X bw:Nat->Prop}{base fZ:N}{D:cV}{O:Nat->Prop}{cL:eb->Nat}{c:jt}{x:kY}
theorem aCQ(dC:kG cL)(cv:hI w)(fT:jz w)(gB:qO w)(aq:c.n<=65536)(h:km m p c.n cg z x w O)(jj:∀j,iK j->¬O j)(st:et)(ok:gi st)(AO:wS x.ea)(hq:c.bf=st.gen+1)(iQ:st.gen+1<18446744073709551616)
  (av:jg w o base fZ vE D X bw Cn)(Ha:∀j,X j\/bw j->¬O j/\¬iK j)(dX:D.fL)(Hb:vE<=30000)(MO:∀a o b,D.lf (a,o)=some b->b=[]\/b.length=512)
  (xs:List dp)(eF:ya D xs)(lj:xs.length<=90)(aC:640000<=gX cL ⟨x.s,[],[]⟩):
  bc prog 21 #[az m,.pointer (some ⟨z.c',0,none⟩),az cg,.agg (bN st),az o] w λv' w'=>
   v'=.tuple #[.agg (bN (tL c x st D xs).2.1),aa (tL c x st D xs).2.2]/\gi (tL c x st D xs).2.1/\km m p c.n cg z (tL c x st D xs).1 w' (aE O w w')/\H O w w':=by
 refine ayv func21 ntmps21 rfl (by simp) λbk af=> ?_;have nG:=lo ok;have mg:=un ok;have ee:=lo ts;have ak:=(km.ok m p c.n cg z x).lt h;obtain⟨a_,A,hb,rb,PK,ZO,eZ,_⟩:=id h;obtain⟨ai,dx,bu,bt,cY,cK,gZ,aU⟩:=aof w (.cells #[.pointer (some ⟨z.c',0,none⟩)] 35) (.cells (bN st) 46) (.cells (bN dU) 46) (.cells #[aa 0] 50);obtain⟨g,aH⟩:=aD (w.1.size);rw[aH]at bu bt cY cK gZ;have aCR:=aG bu 0;simp[go_sem,EA,nG,mg,wt,wu,dx,aH,aCR];obtain⟨vM,ao5⟩:=aD (g+1);obtain⟨go,lV⟩:=aD (vM+1);obtain⟨gp,pe⟩:=aD (go+1);rw[ao5]at bt;rw[show g+2=go by omega]at cY;rw[show g+3=gp by omega]at cK;simp only[ao5,lV,pe];have J:=(km.ok m p c.n cg z x).ch h aU λ_ _ e=>e;have sy:=av.ch aU (λ_ _ e=>e) λ_ _ e=>e;have fb:∀j,O j->j<g:=λj I=>by have:=ak j I;omega
 obtain⟨nP,kH⟩:=aD (tL c x st D xs);rw[kH]at af;refine(adG sy dX Hb).mono ?_;rintro y_ an ⟨jn,afQ,qR,aK,Ua⟩;have afR:=aoG afQ eF;subst afR;have cu:=qR.len underlying30 3;have cR:=aK.size;have jU:=aK.obj bu id;have jS:=aK.obj bt id;have JY:=aK.obj cY id;have Ut:=aK.obj cK id;have T:=(km.ok m p c.n cg z x).ch J aK λ_ _ e=>e;simp[go_sem,EA,cu];have bU:∀{u:M} {y:kY} {cJ:et} {ek:Int} {Q:Nat->Prop},nP=(y,cJ,ek)->gi cJ->km m p c.n cg z y u Q->(∀j,Q j->aE O ai u j)->H O w u->ai.1.size<=u.1.size->bk (.tuple #[.agg (bN cJ),aa ek]) u:=λ{u y cJ ek Q} Z Qc aN eT aS aA=>by
  subst Z;exact af _ _ ⟨rfl,Qc,(km.ok _ _ _ _ _ _).eK aN (λj I=>(eT j I).imp id λe=>⟨by omega,by omega⟩) (aE.lt ak (by omega)),aS⟩
 clear af;by_cases jJ:jn=[]
 ·subst jJ;have ax:nP=(x,st,0):=by rw[<-kH];unfold tL;rw[be rfl]
  have xZ:=(H.refl (aj go) an).setRow (g:=go) (.inl rfl) (bN st);have Ui:(an.setRow go (bN st)).1[go]? =some (.cells (bN st) 46 (0,0)):=by rw[gh,JY];rfl
  have Uu:=xZ.obj Ut λe=>by simp only[aj]at e;omega
  have anQ:=xZ.size;obtain⟨aJ,ik⟩:=aD (an.setRow go (bN st));rw[ik]at xZ Ui Uu anQ;have ao6:=aG Uu 0;have aCS:=dJ Uu 0;have HB:=(H.refl (aj gp) aJ).setCell (p:=bl gp 0) (.inl rfl) (aa 0);have ao7:=HB.obj Ui λe=>by simp only[aj]at e;omega
  have ao8:(aJ.setCell ⟨gp,0,none⟩ (aa 0)).cell? (bl gp 0)=some (aa 0):=World.cell?_setCell_same _ _ _ ao6;have jo:=HB.size;obtain⟨bs,qv⟩:=aD (aJ.setCell ⟨gp,0,none⟩ (aa 0));rw[qv]at HB ao7 ao8 jo;simp[go_sem,EA,jS,JY,nG,mg,ee,mW,bS,ik,ao6,aCS,qv,ao7,ao8];have kb:H (λj=>j=go\/j=gp) an bs:=(xZ.mono λ_ _ e=>.inl e).trans (HB.mono λ_ _ e=>.inr e);refine bU ax ok ((km.ok m p c.n cg z x).ch T kb λj I e=>by have:=fb j I;omega) (λj I=>.inl I) (((aU.trans aK).mono λ_ _ e=>e.elim).bZ kb λj I e=>by omega) (by omega)
 ·have Zt:¬jn.length=0:=λe=>jJ (wh e);have aCT:((jn.length:Int)==0)=false:=hv (by omega);have aCU:an.cell? (bl vM 0)=some (.int .u64 st.gen):=(aG jS 0).trans (by simp[bN,Ce]);have ZC:=aG jU 0;have adJ:IntKind.u64.wrap ((st.gen:Int)+1)=((st.gen+1:Nat):Int):=by rw[tg];omega
  simp[go_sem,EA,Zt,aCT,aCU,ZC,adJ,jJ];have aCV:(#[az m,.pointer (some ⟨z.c',0,none⟩),.int .u64 ((st.gen:Int)+1),.slice none 0 0]:Array N)=GZ m z c.bf (.slice none 0 0):=by simp[GZ,hq]
  rw[aCV];have aI:=((H.refl al an).alloc (.cells (GZ m z c.bf (.slice none 0 0)) 163)).alloc (.cells #[.pointer (some ⟨an.1.size,0,none⟩)] 161);have Zr:=oF an (.cells (GZ m z c.bf (.slice none 0 0)) 163) (.cells #[.pointer (some ⟨an.1.size,0,none⟩)] 161);have Uv:=nM an (.cells (GZ m z c.bf (.slice none 0 0)) 163) (.cells #[.pointer (some ⟨an.1.size,0,none⟩)] 161);have iC:((an.alloc (.cells (GZ m z c.bf (.slice none 0 0)) 163)).alloc (.cells #[.pointer (some ⟨an.1.size,0,none⟩)] 161)).1.size=an.1.size+2:=by simp
  obtain⟨aJ,ik⟩:=aD ((an.alloc (.cells (GZ m z c.bf (.slice none 0 0)) 163)).alloc (.cells #[.pointer (some ⟨an.1.size,0,none⟩)] 161));rw[ik]at aI Zr Uv iC⊢;clear ik;obtain⟨sI,ao9⟩:=aD (an.1.size);obtain⟨sE,uH⟩:=aD (sI+1);rw[ao9]at Zr Uv iC⊢;rw[uH]at Uv⊢;rw[ayu (h:=by simp[EA])];simp[go_sem];refine ays _ _ _ _ _ _ _ _ _ _ _ _ {target:=.fn (.func 65) #[az gp,az g,az vM,az go,az sE],args:=#[]} (by simp[go_sem]) ?_;have hQ:=(aK.trans aI);have qr:=aI.obj jU id;have jK:=aI.obj jS id;have zG:=aI.obj JY id;have af4:=aI.obj Ut id;have TI:=sy.ch hQ (λ_ _ e=>e) λ_ _ e=>e;have hK:H al w aJ:=aU.trans hQ;have JG:=hb.ch hK λ_ _ e=>e;have aCW:sH aJ cg p (jk x.ea.1 x.ea.2.1 x.ea.2.2):=hK.obj rb id;have kn:=cv.ch hK λ_ _ e=>e;have aCX:=fT.ch hK λe=>e;have aCY:=gB.ch hK λe=>e;have aRB:=LV cv fT gB;have aCZ:∀j,gU z m p a_ A j->j<g:=λj I=>fb j (ZO j I);have ao_:sw aJ iK:=⟨kn,aCX,aCY,λ_ h=>h⟩;obtain⟨rh,JZ⟩:∃rh:Nat->Prop,rh=λj=>gU z m p a_ A j\/j=sI\/iK j:=⟨_,rfl⟩;have aC0:lu aJ sI m p c.n z c.bf ⟨x.s,[],[]⟩ a_ A (.slice none 0 0):=⟨JG,Zr,pA _ _ _ _,by simp,λe=>by have:=aCZ _ e;omega,by simp[Value.ownBlock]⟩;have af5:hc sI m p c.n z c.bf aJ iK ⟨x.s,[],[]⟩ aJ rh:=by
   refine⟨a_,A,.slice none 0 0,aC0,λj I=> ?_,λj I=>⟨by rw[JZ];exact .inr (.inr I),rfl⟩,λj I=> ?_⟩
   ·rw[JZ];rcases I with I|rfl|I
    ·grind
    ·grind
    ·simp[Value.ownBlock]at I
   ·grind
  have af6:∀j,rh j->j<g\/j=sI:=λj I=>by
   grind
  have aC1:∀j,X j\/bw j->¬rh j:=λj I e=>by
   have:=av.lt j I
   grind
  have aC2:=aG Uv 0;simp[go_sem,aC2,jK,nG,mg];have ZP:¬rh cg:=λe=>by
   grind
  have aRC:=fb cg eZ;have ZQ:∀{u:M} {eP:eb} {Q:Nat->Prop} {E:Int} {out:et} {an':yd},hc sI m p c.n z c.bf aJ iK eP u Q->(∀j,Q j->aE rh aJ u j)->H (λj=>rh j\/j=go\/j=gp\/j=cg) aJ u->
    u.1[g]? =some (.cells #[.pointer (some ⟨z.c',0,none⟩)] 35 (0,0))->u.1[vM]? =some (.cells (bN st) 46 (0,0))->u.1[go]? =some (.cells (bN out) 46 (0,0))->u.1[gp]? =some (.cells #[aa E] 50 (0,0))->u.1[sE]? =some (.cells #[az sI] 161 (0,0))->
    sH u cg p (jk an'.1 an'.2.1 an'.2.2)->gi out->(E=0->nP=(⟨eP.s.all c.n 0,an'⟩,out,0))->(E≠0->nP=(⟨uG c.n eP,an'⟩,st,E))->
    GI prog {target:=.fn (.func 65) #[az gp,az g,az vM,az go,az sE],args:=#[]} u λw=>Qe prog 46 w (Uw prog 50 (az gp) bk w) go 0 w.1[go]? :=by
   intro u eP Q E out an' aN eT aS aC3 aC4 ao' af7 aC5 ZR Ux vP Et;obtain⟨jr,gM,GV,fh,fv,iY,oz⟩:=aN;have JJ:=aS.size;have aC6:∀j,Q j->(j<g\/j=sI)\/aJ.1.size<=j:=λj I=>(eT j I).imp (af6 j) λe=>e.1;have Uy:¬Q cg:=λe=>(eT cg e).elim ZP λe=>by omega
   have vJ:∀j,(j=gp\/j=g\/j=vM\/j=go\/j=sE)->¬Q j:=λj I e=>by have:=aC6 j e;omega
   have ZS:∀j,mG z j->Q j:=λj I=>(fv j (.inl (xV z m p jr gM j I))).1;have kJ:=H.mV (B:=iK) aS λj I=>(iY j I).2;have De:∀{cq:M} {s':ay} {cJ:et} {ek:Int},nP=(⟨s',an'⟩,cJ,ek)->gi cJ->e' cq m p c.n z s' jr gM->H (λj=>mG z j\/j=go) u cq->bk (.tuple #[.agg (bN cJ),aa ek]) cq:=λ{cq s' cJ ek} ax fs JE Fh=>by
    have aRD:=Fh.size;refine bU (Q:=λj=>gU z m p jr gM j\/j=cg) ax fs ⟨jr,gM,JE,Fh.obj ZR λe=>e.elim (λe=>Uy (ZS _ e)) λe=>by omega,λe=>Uy (fv _ (.inl e)).1,λj I=>.inl I,.inr rfl,λj I=> ?_⟩ (λj I=> ?_) ?_ (by omega)
    ·rcases I with I|rfl
     ·exact JE.ih j I
     ·omega
    ·rcases I with I|rfl
     ·obtain⟨bn,bh⟩:=fv j (.inl I);rcases eT j bn with e|e
      ·rw[JZ]at e;rcases e with e|rfl|e
       ·exact .inl (ZO j e)
       ·exact .inr ⟨by omega,by omega⟩
       ·exact absurd e bh
      ·exact .inr ⟨by omega,by omega⟩
     ·exact .inl eZ
    ·refine((hK.mono λ_ _ e=>e.elim).bZ kJ λj I e=> ?_).bZ Fh λj I e=> ?_
     ·obtain⟨e,aR⟩:=e;rw[JZ]at e;rcases e with(e|e|e)|e|e|e
      ·exact ZO j e
      ·omega
      ·exact absurd e aR
      ·omega
      ·omega
      ·rw[e];exact eZ
     ·rcases e with e|e
      ·obtain⟨bn,bh⟩:=fv j (.inl (xV z m p jr gM j e));rcases eT j bn with e|e
       ·rw[JZ]at e;rcases e with e|e|e
        ·exact ZO j e
        ·omega
        ·exact absurd e bh
       ·omega
      ·omega
   refine GI.intro (by simp[go_sem]) (ayz.ayA (aCl fh aq ok (lo Ux) af7 aC3 aC4 ao' aC5 (λj I e=>vJ j I (fv j e).1) ⟨by omega,by omega,by omega,by omega⟩) λw' hi=> ?_);obtain⟨bn,bh⟩:=hi;by_cases bi:E=0
   ·obtain⟨JE,Fh⟩:=bn bi;have af8:=Fh.obj ao' λe=>vJ go (by simp) (ZS _ e);have af9:=Fh.obj af7 λe=>vJ gp (by simp) (ZS _ e);have HB:=aG af9 0;have HC:=lo Ux;have Uz:=un Ux;have f:=De (vP bi) Ux JE.pm (Fh.mono λ_ _ e=>.inl e);rw[bi]at HB;simp[go_sem,af8,HB,HC,Uz];exact f
   ·obtain⟨JE,af8,Fh⟩:=bh bi;have af9:=Fh.obj af7 λe=>e.elim (λe=>vJ gp (by simp) (ZS _ e)) λe=>by omega
    have HB:=aG af9 0;have f:=De (Et bi) ok JE.pm Fh;simp[go_sem,af8,HB,nG,mg];exact f
  clear bU;have fz:nP=let y:=mI (ms c) c.bf st.dd st.top (fk D) (jn.map (·.val)) ⟨x.s,[],[]⟩
   if y.2.2≠0 then(⟨uG c.n y.1,x.ea⟩,st,y.2.2)else
   let f:=y.1.s.ev
   if f.2≠0 then(⟨uG c.n {y.1 with s:=f.1},x.ea⟩,st,f.2)else
   let e:=vO x.ea.1 c.bf f.1.P.off f.1.P.dS;let s':ay:={f.1 with P:=if c.bf<=x.ea.1 then f.1.P else f.1.P.step}
   if e≠0 then(⟨uG c.n {y.1 with s:=s'},x.ea⟩,st,e)else
   (⟨s'.all c.n 0,(c.bf,y.2.1.1.h,y.2.1.1.a)⟩,⟨c.bf,y.2.1.1,y.2.1.2⟩,0):=by
   rw[<-kH];unfold tL;rw[aQ jJ]
  have pC:=aCP dC ao_ (by omega) aq st.dd st.top (fk D) (λn=>afG D _) (jn.map (·.val)) ⟨x.s,[],[]⟩ c.bf;rw[oV]at pC;refine(aCy dC ao_ (by omega) aq af5 st ok TI aC1 dX Hb MO jn eF (by omega) (by omega)).mono ?_;obtain⟨⟨t4,⟨tM,J_⟩,dl⟩,lv⟩:∃y,mI (ms c) c.bf st.dd st.top (fk D) (jn.map (·.val)) ⟨x.s,[],[]⟩=y:=⟨_,rfl⟩;rw[lv]at fz pC⊢;simp only at fz pC;rintro _ bs ⟨rfl,wT,aP,bo⟩;simp only at wT aP⊢;obtain⟨UA,apa⟩:=aD (Hs c.bf st ((tM,J_),dl));rw[apa]at wT⊢;have jo:=bo.size;have UB:=lo wT;have af_:=un wT;have Qf:∀j,g<=j/\j<sI\/j=sE->¬rh j:=λj I e=>by have:=af6 j e;omega
  have n_:=bo.obj qr (Qf g (by omega));have m_:=bo.obj jK (Qf vM (by omega));have MR:=bo.obj zG (Qf go (by omega));have Be:=bo.obj af4 (Qf gp (by omega));have aC7:=bo.obj Uv (Qf sE (by omega));have aC8:sH bs cg p (jk x.ea.1 x.ea.2.1 x.ea.2.2):=bo.obj aCW ZP;have bE:=(H.refl (aj go) bs).setRow (g:=go) (.inl rfl) (bN UA);have TK:(bs.setRow go (bN UA)).1[go]? =some (.cells (bN UA) 46 (0,0)):=by rw[gh,MR];rfl
  have J':=bE.obj Be λe=>by simp only[aj]at e;omega
  have kV:=bE.size;obtain⟨bD,qq⟩:=aD (bs.setRow go (bN UA));rw[qq]at bE TK J' kV;have aC9:=aG J' 0;have aC_:=dJ J' 0;have cF:=(H.refl (aj gp) bD).setCell (p:=bl gp 0) (.inl rfl) (aa dl);have UC:=cF.obj TK λe=>by simp only[aj]at e;omega
  have Ka:(bD.setCell ⟨gp,0,none⟩ (aa dl)).1[gp]? =some (.cells #[aa dl] 50 (0,0)):=by rw[eU,J'];rfl
  have qs:=cF.size;obtain⟨cD,nc⟩:=aD (bD.setCell ⟨gp,0,none⟩ (aa dl));rw[nc]at cF UC Ka qs;have aC':=aG Ka 0;have aRE:=dJ Ka 0;simp[go_sem,MR,UB,ee,mW,bS,qq,aC9,aC_,nc,aC'];have wG:H (λj=>j=go\/j=gp) bs cD:=(bE.mono λ_ _ e=>.inl e).trans (cF.mono λ_ _ e=>.inr e);have aT:=hc.ok sI m p c.n z c.bf aJ iK;have zU:∀j,g<=j/\j<sI\/j=sE->¬aE rh aJ bs j:=λj I e=>e.elim (Qf j I) λe=>by omega
  have cS:=(aT t4).ch aP wG λj I e=>zU j (by omega) I;have Fi:=wG.obj n_ λe=>by omega
  have sz:=wG.obj m_ λe=>by omega
  have apb:=wG.obj aC7 λe=>by omega
  have apc:sH cD cg p (jk x.ea.1 x.ea.2.1 x.ea.2.2):=wG.obj aC8 λe=>by omega
  have apd:H (λj=>rh j\/j=go\/j=gp\/j=cg) aJ cD:=(bo.mono λ_ _ e=>.inl e).trans (wG.mono λ_ _ e=>.inr (e.imp id .inl));have ZT:∀{u:M} {out:et} {E:Int},gi out->u.1[go]? =some (.cells (bN out) 46 (0,0))->u.1[gp]? =some (.cells #[aa E] 50 (0,0))->∃nV gw u2,u.drew=nV/\nV.setRow go (bN out)=gw/\gw.setCell ⟨gp,0,none⟩ (aa E)=u2/\
    nV.1[go]? =some (.cells (bN out) 46 (0,0))/\nV.cell? (bl gp 0)=some (aa E)/\gw.cell? (bl gp 0)=some (aa E)/\gw.frozen? (bl gp 0)=false/\u2.1[go]? =some (.cells (bN out) 46 (0,0))/\u2.1[gp]? =some (.cells #[aa E] 50 (0,0))/\H (λj=>j=go\/j=gp) u u2:=by
   intro u out E Ux av aV;have k0:=(H.refl al u).drew;obtain⟨nV,tz⟩:=aD (u.drew);rw[tz]at k0;have tv:=k0.obj av id;have dk:=k0.obj aV id;have bn:=(H.refl (aj go) nV).setRow (g:=go) (.inl rfl) (bN out);have nL:(nV.setRow go (bN out)).1[go]? =some (.cells (bN out) 46 (0,0)):=by rw[gh,tv];rfl
   have aL:=bn.obj dk λe=>by simp only[aj]at e;omega
   obtain⟨gw,uq⟩:=aD (nV.setRow go (bN out));rw[uq]at bn nL aL;have bh:=(H.refl (aj gp) gw).setCell (p:=bl gp 0) (.inl rfl) (aa E);have hr:=bh.obj nL λe=>by simp only[aj]at e;omega
   have aR:(gw.setCell ⟨gp,0,none⟩ (aa E)).1[gp]? =some (.cells #[aa E] 50 (0,0)):=by rw[eU,aL];rfl
   exact⟨nV,gw,_,tz,uq,rfl,tv,aG dk 0,aG aL 0,dJ aL 0,hr,aR,((k0.mono λ_ _ e=>e.elim).trans (bn.mono λ_ _ e=>.inl e)).trans (bh.mono λ_ _ e=>.inr e)⟩
  by_cases Hv:dl=0
  case neg=>
   have gA:(dl !=0)=true:=by simpa using Hv
   rw[be Hv]at fz;simp[go_sem,gA];refine cT [F 0,F 1,(2,some [1]),(3,some [])] ?_;obtain⟨nV,gw,u2,tz,uq,vr,tv,fa,hf,js,hr,aR,gv⟩:=ZT wT UC Ka;rw[tz];simp[go_sem,tv,fa,hf,js,UB,af_,mW,bS,uq,vr];have af':=apd.trans (gv.mono λ_ _ e=>.inr (e.imp id .inl));exact ZQ ((aT t4).ch cS gv λj I e=>zU j (by omega) I) (λj I=>I.imp id λe=>⟨e.1,by have:=gv.size;omega⟩) af' (gv.obj Fi λe=>by omega) (gv.obj sz λe=>by omega) hr aR (gv.obj apb λe=>by omega) (gv.obj apc λe=>by omega) wT (λe=>absurd e Hv) λ_=>fz
  subst Hv;have ape:((0:Int)!=0)=false:=by decide
  rw[aQ (by simp)]at fz;simp[go_sem,ape];obtain⟨aW,bg,bR⟩:=PG dC (show 16<=gX cL t4 by omega);obtain⟨aDa,aDb,aRF,fh,fv,iY,oz⟩:=id cS;refine(aDc ⟨aDa,aDb,fh.pm,λ_ e=>e,fh.pm.ih⟩ aW (by omega)).mono ?_;rintro _ cE ⟨rfl,aga,dE⟩;obtain⟨aRG,agb,aDd,aDe⟩:=fh.aCO aga dE;obtain⟨fi,Kb⟩:=hc.step fh fv iY oz aDd aDe dE λj I=>.inl I;obtain⟨⟨iy,hX⟩,hn⟩:∃y,t4.s.ev=y:=⟨_,rfl⟩;rw[hn]at fz fi;simp only[hn]at fz fi⊢;have ZU:=Kb.size;have aDf:=Kb.obj Fi (zU g (by omega));have agc:=Kb.obj sz (zU vM (by omega));have aDg:=Kb.obj UC (zU go (by omega));have agd:=Kb.obj Ka (zU gp (by omega));have aDh:=Kb.obj apb (zU sE (by omega));have aDi:sH cE cg p (jk x.ea.1 x.ea.2.1 x.ea.2.2):=Kb.obj apc λe=>e.elim ZP λe=>by omega
  have aDj:=aG agd 0;have aDk:=dJ agd 0;have ds:=(H.refl (aj gp) cE).setCell (p:=bl gp 0) (.inl rfl) (aa hX);have ZV:(cE.setCell ⟨gp,0,none⟩ (aa hX)).1[gp]? =some (.cells #[aa hX] 50 (0,0)):=by rw[eU,agd];rfl
  have Zi:=ds.size;obtain⟨ec,CU⟩:=aD (cE.setCell ⟨gp,0,none⟩ (aa hX));rw[CU]at ds ZV Zi;have Df:∀j,j≠gp->¬aj gp j:=λj I e=>I e;have apf:=ds.obj aDf (Df g (by omega));have Bo:=ds.obj agc (Df vM (by omega));have apg:=ds.obj aDg (Df go (by omega));have aph:=ds.obj aDh (Df sE (by omega));have api:sH ec cg p (jk x.ea.1 x.ea.2.1 x.ea.2.2):=ds.obj aDi (Df cg (by omega));have aDl:=aG ZV 0;have age:∀j,g<=j/\j<sI\/j=sE->¬aE (aE rh aJ bs) cD cE j:=λj I e=>e.elim (zU j I) λe=>by omega
  have er:=(aT _).ch fi ds λj I e=>age j (by simp only[aj]at e;omega) I;have UD:∀j,aE (aE rh aJ bs) cD cE j->aE rh aJ ec j:=λj I=>by
   rcases I with(I|I)|I
   ·exact .inl I
   ·exact .inr ⟨I.1,by omega⟩
   ·exact .inr ⟨by omega,by omega⟩
  have Ox:H (λj=>rh j\/j=go\/j=gp\/j=cg) aJ ec:=(apd.bZ Kb λj I e=>.inl (e.elim id λe=>by omega)).trans (ds.mono λ_ _ e=>.inr (.inr (.inl e)));simp[go_sem,aDj,aDk,CU,aDl];by_cases ri:hX=0
  case neg=>
   have gA:(hX !=0)=true:=by simpa using ri
   rw[be ri]at fz;simp[go_sem,gA];refine cT [F 0,F 1,(2,some [1]),(3,some [])] ?_;obtain⟨nV,gw,u2,tz,uq,vr,tv,fa,hf,js,hr,aR,gv⟩:=ZT wT apg ZV;rw[tz];simp[go_sem,tv,fa,hf,js,UB,af_,mW,bS,uq,vr];have af':=Ox.trans (gv.mono λ_ _ e=>.inr (e.imp id .inl));exact ZQ ((aT _).ch er gv λj I e=>age j (by omega) I) (λj I=>(UD j I).imp id λe=>⟨e.1,by have:=gv.size;omega⟩) af' (gv.obj apf λe=>by omega) (gv.obj Bo λe=>by omega) hr aR (gv.obj aph λe=>by omega) (gv.obj api λe=>by omega) wT (λe=>absurd e ri) λ_=>fz
  subst ri;rw[aQ (by simp)]at fz;simp[go_sem,ape];refine cT [F 0,F 1,F 2,F 3,F 4,F 5,F 6,F 7,F 8,F 9,F 10,(11,some [0]),(12,some []),(13,some [])] ?_;have dH:=(H.refl al ec).drew;obtain⟨hO,lq⟩:=aD (ec.drew);have kW:hO.1.size=ec.1.size:=by rw[<-lq];rfl
  rw[lq]at dH⊢;clear lq;have bm:=(aT _).ch er dH λ_ _ e=>e;have Fb:=dH.obj apf id;have zK:=dH.obj Bo id;have ZW:=dH.obj apg id;have MS:=dH.obj ZV id;have aDm:=dH.obj aph id;have aDn:sH hO cg p (jk x.ea.1 x.ea.2.1 x.ea.2.2):=dH.obj api id;have Ht:UA=⟨c.bf,tM,J_⟩:=by rw[<-apa];exact be rfl
  subst Ht;have Kc:=wT.top;have aDo:hO.cell? (bl go 0)=some (.int .u64 c.bf):=(aG ZW 0).trans (by simp[bN,Ce]);have lr:=ZN wT;obtain⟨a0,a1,a2,a3,ao,aRH,aRI,aRJ,aRK⟩:=a4 Kc;have mR:∀(i a:Nat),i<4->tM.a[i]? =some a->hO.cell? (bl go (38+i))=some (.int .u16 a):=λi a ad h=>by
   rw[aG ZW];have J:=mS Kc h;rw[<-lr,Sd,be (by omega)]at J
   grind
  have gW:hO.cell? (bl go 38)=some (.int .u16 a0):=mR 0 a0 (by omega) (by rw[ao];rfl);have dc:hO.cell? (bl go 39)=some (.int .u16 a1):=mR 1 a1 (by omega) (by rw[ao];rfl);have hl:hO.cell? (bl go 40)=some (.int .u16 a2):=mR 2 a2 (by omega) (by rw[ao];rfl);have ew:hO.cell? (bl go 41)=some (.int .u16 a3):=mR 3 a3 (by omega) (by rw[ao];rfl);have MT:(bN ⟨c.bf,tM,J_⟩).extract 6 38=(br tM.h).toArray:=by
   rw[<-WW Kc,<-lr];simp[Array.extract_extract]
  have wF:=λ{w:M} {K:N->M->Prop}=>aDp c.bf tM.h tM.a Kc.h Kc.a (w:=w) (K:=K);rw[show(hg tM.a).toArray=#[.int .u16 a0,.int .u16 a1,.int .u16 a2,.int .u16 a3]by rw[ao];rfl]at wF;simp[go_sem,ZW,UB,af_,aDo,gW,dc,hl,ew,MT,wF];obtain⟨ZX,ZY,agf,pk,sp,z3,z4⟩:=id bm;have aDq:=(pk.pm.kW 0 (by omega)).vB;have aDr:=(aW.lX 0).lX 1;have aDs:iy.P.dS<=9223372036854775807:=by
   have:=aDr.dS;rw[show(((t4.s.lX 0).1.lX 1).1)=t4.s.ev.1 from rfl,hn]at this;exact this
  have ZZ:=sp p (.inl (.inr (.inr (.inr rfl))));have Uy:¬aE (aE rh aJ bs) cD cE cg:=λe=>(UD cg e).elim ZP λe=>by omega
  have aDt:cg≠p:=λe=>Uy (by rw[e];exact ZZ.1);have GW:F' c.bf tM.h tM.a:=⟨by omega,Kc.h,Kc.a,λi x W=>Kc.dI x (ib W)⟩;refine(aDu cg p iy.P.off iy.P.dS x.ea.1 x.ea.2.1 x.ea.2.2 c.bf tM.h tM.a hO AO GW aDn aDq aDt aDs).mono ?_;obtain⟨E,hx⟩:=aD (vO x.ea.1 c.bf iy.P.off iy.P.dS);rw[hx]at fz⊢;rintro _ db ⟨rfl,dV,aDv,agh⟩;have rG:=dV.size;obtain⟨agi,Za⟩:=aD ((if c.bf<=x.ea.1 then iy.P else iy.P.step));have aDw:ty db p agi:=by
   rw[ad9]at agh;rw[<-Za];unfold ty;split<;>rename_i eh<;>simp only[eh,if_true,if_false]at agh<;>exact agh
  rw[Za]at fz;have kh:∀j,j≠cg->j≠p->¬kl cg p j:=λj J T e=>e.elim J T;have agj:∀j,oL sI m p z ZX ZY agf j->j≠cg:=λj I e=>Uy (by rw[<-e];exact(sp j I).1);have aDx:lu db sI m p c.n z c.bf ⟨{iy with P:=agi},t4.bX,t4.gN⟩ ZX ZY agf:=
   ⟨pk.pm.aCN dV (λj I HD=>kh j (agj j (.inl I)) HD) aDw,dV.obj pk.blk (kh sI (agj sI (.inr (.inl rfl))) λe=>pk.oM (by rw[e];exact .inr (.inr (.inr rfl)))),gu pk.fS dV λj I=>kh j (agj j (.inr (.inr I))) λe=>(pk.fe j I).1 (by rw[e];exact .inr (.inr (.inr rfl))),pk.lP,pk.oM,pk.fe⟩
  have ir:hc sI m p c.n z c.bf aJ iK ⟨{iy with P:=agi},t4.bX,t4.gN⟩ db (aE (aE rh aJ bs) cD cE):=by
   refine⟨ZX,ZY,agf,aDx,sp,λj I=>⟨(z3 j I).1,?_⟩,λj I=>gQ (z4 j I) rG⟩;obtain⟨ji,sJ⟩:∃ji,hO.1[j]? =some ji:=⟨_,yP (z4 j (z3 j I).1)⟩;rw[dV.obj sJ (kh j (λe=>jj j I (by rw[e];exact eZ)) λe=>ZZ.2 (by rw[<-e];exact I)),<-(z3 j I).2,sJ]
  have HE:p<g\/aJ.1.size<=p:=by
   rcases UD p ZZ.1 with e|e
   ·rcases af6 p e with e|e
    ·exact .inl e
    ·exact absurd (by rw[e];exact .inr (.inr (.inr rfl)):gU z m p ZX ZY sI) pk.oM
   ·exact .inr e.1
  have UE:∀j,g<=j/\j<sI\/j=sE->¬kl cg p j:=λj I=>kh j (λe=>by omega) λe=>by omega
  have Zb:=dV.obj Fb (UE g (by omega));have PN:=dV.obj zK (UE vM (by omega));have Z_:=dV.obj ZW (UE go (by omega));have aDy:=dV.obj MS (UE gp (by omega));have apj:=dV.obj aDm (UE sE (by omega));have hf:=(H.refl (aj go) db).setRow (g:=go) (.inl rfl) (bN ⟨c.bf,tM,J_⟩);have nL:(db.setRow go (bN ⟨c.bf,tM,J_⟩)).1[go]? =some (.cells (bN ⟨c.bf,tM,J_⟩) 46 (0,0)):=by rw[gh,Z_];rfl
  have aL:=hf.obj aDy λe=>by simp only[aj]at e;omega
  obtain⟨gw,uq⟩:=aD (db.setRow go (bN ⟨c.bf,tM,J_⟩));rw[uq]at hf nL aL;have eI:=(H.refl (aj gp) gw).setCell (p:=bl gp 0) (.inl rfl) (aa E);have hr:=eI.obj nL λe=>by simp only[aj]at e;omega
  have aR:(gw.setCell ⟨gp,0,none⟩ (aa E)).1[gp]? =some (.cells #[aa E] 50 (0,0)):=by rw[eU,aL];rfl
  have Kd:=aG aL 0;have aDz:=dJ aL 0;obtain⟨u2,vr⟩:=aD (gw.setCell ⟨gp,0,none⟩ (aa E));rw[vr]at eI hr aR;simp[go_sem,Z_,UB,mW,bS,uq,Kd,aDz,vr];have pP:H (λj=>j=go\/j=gp) db u2:=(hf.mono λ_ _ e=>.inl e).trans (eI.mono λ_ _ e=>.inr e);have apk:=pP.size;have apl:H (λj=>rh j\/j=go\/j=gp\/j=cg) aJ u2:=((Ox.trans (dH.mono λ_ _ e=>e.elim)).bZ dV λj I e=>by
   rcases e with e|e
   ·exact .inr (.inr (.inr e))
   ·rw[e];exact .inl ((UD p ZZ.1).elim id λe=>by omega)).trans (pP.mono λ_ _ e=>.inr (e.imp id .inl))
  have apm:=(aT _).ch ir pP λj I e=>age j (by omega) I;have ES:∀j,aE (aE rh aJ bs) cD cE j->aE rh aJ u2 j:=λj I=>(UD j I).imp id λe=>⟨e.1,by omega⟩;have Z':=pP.obj aDv λe=>by omega
  by_cases vP:E=0
  ·rw[aQ (by simpa using vP)]at fz;rw[be vP]at Z';exact ZQ (an':=(c.bf,tM.h,tM.a)) apm ES apl (pP.obj Zb λe=>by omega) (pP.obj PN λe=>by omega) hr aR (pP.obj apj λe=>by omega) Z' wT (λ_=>fz) λe=>absurd vP e
  ·rw[be vP]at fz;rw[aQ vP]at Z';exact ZQ apm ES apl (pP.obj Zb λe=>by omega) (pP.obj PN λe=>by omega) hr aR (pP.obj apj λe=>by omega) Z' wT (λe=>absurd e vP) λ_=>fz
end
end Go.Proofs.YtoohkhcpboldjaaGreatDoor
