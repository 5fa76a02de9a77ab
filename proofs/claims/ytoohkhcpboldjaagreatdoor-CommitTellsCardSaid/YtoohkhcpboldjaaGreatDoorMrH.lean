/- Mirrors write. No condition but on sizes. -/
import Derived.Test.YtoohkhcpboldjaaGreatDoorMrE
set_option maxRecDepth 100000
set_option maxHeartbeats 4000000
set_option linter.unusedSimpArgs false
set_option linter.unusedVariables false
namespace Go.Proofs.YtoohkhcpboldjaaGreatDoor
open Go.RowKit Go.Kin Tryz
section
variable {w w':M}{m p n i:Nat}{z:fV}{s:ay}{a_:N}{A:Nat->Nat->Prop}{O O' S:Nat->Prop}{c:Nat}
theorem aHj(n:Nat)(s:ay)(q:Pt)(l:List Nat):∀j∈(s.run n q l).dN,j∈l:=by
 revert l;refine aaM (λj I=>by simp[ay.run]at I) λl k bL j I=> ?_;rw[ay.Qg]at I;unfold ay.step at I
 grind
theorem aHk(n:Nat)(s:ay)(q:Pt)(l:List Nat):∀j∈s.rz n q l,j∈l:=by
 induction l with
 |nil=>exact λj I=>I
 |cons k l bL=>
  intro j I;unfold ay.rz at I
  grind
theorem aHl(n:Nat)(s:ay)(q:Pt)(all:Bool):∀j∈s.pS n q all,j∈eA q.a 4:=λj I=>by
 unfold ay.pS at I;split at I
 ·exact I
 ·exact aHk n s q _ j I
theorem ahD(n:Nat)(s:ay)(q:Pt)(all:Bool):(s.pS n q all).length<=4:=by
 have aP:(eA q.a 4).length<=4:=by unfold eA;exact dK (OO _ _) (by simp)
 have Z:∀l,(s.rz n q l).length<=l.length:=λl=>by
  induction l with
  |nil=>exact c_ _
  |cons k l bL=>
   unfold ay.rz
   grind
 unfold ay.pS
 grind
theorem aHm(q:Pt){l:List Nat}{k j:Nat}(h:l[k]? =some j):(HQ q l)[k*2]? =some (aa (j / 2:Nat))/\(HQ q l)[k*2+1]? =some (.int .u16 (du q j)):=by
 induction l generalizing k with
 |nil=>simp at h
 |cons a l bL=>
  have e:HQ q (a::l)=[aa ((a:Int) / 2),.int .u16 (q.a.getD a 0)]++HQ q l:=rfl;rw[e]
  cases k with
  |zero=>
   simp at h;subst h;exact⟨by simp,by simp[du]⟩
  |succ k=>
   grind
structure Vr(w:M)(m p n:Nat)(z:fV)(V:ay×cW×Int)(O:Nat->Prop)(u:N)(w':M):Prop where
 dR:bC w' u V.2.1.length (br V.2.1)
 dI:∃O',kF w' m p n z V.1 O'/\(∀k,O' k->aE O w w' k)/\(∀j,u.ownBlock=some j->w.1.size<=j/\¬O' j)
 ch:H O w w'
theorem aHn(h:kF w m p n z s O)(q:Pt)(ok:cc q)(bM:mb w)(r:jz w)(all:Bool){dq:FuncId}(QN:aht dq all)(lQ:s.il c)(Z:c<=800000)(uH:¬O 3):
  bc prog 153 #[az m,.agg (ae q),.func (.func dq) #[] #[]] w λv' w'=>∃u,v'=.tuple #[u,aa (s.nS n q all).2.2]/\Vr w m p n z (s.nS n q all) O u w':=by
 refine bz func153 ntmps153 λbk af=> ?_;have de:=cd ok;have da:=ef ok;have bu:=cr w (.cells (ae q) 44);have aU:=(H.refl al w).alloc (.cells (ae q) 44);have gZ:(w.alloc (.cells (ae q) 44)).1.size=w.1.size+1:=by simp
 have ak:=h.lt;simp[go_sem,de,da];obtain⟨g,aH⟩:=aD (w.1.size);rw[aH]at bu gZ⊢;generalize w.alloc (.cells (ae q) 44)=ai at*;refine(DY q ai ok (bM.ch aU id)).mono ?_;rintro _ an ⟨rfl,aK⟩;have gx:H al w an:=aU.trans aK;have jU:=aK.obj bu id;have T:=h.ch gx λ_ _ e=>e
 cases nQ:jY q with
 |false=>
  have W:s.nS n q all=(s,[],1):=by unfold ay.nS;rw[nQ];rfl
  simp[go_sem];rw[W]at af;exact af _ _ ⟨_,rfl,bC.nil _,⟨O,T,λk r=>.inl r,λj I=>by simp[Value.ownBlock]at I⟩,gx.mono λ_ _ e=>e.elim⟩
 |true=>
  simp[go_sem,jU,de,da];obtain⟨a_,A,fg,QR,ahB⟩:=id T;have Tm:m≠3:=λe=>uH (by rw[<-e];exact h.own.1);refine(aGC fg q ok (r.ch gx id) all QN Tm λi=>by have:=lQ.eV i;omega).mono ?_;rintro _ aJ ⟨ce,dY,rfl,ab,jB,Vs,art,aI⟩;obtain⟨t,bj⟩:=aD (s.run n q (s.pS n q all));rw[bj]at ab jB art;have aHo:H O an aJ:=aI.mono λj _ e=>by simp only[aj]at e;subst e;exact h.own.1
  have hK:H O w aJ:=(gx.mono λ_ _ e=>e.elim).trans aHo;have ag:kF aJ m p n z {s with eV:=t.a'} O:=⟨a_,A,art,QR,λk r=>gQ (ahB k r) aI.size⟩;have qr:=aI.obj jU λe=>by simp only[aj]at e;have:=ak m h.own.1;omega
  cases oQ:t.blk with
  |none=>
   have W:s.nS n q all=({s with eV:=t.a'},[],21):=by unfold ay.nS;rw[nQ,be rfl];simp only[bj,oQ]
   rw[oQ]at ab;have ab:ce=.slice none 0 0:=ab;subst ab;simp[go_sem,arj];rw[W]at af;exact af _ _ ⟨_,rfl,bC.nil _,⟨O,ag,λk r=>.inl r,λj I=>by simp[Value.ownBlock]at I⟩,hK⟩
  |some b=>
   have W:s.nS n q all=(t.dN.foldl (ay.uJ n q b) {s with eV:=t.a'},b,0):=by unfold ay.nS;rw[nQ,be rfl];simp only[bj,oQ]
   rw[oQ]at ab;obtain⟨iQ,bx,jN,rfl,qt,aaS,aSg⟩:=ab;have cu:∀w',(Builtin.len_ #[342] 3 #[dY]).run prog w'=.ok (aa t.dN.length) w':=λw'=>by
    rcases jB.2 with⟨aM,bi⟩|⟨g,cap,dF,aM,_⟩
    ·subst aM;simp[Builtin.len_,run_underlying underlying342,goInt,bi]
    ·subst aM;rfl
   have aSh:t.dN.length<=4:=by rw[<-bj];exact dK (ahs n s q _) (ahD n s q all)
   simp[go_sem,ark,cu];have aHp:({s with eV:=t.a'}:ay).il (c+4):=by
    refine⟨lQ.dS,λi ad=>by have:=lQ.bT i ad;show(s.aB i).bT.length<=_;omega,lQ.gl,λi=> ?_,λi=>by have:=lQ.gd i;show s.gd i<=_;omega,by have:=lQ.dW;grind⟩;have J:=ahr n s q (s.pS n q all) i;have T:=lQ.eV i;have ag:=ahD n s q all;rw[bj]at J;show t.a' i<=_;omega
   have aru:∀j,w.1.size<=j->¬O j:=λj I e=>by have:=ak j e;omega
   refine di (λV f u=>∃k O',V=t.dN.length - k/\k<=t.dN.length/\f 28=dY/\f 29=aa t.dN.length/\f 30=aa k/\f 0=az m/\f 4=az g/\f 8=.slice (some bx) 512 jN/\kF u m p n z ((t.dN.take k).foldl (ay.uJ n q b) {s with eV:=t.a'}) O'/\((t.dN.take k).foldl (ay.uJ n q b) {s with eV:=t.a'}).il (c+4+k)/\(∀j,O' j->O j\/aJ.1.size<=j)/\H O aJ u) t.dN.length
    ⟨0,O,rfl,gG _,by simp,by simp,by simp,by simp,by simp,by simp,by simpa using ag,by simpa using aHp,λj I=>.inl I,H.refl _ _⟩ ?_
   rintro cQ bJ _ f u ⟨k,O',rfl,ox,f28,f29,No,f0,ck,bB,lI,BG,tJ,aS⟩;by_cases aO:k<t.dN.length
   ·have vb:(k:Int)<t.dN.length:=by omega
    have ej:IntKind.i64.wrap ((k:Int)+1)=(k:Int)+1:=by rw[cz];omega
    obtain⟨j,I⟩:∃j,t.dN[k]? =some j:=⟨_,d_ aO⟩;have aHq:j<4:=(MN (aHl n s q all j (aHj n s q _ j (by grind)))).1;obtain⟨tD,fR⟩:=aHm q I;obtain⟨arv,cap,dF,ahE,aSi,aSj,aeG,aSk,arw⟩:=A' jB (by omega);have arx:¬O arv:=aru _ (by have:=Vs arv (by rw[ahE];rfl);have:=gx.size;omega);have tB:=aS.cell (arw _ _ tD) arx;have gw:=aS.cell (arw _ _ fR) arx;obtain⟨i,ly⟩:=aD (j / 2);rw[ly]at tB;rw[ahE]at f28;have sO:=aS.obj qr (aru _ (by omega));have Vt:=(H.refl al u).alloc (.cells #[aa i,.int .u16 (du q j)] 346);have Bq:=cr u (.cells #[aa i,.int .u16 (du q j)] 346);have cx:=λj=>aG Bq j;have aHr:=Vt.obj sO id;have lx:bC u (.slice (some bx) 512 jN) b.length (br b):=by rw[iQ];exact qt.ch aS λj I=>by simp[Value.ownBlock]at I;grind
    have kZ:jz (u.alloc (.cells #[aa i,.int .u16 (du q j)] 346)):=((r.ch hK uH).ch aS uH).ch Vt id;have aHs:∀x,(Value.slice (some bx) 512 jN).ownBlock=some x->¬O' x:=λx W e=>by
     simp[Value.ownBlock]at W
     grind
    have aHt:¬O' 3:=λe=>by
     rcases tJ _ e with e|e
     ·exact uH e
     ·have:=r.lt;have:=hK.size;omega
    have ary:=aG5 (lI.ch Vt λ_ _ e=>e) q ok kZ j aHq b (.slice (some bx) 512 jN) (lx.ch Vt λ_ _ e=>e) aHs BG (by omega) aHt;rw[ly]at ary;simp[go_sem,f28,f29,No,f0,ck,bB,aO,vb,tB,gw,aHr,cx,de,da];refine ary.mono ?_;rintro v5 bD ⟨bH,bE⟩;simp[go_sem,No,ej];have aL:(t.dN.take (k+1)).foldl (ay.uJ n q b) {s with eV:=t.a'}=ay.uJ n q b ((t.dN.take k).foldl (ay.uJ n q b) {s with eV:=t.a'}) j:=by
     rw[nA,I];simp
    refine ct.intro (t.dN.length -(k+1)) (by omega) (bJ _ _ _ ⟨k+1,_,rfl,by omega,by simp[f28,ahE],by simp[f29],by simp,by simp[f0],by simp[ck],by simp[bB],by rw[aL];exact bH,by rw[aL];exact BG.uJ q b j,λx W=> ?_,?_⟩)
    ·rcases W with W|W
     ·exact tJ x W
     ·have:=aS.size;grind
    ·exact(aS.trans (Vt.mono λ_ _ e=>e.elim)).bZ bE λx W e=>(tJ x e).resolve_right (by omega)
   ·obtain rfl:k=t.dN.length:=by omega
    simp[go_sem,f29,No,bB];rw[W]at af;rw[wm]at lI;refine af _ _ ⟨_,rfl,?_,⟨O',lI,λx W=> ?_,λx W=> ?_⟩,hK.trans aS⟩
    ·rw[iQ];exact qt.ch aS λj I=>by simp[Value.ownBlock]at I;grind
    ·rcases tJ x W with e|e
     ·exact .inl e
     ·exact .inr ⟨by have:=hK.size;omega,lI.lt x W⟩
    ·simp[Value.ownBlock]at W
     grind
theorem Vr.aHu{ai:M}{V:ay×cW×Int}{u:N}(h:Vr ai m p n z V O u w')(aU:H al w ai):Vr w m p n z V O u w':=by
 obtain⟨O',J,T,ag⟩:=h.dI;refine⟨h.dR,⟨O',J,λk r=>(T k r).imp id λe=>⟨dK aU.size e.1,e.2⟩,λj I=>⟨dK aU.size (ag j I).1,(ag j I).2⟩⟩,(aU.mono λ_ _ e=>e.elim).trans h.ch⟩
theorem aeT(h:kF w m p n z s O)(q:Pt)(ok:cc q)(bM:mb w)(r:jz w)(lQ:s.il c)(Z:c<=800000)(uH:¬O 3):
  bc prog 99 #[az m,.agg (ae q)] w λv' w'=>∃u,v'=.tuple #[u,aa (s.nS n q false).2.2]/\Vr w m p n z (s.nS n q false) O u w':=by
 refine bz func99 ntmps99 λbk af=> ?_;have aU:=(H.refl al w).alloc (.cells (ae q) 44);simp[go_sem,cd ok,ef ok];refine(aHn (h.ch aU λ_ _ e=>e) q ok (bM.ch aU id) (r.ch aU id) false aGA lQ Z uH).mono ?_;rintro _ ai ⟨u,rfl,J⟩;simp[go_sem];exact af _ _ ⟨u,rfl,J.aHu aU⟩
end
section
variable {w w':M}{d p n:Nat}{D:cb}{O bw S:Nat->Prop}{z:qm}{cB:List (Nat×N)}{B:Nat}
theorem AX.uR{v:N}{b:cW}(h:AX w bw v b)(ax:lK B w w'):AX w' bw v b:=⟨ax.dR h.1,λk r=>⟨(h.2 k r).1,gQ (h.2 k r).2 ax.ch.size⟩⟩
theorem CD.uR{g:Nat}{m:Nat->Option cW}(h:CD w g m bw)(ax:lK B w w')(aH:g<B):CD w' g m bw:=by
 obtain⟨a',J,T⟩:=h;refine⟨a',J.ch ax.ch (by omega),λa=>⟨(T a).1,λb ab=> ?_⟩⟩;obtain⟨v,ag,aP⟩:=(T a).2 b ab;exact⟨v,ag,aP.uR ax⟩
theorem arz{e size:Nat}{v:N}{n:Nat}{xs:List N}(h:w.ownsRow 0 e size v n xs)(ax:lK B w w'):w'.ownsRow 0 e size v n xs:=by
 refine⟨h.1,h.2.imp id ?_⟩;rintro⟨g,cap,dF,rfl,T,ag,aP⟩;exact⟨g,cap,dF,rfl,T,ax.blk ag,aP⟩
theorem g'.uR(h:g' w d p n D O z cB bw)(ax:lK B w w')(ab:z.jL<B/\z.bb<B/\z.oH<B):g' w' d p n D O z cB bw:=by
 refine⟨ax.blk h.blk,h.pb.uR ax ab.1,h.dN.ch ax.ch (by omega),h.stuck.ch ax.ch (by omega),⟨arz h.bT.own ax,h.bT.len,λi a b ad=> ?_⟩,?_,h.iN,h.GL,h.pM,h.ne,h.ok,λk r=>gQ (h.ih k r) ax.ch.size⟩
 ·obtain⟨u,J,T⟩:=h.bT.Pn i a b ad;exact⟨u,J,T.uR ax⟩
 ·have ao:=h.gl
  cases arA:D.gl with
  |none=>rw[arA]at ao;exact ao
  |some a=>
   rw[arA]at ao;obtain⟨x,J,T,ag⟩:=ao;exact⟨x,J,ax.blk T,ag⟩
theorem xR.uR(h:xR w d p n D O z)(ax:lK B w w')(ab:z.jL<B/\z.bb<B/\z.oH<B):xR w' d p n D O z:=by
 obtain⟨z',cB,bw,h,e⟩:=h;exact⟨z',cB,bw,h.uR ax (by omega),e⟩
theorem xR.ch(h:xR w d p n D O z)(Z:H S w w')(aq:∀k,O k->¬S k):xR w' d p n D O z:=by
 obtain⟨z',cB,bw,h,e⟩:=h;exact⟨z',cB,bw,h.ch Z aq,e⟩
end
structure Dt(w:M)(m p n:Nat)(z:fV)(s:ay)(a_:N)(A:Nat->Nat->Prop)(y:Nat->qm):Prop where
 dI:e' w m p n z s a_ A
 aB:∀i,i<2->xR w (z.d i) p n (s.aB i) (A i) (y i)
section
variable {w w':M}{m p n i B:Nat}{z:fV}{s:ay}{a_:N}{A:Nat->Nat->Prop}{O O' S:Nat->Prop}{c:Nat}{y:Nat->qm}
theorem e'.aee(h:e' w m p n z s a_ A):∃y,Dt w m p n z s a_ A y/\∀i,i<2->(y i).jL<w.1.size/\(y i).bb<w.1.size/\(y i).oH<w.1.size:=by
 obtain⟨z0,v0,aHv,bi⟩:=(h.kW 0 (by omega)).aB;obtain⟨pk,fY,aHw,J⟩:=(h.kW 1 (by omega)).aB;refine⟨λi=>if i=0 then z0 else pk,⟨h,λi ad=> ?_⟩,λi ad=> ?_⟩
 ·rcases kX ad with rfl|rfl
  ·exact⟨z0,v0,aHv,bi,rfl,rfl,rfl⟩
  ·exact⟨pk,fY,aHw,J,rfl,rfl,rfl⟩
 ·rcases kX ad with rfl|rfl
  ·exact⟨bi.ih _ (bi.iN _ (.inr (.inl rfl))),bi.ih _ (bi.iN _ (.inr (.inr (.inl rfl)))),bi.ih _ (bi.iN _ (.inr (.inr (.inr (.inl rfl)))))⟩
  ·exact⟨J.ih _ (J.iN _ (.inr (.inl rfl))),J.ih _ (J.iN _ (.inr (.inr (.inl rfl)))),J.ih _ (J.iN _ (.inr (.inr (.inr (.inl rfl)))))⟩
theorem Dt.uR(h:Dt w m p n z s a_ A y)(ax:lK B w w')(ar:∀i,i<2->(y i).jL<B/\(y i).bb<B/\(y i).oH<B):Dt w' m p n z s a_ A y:=
 ⟨⟨ax.blk h.dI.blk,λi ad=>⟨((h.aB i ad).uR ax (ar i ad)).at,ax.blk (h.dI.kW i ad).vB,(h.dI.kW i ad).CK⟩,ax.blk h.dI.c',λi ad=>ax.blk (h.dI.pl i ad),arz h.dI.zV ax,h.dI.lP,h.dI.HA,h.dI.ne,h.dI.hD,h.dI.fe⟩,λi ad=>(h.aB i ad).uR ax (ar i ad)⟩
theorem Dt.ch(h:Dt w m p n z s a_ A y)(Z:H S w w')(cl:∀k,gU z m p a_ A k->¬S k):Dt w' m p n z s a_ A y:=
 ⟨h.dI.ch Z cl,λi ad=>(h.aB i ad).ch Z λk r=>cl k (by
  rcases kX ad with rfl|rfl
  ·exact .inr (.inl r)
  ·exact .inr (.inr (.inl r)))⟩
theorem Dt.put(h:Dt w m p n z s a_ A y)(q:Pt)(ok:cc q)(k:Nat)(gq:k<4)(b:cW)(v:N)(aM:bC w v b.length (br b))(g_:∀j,v.ownBlock=some j->¬gU z m p a_ A j)(tr:s.P.dS<=9223372036854775807)(eY:(s.aB (k / 2)).bT.length<=1000000)(Jy:∀x,(s.aB (k / 2)).gl=some x->x<65536):
  bc prog 219 #[.pointer (some ⟨z.d (k / 2),0,none⟩),.int .u16 (du q k),v] w λv' w'=>v'=aa (zq ((s.aB (k / 2)).mF n s.P (du q k) b))/\(∃gM,Dt w' m p n z (s.ng n q b k) a_ gM y/\∀k,gU z m p a_ gM k->aE (gU z m p a_ A) w w' k)/\mB w w'/\H (gU z m p a_ A) w w':=by
 obtain⟨i,eo⟩:=aD (k / 2);have ad:i<2:=by omega
 have zt:s.ng n q b k={s with aB:=iS s.aB i ((s.aB i).ij n s.P (du q k) b),P:=(s.aB i).sq n s.P (du q k) b}:=by unfold ay.ng;rw[eo]
 rw[eo]at eY Jy⊢;rw[zt];obtain⟨z',cB,bw,bm,aL,aR,dB⟩:=h.aB i ad;have fp:∀k,A i k->gU z m p a_ A k:=λk r=>by
  rcases kX ad with rfl|rfl
  ·exact .inr (.inl r)
  ·exact .inr (.inr (.inl r))
 have am:=(h.dI.kW i ad).vB;have zr:=(h.dI.kW i ad).CK;refine(amA (du q k) (Uh ok k) b v s.P bm am zr tr eY Jy aM λ_ j I=>⟨λe=>g_ j I (fp j e),λe=>g_ j I (.inr (.inr (.inr e)))⟩).mono ?_;rintro fY ai ⟨ny,T,ag,aP,bH⟩;have CL:¬aE (A i) w ai p:=(h.dI.kW i ad).cN;have aHx:ml ai (z.d i) p n ((s.aB i).ij n s.P (du q k) b) ((s.aB i).sq n s.P (du q k) b) (aE (A i) w ai):=⟨T.at,ag,CL⟩;have fg:=h.dI.Qh ad aHx aP;refine⟨ny,⟨_,⟨fg,λj I=> ?_⟩,λk r=>h.dI.apq ad r⟩,mB.fZ bH λj I _=> ?_,aP.mono λk _ e=>e.elim (fp k) λe=>.inr (.inr (.inr e))⟩
 ·by_cases ly:j=i
  ·subst ly;simp only[Dg];exact T.jq ⟨aL,aR,dB⟩
  ·simp only[ye _ _ ly];exact(h.aB j I).ch aP λk r e=>e.elim (λe=>h.dI.app I ad (λe=>ly e.symm) r e) λe=>(h.dI.kW j I).CK (by rw[<-e];exact r)
 ·rcases I with I|I|I
  ·subst I;exact⟨_,_,_,bm.blk⟩
  ·subst I;exact⟨_,_,_,am⟩
  ·rcases bm.bT.own.2 with⟨aM,_⟩|⟨g,cap,dF,aM,_,aH,_⟩
   ·rw[aM]at I;simp[Value.ownBlock]at I
   ·rw[aM]at I;simp[Value.ownBlock]at I
    grind
end
theorem aHy(D:cb)(n:Nat)(P:eL)(a:Nat)(b:cW):UG D n P a b=decide (zq (D.mF n P a b)=0):=by
 unfold UG
 cases D.mF n P a b<;>rfl
structure Vu(w Y:M)(B m p n:Nat)(z:fV)(a_:N)(y:Nat->qm)(O:Nat->Prop)(q:Pt)(v:N)(b:cW)(G cC cj cp:Nat)(t:ay×Int):Prop where
 dI:∃gM,Dt Y m p n z t.1 a_ gM y/\∀k,gU z m p a_ gM k->O k\/B<=k
 bu:Y.1[G]? =some (.cells #[az m] 36 (0,0))
 bt:Y.1[cC]? =some (.cells (ae q) 44 (0,0))
 cY:Y.1[cj]? =some (.cells #[v] 101 (0,0))
 cK:Y.1[cp]? =some (.cells #[aa t.2] 50 (0,0))
 dR:bC Y v b.length (br b)
 kw:B<=Y.1.size
 ch:H O w Y
section
variable {w w' Y:M}{m p n i B:Nat}{z:fV}{s:ay}{a_:N}{A:Nat->Nat->Prop}{O O' S:Nat->Prop}{c:Nat}{y:Nat->qm}{q:Pt}{v:N}{b:cW}{G cC cj cp:Nat}{t:ay×Int}
theorem Vu.uR(h:Vu w Y B m p n z a_ y O q v b G cC cj cp t)(ax:lK B Y w')(ar:∀i,i<2->(y i).jL<B/\(y i).bb<B/\(y i).oH<B)(gY:w.1.size<=B):Vu w w' B m p n z a_ y O q v b G cC cj cp t:=by
 obtain⟨gM,J,T⟩:=h.dI;exact⟨⟨gM,J.uR ax ar,T⟩,ax.blk h.bu,ax.blk h.bt,ax.blk h.cY,ax.blk h.cK,ax.dR h.dR,dK h.kw ax.ch.size,ax.xN h.ch gY⟩
theorem ay.il.Qu(q:Pt)(b:cW):∀(l:List Nat) (c:Nat) (t:ay×Int),t.1.il c->(l.foldl (ay.put n q b) t).1.il (c+l.length)
 |[],_,_,bj=>bj
 |k::l,c,t,bj=>by
  have J:(ay.put n q b t k).1.il (c+1):=bj.ng q b k;have:=ay.il.Qu q b l (c+1) (ay.put n q b t k) J
  grind
theorem aAx(h:kF w m p n z s O)(q:Pt)(ok:cc q)(bM:mb w)(r:jz w)(b:cW)(v:N)(aM:bC w v b.length (br b))(td:∀j,v.ownBlock=some j->j<w.1.size)(g_:0<b.length->∀j,v.ownBlock=some j->¬O j)(ab:b.length<=800000)(lQ:s.il c)(Z:c<=800000):
  bc prog 184 #[az m,.agg (ae q),v] w λv' w'=>v'=aa (s.ij n q b).2/\kF w' m p n z (s.ij n q b).1 (aE O w w')/\H O w w':=by
 refine bz func184 ntmps184 λbk af=> ?_;have de:=cd ok;have da:=ef ok;obtain⟨ahF,dY,X',_⟩:=id aM;obtain⟨G,fD⟩:=aD (w.1.size);have ak:=h.lt;have bu:(((w.alloc (.cells #[az m] 36)).alloc (.cells (ae q) 44)).alloc (.cells #[v] 101)).1[G]? =some (.cells #[az m] 36 (0,0)):=by
  subst fD;rw[rQ _ _ _ (by simp<;>omega),rQ _ _ _ (by simp<;>omega),cr]
 have bt:(((w.alloc (.cells #[az m] 36)).alloc (.cells (ae q) 44)).alloc (.cells #[v] 101)).1[G+1]? =some (.cells (ae q) 44 (0,0)):=by
  subst fD
  simp_all
 have cY:(((w.alloc (.cells #[az m] 36)).alloc (.cells (ae q) 44)).alloc (.cells #[v] 101)).1[G+2]? =some (.cells #[v] 101 (0,0)):=by
  subst fD
  simp_all
 have aU:=(((H.refl al w).alloc (.cells #[az m] 36)).alloc (.cells (ae q) 44)).alloc (.cells #[v] 101);have gZ:(((w.alloc (.cells #[az m] 36)).alloc (.cells (ae q) 44)).alloc (.cells #[v] 101)).1.size=G+3:=by simp[fD]
 subst X';obtain⟨v,qR⟩:=aD (Value.slice ahF b.length dY);simp[go_sem,de,da];rw[fD];revert bu bt cY aU gZ;generalize((w.alloc (.cells #[az m] 36)).alloc (.cells (ae q) 44)).alloc (.cells #[.slice ahF b.length dY] 101)=ai;intro bu bt cY aU gZ;obtain⟨cj,aR⟩:=aD (G+1+1);obtain⟨cC,aL⟩:=aD (G+1);rw[aR,aL];rw[show G+1=cC from aL]at bt;rw[show G+2=cj from aR]at cY;have gs:ai.cell? (bl G 0)=some (az m):=aG bu 0;refine(DY q ai ok (bM.ch aU id)).mono ?_;rintro _ an ⟨rfl,bh⟩;have gx:=aU.trans bh
 cases nQ:jY q with
 |false=>
  have W:s.ij n q b=(s,1):=by unfold ay.ij;rw[nQ];rfl
  simp[go_sem];rw[W]at af;exact af _ _ ⟨rfl,(h.ch gx λ_ _ e=>e).eK (λ_=>.inl) (aE.lt ak gx.size),gx.mono λ_ _ e=>e.elim⟩
 |true=>
  have jS:=bh.obj bt id;have JY:=bh.obj cY id;have aHz:an.cell? (bl cj 0)=some (.slice ahF b.length dY):=aG JY 0;simp[go_sem,jS,aHz,de,da];rw[qR]at aM td g_;have ky:=aM.ch gx λ_ _ e=>e;rw[qR];refine(aps q v b an ok ky (λk r=>gQ (td k r) gx.size) (by omega) (r.ch gx id)).mono ?_;rintro _ aJ ⟨rfl,bA⟩;have hK:=gx.trans bA;rw[show(decide (b.length=512)&&decide (uI q b=q.h))=tN q b from rfl]
  cases qX:tN q b with
  |false=>
   have W:s.ij n q b=(s,1):=by unfold ay.ij;rw[nQ,qX];rfl
   simp[go_sem];rw[W]at af;exact af _ _ ⟨rfl,(h.ch hK λ_ _ e=>e).eK (λ_=>.inl) (aE.lt ak hK.size),hK.mono λ_ _ e=>e.elim⟩
  |true=>
   have W:s.ij n q b=(eA q.a 4).foldl (ay.put n q b) (s,21):=by unfold ay.ij;rw[nQ,qX];rfl
   have md:=aeS qX;have qr:=bA.obj (bh.obj bu id) id;have jK:=bA.obj jS id;have zG:=bA.obj JY id;simp[go_sem];have ex:=(H.refl al aJ).alloc (.cells #[aa 21] 50);have Be:=cr aJ (.cells #[aa 21] 50);obtain⟨cp,dB⟩:=aD (aJ.1.size);rw[dB]at Be⊢;have aaT:(aJ.alloc (.cells #[aa 21] 50)).1.size=cp+1:=by simp[dB]
   revert ex Be aaT;generalize aJ.alloc (.cells #[aa 21] 50)=bs;intro ex Be aaT;have n_:=ex.obj qr id;have m_:=ex.obj jK id;have MR:=ex.obj zG id;simp[go_sem,m_,de,da];refine(SZ q bs).mono ?_;rintro _ bD ⟨rfl,gL⟩;have Ej:=cr bs (.cells (ae q) 44);have fJ:=(H.refl al bs).alloc (.cells (ae q) 44);have kV:bD.1.size=cp+2:=by rw[gL];simp[aaT]
   rw[<-gL]at fJ Ej;rw[aaT]at Ej⊢;clear gL;have mH:=(hK.trans ex).trans fJ;have EY:G+3<=cp:=by have:=bh.size;have:=bA.size;omega
   simp[go_sem];obtain⟨a_,A,fg,QR,ahB⟩:=h.ch mH λ_ _ e=>e;obtain⟨y,cl,ar⟩:=fg.aee;have Vj:∀k,k∈eA q.a 4->k%4=k:=λk r=>Cb (MN r).1;have aHA:=aM.ch mH λ_ _ e=>e;have QS:Vu w bD bD.1.size m p n z a_ y O q v b G cC cj cp (s,21):=by
    rw[qR]at MR;exact⟨⟨A,cl,λk r=>.inl (QR k r)⟩,fJ.obj n_ id,fJ.obj m_ id,fJ.obj MR id,fJ.obj Be id,aHA,c_ _,mH.mono λ_ _ e=>e.elim⟩
   obtain⟨bq,bW⟩:∃bq:List Nat->M->Prop,bq=λpre Y=>Vu w Y bD.1.size m p n z a_ y O q v b G cC cj cp ((pre.map (·%4)).foldl (ay.put n q b) (s,21))/\pre.length<=4:=⟨_,rfl⟩;refine al4 (ZK q (cp+1) _ _ (λk=>O k\/k=cp) bD ok Ej) (H.refl _ _) rfl rfl (by kernel_rfl) bq (λ_ _ _=>False)
    (λx f' _=>f' 8=aa (x%4 / 2:Nat)/\f' 9=.int .u16 (du q (x%4))/\f' 3=az G/\f' 5=az cj/\f' 7=az cp) ?_ ?_ ?_ ?_ ?_ ?_ ?_ ?_
   ·rintro pre Y bG aN ax;rw[bW]at aN⊢;exact⟨aN.1.uR ax ar mH.size,aN.2⟩
   ·exact λ_ _ _ _ h _=>h
   ·exact λ_ _ _ _ h _=>h
   ·rw[bW];exact⟨QS,by simp⟩
   ·rintro pre x Y aN;simp[go_sem];refine⟨H.refl _ _,aN,?_,?_⟩
    ·simp[vt]
    ·simp[vt,du]
   ·rintro pre x f' Y cu aN ⟨bB,dt,bR,f5,bQ⟩;have HE:pre.length<4:=by
     have:(eA q.a 4).length<=4:=by unfold eA;exact dK (OO _ _) (by simp)
     omega
    rw[bW]at aN;obtain⟨b_,_⟩:=aN;obtain⟨k,QO⟩:=aD (x%4);have gq:k<4:=by omega
    rw[QO]at bB dt;obtain⟨i,eo⟩:=aD (k / 2);have ad:i<2:=by omega
    have q_:(i:Int)<2:=by omega
    obtain⟨L,BB⟩:=aD (pre.map (·%4));have G_:L.length<4:=by rw[<-BB,oV];exact HE
    rw[BB]at b_;have Hr:(pre++[x]).map (·%4)=L++[k]:=by rw[AC,BB,oq,QO];rfl
    have BG:=ay.il.Qu (n:=n) q b L c (s,21) lQ;obtain⟨t,bj⟩:=aD (L.foldl (ay.put n q b) (s,21));rw[bj]at b_ BG;have eS:(L++[k]).foldl (ay.put n q b) (s,21)=ay.put n q b t k:=by rw[Cc,bj];rfl
    obtain⟨gM,aaU,tJ⟩:=b_.dI;have gW:Y.cell? (bl G 0)=some (az m):=aG b_.bu 0;have hl:Y.cell? (bl cj 0)=some v:=aG b_.cY 0;have dH:Y.cell? (bl m i)=some (.pointer (some ⟨z.d i,0,none⟩)):=by
     rw[aG aaU.dI.blk];rcases kX ad with rfl|rfl<;>rfl
    rw[eo]at bB;simp[go_sem];refine cT [F 0,F 1,F 2,F 3,F 4,F 5,F 6,F 7,(8,some []),F 9] ?_;rw[<-qR]at hl;simp[go_sem,bB,dt,bR,f5,gW,hl,dH,ad,q_];rw[qR];have aHB:=aaU.ch (H.refl al Y).drew λ_ _ e=>e;have arB:∀j,v.ownBlock=some j->¬gU z m p a_ gM j:=λj I e=>by
     grind
    have yK:=aHB.put q ok k gq b v b_.dR.drew arB BG.dS (by have:=BG.bT (k / 2) (by omega);omega) (BG.gl (k / 2) (by omega));rw[eo]at yK;refine yK.mono ?_;rintro _ gk ⟨rfl,⟨vA,Du,aeW⟩,QP,pi⟩;have Dv:H (gU z m p a_ gM) Y gk:=H.hR pi;have arC:mB Y gk:=QP;have Mw:∀k,gU z m p a_ vA k->O k\/bD.1.size<=k:=λj I=>by
     rcases aeW j I with e|e
     ·exact tJ j e
     ·have bH:Y.1.size<=j:=e.1;exact .inr (dK b_.kw bH)
    have ff:∀j,G<=j->j<bD.1.size->¬gU z m p a_ gM j:=λj J T e=>by
     grind
    have kx:=Dv.obj b_.bu (ff _ (by omega) (by omega));have es:=Dv.obj b_.bt (ff _ (by omega) (by omega));have cX:=Dv.obj b_.cY (ff _ (by omega) (by omega));have iq:=Dv.obj b_.cK (ff _ (by omega) (by omega));have xs:=b_.dR.ch Dv arB;have arD:H O w gk:=b_.ch.bZ Dv λj I e=>by
     rcases tJ j e with e|e
     ·exact e
     ·have:=mH.size;omega
    have arE:H (λj=>(O j\/j=cp)\/bD.1.size<=j) Y gk:=Dv.mono λj _ e=>(tJ j e).imp .inl id;have arF:(ay.put n q b t k).1=t.1.ng n q b k:=rfl;have aaV:(ay.put n q b t k).2=if zq ((t.1.aB i).mF n t.1.P (du q k) b)=0 then 0 else t.2:=by unfold ay.put;rw[eo,aHy];simp
    by_cases zt:zq ((t.1.aB i).mF n t.1.P (du q k) b)=0
    ·rw[zt];rw[be zt]at aaV;have js:=dJ iq 0;have jd:gk.cell? (bl cp 0)=some (aa t.2):=aG iq 0;simp[go_sem,bQ,js,jd];have cs:H (aj cp) gk (gk.setCell ⟨cp,0,none⟩ (aa 0)):=(H.refl (aj cp) gk).setCell (p:=bl cp 0) (.inl rfl) _;have z3:(gk.setCell ⟨cp,0,none⟩ (aa 0)).1[cp]? =some (.cells #[aa 0] 50 (0,0)):=by rw[eU,iq,fU];rfl
     have KE:=arC.setCell (i:=0) iq (aa 0);have jP:∀j,j≠cp->¬aj cp j:=λj h e=>h e;refine⟨⟨KE.from (dK Dv.size cs.size) _,arE.trans (cs.mono λj _ e=>.inl (.inr e))⟩,?_⟩;rw[bW];refine⟨?_,by simp;omega⟩;rw[Hr,eS];have ahG:=Du.ch cs λj I e=>by
      simp only[aj]at e;rcases Mw j I with aR|aR
      ·have:=ak j aR;omega
      ·omega
     refine⟨⟨vA,by rw[arF];exact ahG,Mw⟩,cs.obj kx (jP _ (by omega)),cs.obj es (jP _ (by omega)),cs.obj cX (jP _ (by omega)),by rw[aaV];exact z3,xs.ch cs λj I e=> ?_,dK b_.kw (dK Dv.size cs.size),arD.bZ cs λj I e=> ?_⟩
     ·grind
     ·simp only[aj]at e;omega
    ·rw[aQ zt]at aaV;have aHC:(zq ((t.1.aB i).mF n t.1.P (du q k) b)==0)=false:=hv zt;simp[go_sem,zt,aHC];refine⟨⟨arC.from Dv.size _,arE⟩,?_⟩;rw[bW];refine⟨?_,by simp;omega⟩;rw[Hr,eS];exact⟨⟨vA,by rw[arF];exact Du,Mw⟩,kx,es,cX,by rw[aaV];exact iq,xs,dK b_.kw Dv.size,arD⟩
   ·rintro D Y dX aN bm;rw[bW]at aN;obtain⟨b_,_⟩:=aN;have MM:(eA q.a 4).map (·%4)=eA q.a 4:=by
     conv=>rhs;rw[<-OL (eA q.a 4)]
     exact xE λk r=>by simpa using Vj k r
    rw[MM,<-W]at b_;have aI:Y.cell? (bl cp 0)=some (aa (s.ij n q b).2):=aG b_.cK 0;obtain⟨gM,aaU,tJ⟩:=b_.dI;simp[go_sem,aI,Ez,bm];have nT:H (aj D) Y (Y.putObj D (.deferred none)):=(H.refl (aj D) Y).putObj (.inl rfl) _;have ax:lK bD.1.size Y (Y.putObj D (.deferred none)):=⟨some D,grownBy_putObj' Y D _,λV ax=>by
     cases ax
     exact⟨dX,_,bm,rfl⟩⟩
    have Du:=aaU.uR ax ar;refine af _ _ ⟨rfl,⟨a_,gM,Du.dI,λj I=> ?_,aE.lt ak (dK b_.ch.size nT.size)⟩,b_.ch.bZ nT λj I e=> ?_⟩
    ·rcases tJ j I with e|e
     ·exact .inl e
     ·exact .inr ⟨by have:=mH.size;omega,Du.dI.ih j I⟩
    ·simp only[aj]at e;have:=mH.size;omega
   ·exact λ_ _ _ _ _ _ h _=>h.elim
end
end Go.Proofs.YtoohkhcpboldjaaGreatDoor
