/- Mirrors write. No condition but on sizes. -/
import Derived.Test.YtoohkhcpboldjaaGreatDoorMrE
set_option maxRecDepth 100000
set_option maxHeartbeats 4000000
set_option linter.unusedSimpArgs false
set_option linter.unusedVariables false
namespace Go.Proofs.YtoohkhcpboldjaaGreatDoor
open Go.RowKit Go.Kin
section
variable{w w':World}{m p n i:Nat}{z:fe}{s:ao}{aL:Value}{ag:Nat->Nat->Prop}{O O' S:Nat->Prop}{c:Nat}
theorem avW(n:Nat)(s:ao)(q:Pt)(l:List Nat):∀j∈(s.run n q l).dT,j∈l:=by
 revert l;refine TM (λj F=>by simp[ao.run]at F) λl k bG j F=> ?_;rw[ao.Kt]at F;unfold ao.step at F
 grind
theorem avX(n:Nat)(s:ao)(q:Pt)(l:List Nat):∀j∈s.qo n q l,j∈l:=by
 induction l with
 |nil=>exact λj F=>F
 |cons k l bG=>
  intro j F;unfold ao.qo at F
  grind
theorem avY(n:Nat)(s:ao)(q:Pt)(all:Bool):∀j∈s.og n q all,j∈dL q.a 4:=λj F=>by
 unfold ao.og at F;split at F
 ·exact F
 ·exact avX n s q _ j F
theorem aan(n:Nat)(s:ao)(q:Pt)(all:Bool):(s.og n q all).length<=4:=by
 have aU:(dL q.a 4).length<=4:=by unfold dL;exact Nat.le_trans (List.length_filter_le _ _) (by simp)
 have T:∀l,(s.qo n q l).length<=l.length:=λl=>by
  induction l with
  |nil=>exact Nat.le_refl _
  |cons k l bG=>
   unfold ao.qo
   grind
 unfold ao.og
 grind
theorem avZ(q:Pt){l:List Nat}{k j:Nat}(h:l[k]? =some j):(Dy q l)[k*2]? =some (.int .i64 (j / 2:Nat))/\(Dy q l)[k*2+1]? =some (.int .u16 (cP q j)):=by
 induction l generalizing k with
 |nil=>simp at h
 |cons a l bG=>
  have e:Dy q (a::l)=[.int .i64 ((a:Int) / 2),.int .u16 (q.a.getD a 0)]++Dy q l:=rfl;rw[e]
  cases k with
  |zero=>
   simp at h;subst h;exact⟨by simp,by simp[cP]⟩
  |succ k=>
   grind
structure OS(w:World)(m p n:Nat)(z:fe)(J:ao×cX×Int)(O:Nat->Prop)(u:Value)(w':World):Prop where
 dI:bD w' u J.2.1.length (bm J.2.1)
 dn:∃O',j' w' m p n z J.1 O'/\(∀k,O' k->ax O w w' k)/\(∀j,u.ownBlock=some j->w.1.size<=j/\¬O' j)
 ch:D O w w'
theorem av0(h:j' w m p n z s O)(q:Pt)(ok:bN q)(bH:lN w)(r:ja w)(all:Bool){cY:FuncId}(KK:aac cY all)(kI:s.g_ c)(T:c<=800000)(sq:¬O 3):
  aP Tryz.prog 153 #[.pointer (some ⟨m,0,none⟩),.agg (Y q),.func (.func cY) #[] #[]] w λW w'=>∃u,W=.tuple #[u,.int .i64 (s.mB n q all).2.2]/\OS w m p n z (s.mB n q all) O u w':=by
 refine bn Tryz.func153 Tryz.ntmps153 λaZ Z=> ?_;have cU:=bW ok;have cT:=dW ok;have bj:=cl w (.cells (Y q) 44);have aY:=(D.refl ak w).alloc (.cells (Y q) 44);have gd:(w.alloc (.cells (Y q) 44)).1.size=w.1.size+1:=by simp
 have al:=h.lt;simp[go_sem,cU,cT];obtain⟨g,aF⟩:=az (w.1.size);rw[aF]at bj gd⊢;generalize w.alloc (.cells (Y q) 44)=ab at*;refine(AB q ab ok (bH.ch aY id)).mono ?_;rintro _ ai ⟨rfl,aA⟩;have eF:D ak w ai:=aY.trans aA;have jd:=aA.obj bj id;have I:=h.ch eF λ_ _ e=>e
 cases oc:iX q with
 |false=>
  have M:s.mB n q all=(s,[],1):=by unfold ao.mB;rw[oc];rfl
  simp[go_sem];rw[M]at Z;exact Z _ _ ⟨_,rfl,bD.nil _,⟨O,I,λk r=>.inl r,λj F=>by simp[Value.ownBlock]at F⟩,eF.mono λ_ _ e=>e.elim⟩
 |true=>
  simp[go_sem,jd,cU,cT];obtain⟨aL,ag,dZ,KR,aak⟩:=id I;have MP:m≠3:=λe=>sq (by rw[<-e];exact h.own.1);refine(avc dZ q ok (r.ch eF id) all KK MP λi=>by have:=kI.ep i;omega).mono ?_;rintro _ aC ⟨ca,dr,rfl,V,iB,OT,aiF,aE⟩;obtain⟨t,bd⟩:=az (s.run n q (s.og n q all));rw[bd]at V iB aiF;have av1:D O ai aC:=aE.mono λj _ e=>by simp only[aj]at e;subst e;exact h.own.1
  have iU:D O w aC:=(eF.mono λ_ _ e=>e.elim).trans av1;have af:j' aC m p n z {s with ep:=t.aR} O:=⟨aL,ag,aiF,KR,λk r=>Nat.lt_of_lt_of_le (aak k r) aE.size⟩;have si:=aE.obj jd λe=>by simp only[aj]at e;have:=al m h.own.1;omega
  cases nq:t.blk with
  |none=>
   have M:s.mB n q all=({s with ep:=t.aR},[],21):=by unfold ao.mB;rw[oc,if_pos rfl];simp only[bd,nq]
   rw[nq]at V;have V:ca=.slice none 0 0:=V;subst V;simp[go_sem,aiu];rw[M]at Z;exact Z _ _ ⟨_,rfl,bD.nil _,⟨O,af,λk r=>.inl r,λj F=>by simp[Value.ownBlock]at F⟩,iU⟩
  |some b=>
   have M:s.mB n q all=(t.dT.foldl (ao.ss n q b) {s with ep:=t.aR},b,0):=by unfold ao.mB;rw[oc,if_pos rfl];simp only[bd,nq]
   rw[nq]at V;obtain⟨ia,bp,iS,rfl,oO,TU,aIc⟩:=V;have cI:∀w',(Builtin.len_ #[342] 3 #[dr]).run Tryz.prog w'=.ok (.int .i64 t.dT.length) w':=λw'=>by
    rcases iB.2 with⟨aS,bf⟩|⟨g,cap,di,aS,_⟩
    ·subst aS;simp[Builtin.len_,run_underlying Tryz.underlying342,goInt,bf]
    ·subst aS;rfl
   have aId:t.dT.length<=4:=by rw[<-bd];exact Nat.le_trans (aab n s q _) (aan n s q all)
   simp[go_sem,aiv,cI];have av2:({s with ep:=t.aR}:ao).g_ (c+4):=by
    refine⟨kI.dq,λi aa=>by have:=kI.bB i aa;show(s.au i).bB.length<=_;omega,kI.fv,λi=> ?_,λi=>by have:=kI.e_ i;show s.e_ i<=_;omega,by have:=kI.dx;grind⟩;have H:=aaa n s q (s.og n q all) i;have I:=kI.ep i;have af:=aan n s q all;rw[bd]at H;show t.aR i<=_;omega
   have aiG:∀j,w.1.size<=j->¬O j:=λj F e=>by have:=al j e;omega
   refine du (λJ f u=>∃k O',J=t.dT.length - k/\k<=t.dT.length/\f 28=dr/\f 29=.int .i64 t.dT.length/\f 30=.int .i64 k/\f 0=.pointer (some ⟨m,0,none⟩)/\f 4=.pointer (some ⟨g,0,none⟩)/\f 8=.slice (some bp) 512 iS/\j' u m p n z ((t.dT.take k).foldl (ao.ss n q b) {s with ep:=t.aR}) O'/\((t.dT.take k).foldl (ao.ss n q b) {s with ep:=t.aR}).g_ (c+4+k)/\(∀j,O' j->O j\/aC.1.size<=j)/\D O aC u) t.dT.length
    ⟨0,O,rfl,Nat.zero_le _,by simp,by simp,by simp,by simp,by simp,by simp,by simpa using af,by simpa using av2,λj F=>.inl F,D.refl _ _⟩ ?_
   rintro cJ bK _ f u ⟨k,O',rfl,AG,f28,f29,DA,f0,cr,bz,DB,yg,qH,aJ⟩;by_cases aO:k<t.dT.length
   ·have sP:(k:Int)<t.dT.length:=by omega
    have eo:IntKind.i64.wrap ((k:Int)+1)=(k:Int)+1:=by rw[IntKind.wrap_i64];omega
    obtain⟨j,F⟩:∃j,t.dT[k]? =some j:=⟨_,List.getElem?_eq_getElem aO⟩;have av3:j<4:=(Fa (avY n s q all j (avW n s q _ j (by grind)))).1;obtain⟨ud,fY⟩:=avZ q F;obtain⟨aiH,cap,di,aao,aIe,aIf,XG,aIg,aiI⟩:=zb iB (by omega);have aiJ:¬O aiH:=aiG _ (by have:=OT aiH (by rw[aao];rfl);have:=eF.size;omega);have rn:=aJ.cell (aiI _ _ ud) aiJ;have fz:=aJ.cell (aiI _ _ fY) aiJ;obtain⟨i,nl⟩:=az (j / 2);rw[nl]at rn;rw[aao]at f28;have qR:=aJ.obj si (aiG _ (by omega));have OU:=(D.refl ak u).alloc (.cells #[.int .i64 i,.int .u16 (cP q j)] 346);have pt:=cl u (.cells #[.int .i64 i,.int .u16 (cP q j)] 346);have cx:=λj=>aG pt j;have av4:=OU.obj qR id;have nk:bD u (.slice (some bp) 512 iS) b.length (bm b):=by rw[ia];exact oO.ch aJ λj F=>by simp[Value.ownBlock]at F;grind
    have pC:ja (u.alloc (.cells #[.int .i64 i,.int .u16 (cP q j)] 346)):=((r.ch iU sq).ch aJ sq).ch OU id;have av5:∀x,(Value.slice (some bp) 512 iS).ownBlock=some x->¬O' x:=λx M e=>by
     simp[Value.ownBlock]at M
     grind
    have av6:¬O' 3:=λe=>by
     rcases qH _ e with e|e
     ·exact sq e
     ·have:=r.lt;have:=iU.size;omega
    have aiK:=avF (DB.ch OU λ_ _ e=>e) q ok pC j av3 b (.slice (some bp) 512 iS) (nk.ch OU λ_ _ e=>e) av5 yg (by omega) av6;rw[nl]at aiK;simp[go_sem,f28,f29,DA,f0,cr,bz,aO,sP,rn,fz,av4,cx,cU,cT];refine aiK.mono ?_;rintro v5 bw ⟨bC,bx⟩;simp[go_sem,DA,eo];have aK:(t.dT.take (k+1)).foldl (ao.ss n q b) {s with ep:=t.aR}=ao.ss n q b ((t.dT.take k).foldl (ao.ss n q b) {s with ep:=t.aR}) j:=by
     rw[List.take_add_one,F];simp
    refine cH.intro (t.dT.length -(k+1)) (by omega) (bK _ _ _ ⟨k+1,_,rfl,by omega,by simp[f28,aao],by simp[f29],by simp,by simp[f0],by simp[cr],by simp[bz],by rw[aK];exact bC,by rw[aK];exact yg.ss q b j,λx M=> ?_,?_⟩)
    ·rcases M with M|M
     ·exact qH x M
     ·have:=aJ.size;grind
    ·exact(aJ.trans (OU.mono λ_ _ e=>e.elim)).bJ bx λx M e=>(qH x e).resolve_right (by omega)
   ·obtain rfl:k=t.dT.length:=by omega
    simp[go_sem,f29,DA,bz];rw[M]at Z;rw[List.take_length]at DB;refine Z _ _ ⟨_,rfl,?_,⟨O',DB,λx M=> ?_,λx M=> ?_⟩,iU.trans aJ⟩
    ·rw[ia];exact oO.ch aJ λj F=>by simp[Value.ownBlock]at F;grind
    ·rcases qH x M with e|e
     ·exact .inl e
     ·exact .inr ⟨by have:=iU.size;omega,DB.lt x M⟩
    ·simp[Value.ownBlock]at M
     grind
theorem OS.av7{ab:World}{J:ao×cX×Int}{u:Value}(h:OS ab m p n z J O u w')(aY:D ak w ab):OS w m p n z J O u w':=by
 obtain⟨O',H,I,af⟩:=h.dn;refine⟨h.dI,⟨O',H,λk r=>(I k r).imp id λe=>⟨Nat.le_trans aY.size e.1,e.2⟩,λj F=>⟨Nat.le_trans aY.size (af j F).1,(af j F).2⟩⟩,(aY.mono λ_ _ e=>e.elim).trans h.ch⟩
theorem afM(h:j' w m p n z s O)(q:Pt)(ok:bN q)(bH:lN w)(r:ja w)(kI:s.g_ c)(T:c<=800000)(sq:¬O 3):
  aP Tryz.prog 99 #[.pointer (some ⟨m,0,none⟩),.agg (Y q)] w λW w'=>∃u,W=.tuple #[u,.int .i64 (s.mB n q false).2.2]/\OS w m p n z (s.mB n q false) O u w':=by
 refine bn Tryz.func99 Tryz.ntmps99 λaZ Z=> ?_;have aY:=(D.refl ak w).alloc (.cells (Y q) 44);simp[go_sem,bW ok,dW ok];refine(av0 (h.ch aY λ_ _ e=>e) q ok (bH.ch aY id) (r.ch aY id) false ava kI T sq).mono ?_;rintro _ ab ⟨u,rfl,H⟩;simp[go_sem];exact Z _ _ ⟨u,rfl,H.av7 aY⟩
end
section
variable{w w':World}{d p n:Nat}{L:bR}{O bo S:Nat->Prop}{z:oH}{cn:List (Nat×Value)}{B:Nat}
theorem xp.sB{v:Value}{b:cX}(h:xp w bo v b)(ap:kE B w w'):xp w' bo v b:=⟨ap.dI h.1,λk r=>⟨(h.2 k r).1,Nat.lt_of_lt_of_le (h.2 k r).2 ap.ch.size⟩⟩
theorem yU.sB{g:Nat}{m:Nat->Option cX}(h:yU w g m bo)(ap:kE B w w')(aF:g<B):yU w' g m bo:=by
 obtain⟨aR,H,I⟩:=h;refine⟨aR,H.ch ap.ch (by omega),λa=>⟨(I a).1,λb V=> ?_⟩⟩;obtain⟨v,af,aU⟩:=(I a).2 b V;exact⟨v,af,aU.sB ap⟩
theorem aiL{e size:Nat}{v:Value}{n:Nat}{xs:List Value}(h:w.ownsRow 0 e size v n xs)(ap:kE B w w'):w'.ownsRow 0 e size v n xs:=by
 refine⟨h.1,h.2.imp id ?_⟩;rintro⟨g,cap,di,rfl,I,af,aU⟩;exact⟨g,cap,di,rfl,I,ap.blk af,aU⟩
theorem fQ.sB(h:fQ w d p n L O z cn bo)(ap:kE B w w')(V:z.hG<B/\z.bb<B/\z.na<B):fQ w' d p n L O z cn bo:=by
 refine⟨ap.blk h.blk,h.nA.sB ap V.1,h.dT.ch ap.ch (by omega),h.stuck.ch ap.ch (by omega),⟨aiL h.bB.own ap,h.bB.len,λi a b aa=> ?_⟩,?_,h.kX,h.CE,h.sV,h.ne,h.ok,λk r=>Nat.lt_of_lt_of_le (h.gK k r) ap.ch.size⟩
 ·obtain⟨u,H,I⟩:=h.bB.Jx i a b aa;exact⟨u,H,I.sB ap⟩
 ·have am:=h.fv
  cases aiM:L.fv with
  |none=>rw[aiM]at am;exact am
  |some a=>
   rw[aiM]at am;obtain⟨x,H,I,af⟩:=am;exact⟨x,H,ap.blk I,af⟩
theorem vt.sB(h:vt w d p n L O z)(ap:kE B w w')(V:z.hG<B/\z.bb<B/\z.na<B):vt w' d p n L O z:=by
 obtain⟨z',cn,bo,h,e⟩:=h;exact⟨z',cn,bo,h.sB ap (by omega),e⟩
theorem vt.ch(h:vt w d p n L O z)(T:D S w w')(av:∀k,O k->¬S k):vt w' d p n L O z:=by
 obtain⟨z',cn,bo,h,e⟩:=h;exact⟨z',cn,bo,h.ch T av,e⟩
end
structure zT(w:World)(m p n:Nat)(z:fe)(s:ao)(aL:Value)(ag:Nat->Nat->Prop)(y:Nat->oH):Prop where
 dn:eg w m p n z s aL ag
 au:∀i,i<2->vt w (z.d i) p n (s.au i) (ag i) (y i)
section
variable{w w':World}{m p n i B:Nat}{z:fe}{s:ao}{aL:Value}{ag:Nat->Nat->Prop}{O O' S:Nat->Prop}{c:Nat}{y:Nat->oH}
theorem eg.Xe(h:eg w m p n z s aL ag):∃y,zT w m p n z s aL ag y/\∀i,i<2->(y i).hG<w.1.size/\(y i).bb<w.1.size/\(y i).na<w.1.size:=by
 obtain⟨z0,v0,av8,bf⟩:=(h.jv 0 (by omega)).au;obtain⟨oM,gw,av9,H⟩:=(h.jv 1 (by omega)).au;refine⟨λi=>if i=0 then z0 else oM,⟨h,λi aa=> ?_⟩,λi aa=> ?_⟩
 ·rcases jo aa with rfl|rfl
  ·exact⟨z0,v0,av8,bf,rfl,rfl,rfl⟩
  ·exact⟨oM,gw,av9,H,rfl,rfl,rfl⟩
 ·rcases jo aa with rfl|rfl
  ·exact⟨bf.gK _ (bf.kX _ (.inr (.inl rfl))),bf.gK _ (bf.kX _ (.inr (.inr (.inl rfl)))),bf.gK _ (bf.kX _ (.inr (.inr (.inr (.inl rfl)))))⟩
  ·exact⟨H.gK _ (H.kX _ (.inr (.inl rfl))),H.gK _ (H.kX _ (.inr (.inr (.inl rfl)))),H.gK _ (H.kX _ (.inr (.inr (.inr (.inl rfl)))))⟩
theorem zT.sB(h:zT w m p n z s aL ag y)(ap:kE B w w')(ar:∀i,i<2->(y i).hG<B/\(y i).bb<B/\(y i).na<B):zT w' m p n z s aL ag y:=
 ⟨⟨ap.blk h.dn.blk,λi aa=>⟨((h.au i aa).sB ap (ar i aa)).at,ap.blk (h.dn.jv i aa).tm,(h.dn.jv i aa).zI⟩,ap.blk h.dn.b_,λi aa=>ap.blk (h.dn.pl i aa),aiL h.dn.wt ap,h.dn.nD,h.dn.Bu,h.dn.ne,h.dn.md,h.dn.iP⟩,λi aa=>(h.au i aa).sB ap (ar i aa)⟩
theorem zT.ch(h:zT w m p n z s aL ag y)(T:D S w w')(cf:∀k,fR z m p aL ag k->¬S k):zT w' m p n z s aL ag y:=
 ⟨h.dn.ch T cf,λi aa=>(h.au i aa).ch T λk r=>cf k (by
  rcases jo aa with rfl|rfl
  ·exact .inr (.inl r)
  ·exact .inr (.inr (.inl r)))⟩
theorem zT.put(h:zT w m p n z s aL ag y)(q:Pt)(ok:bN q)(k:Nat)(fs:k<4)(b:cX)(v:Value)(aS:bD w v b.length (bm b))(hS:∀j,v.ownBlock=some j->¬fR z m p aL ag j)(tn:s.P.dq<=9223372036854775807)(ew:(s.au (k / 2)).bB.length<=1000000)(Fp:∀x,(s.au (k / 2)).fv=some x->x<65536):
  aP Tryz.prog 219 #[.pointer (some ⟨z.d (k / 2),0,none⟩),.int .u16 (cP q k),v] w λW w'=>W=.int .i64 (wv ((s.au (k / 2)).lG n s.P (cP q k) b))/\(∃gh,zT w' m p n z (s.mf n q b k) aL gh y/\∀k,fR z m p aL gh k->ax (fR z m p aL ag) w w' k)/\lH w w'/\D (fR z m p aL ag) w w':=by
 obtain⟨i,ea⟩:=az (k / 2);have aa:i<2:=by omega
 have wb:s.mf n q b k={s with au:=hM s.au i ((s.au i).ha n s.P (cP q k) b),P:=(s.au i).qP n s.P (cP q k) b}:=by unfold ao.mf;rw[ea]
 rw[ea]at ew Fp⊢;rw[wb];obtain⟨z',cn,bo,bi,aK,aW,dt⟩:=h.au i aa;have hm:∀k,ag i k->fR z m p aL ag k:=λk r=>by
  rcases jo aa with rfl|rfl
  ·exact .inr (.inl r)
  ·exact .inr (.inr (.inl r))
 have ah:=(h.dn.jv i aa).tm;have tu:=(h.dn.jv i aa).zI;refine(ahF (cP q k) (Km ok k) b v s.P bi ah tu tn ew Fp aS λ_ j F=>⟨λe=>hS j F (hm j e),λe=>hS j F (.inr (.inr (.inr e)))⟩).mono ?_;rintro gw ab ⟨mT,I,af,aU,bC⟩;have zg:¬ax (ag i) w ab p:=(h.dn.jv i aa).cq;have av_:ks ab (z.d i) p n ((s.au i).ha n s.P (cP q k) b) ((s.au i).qP n s.P (cP q k) b) (ax (ag i) w ab):=⟨I.at,af,zg⟩;have dZ:=h.dn.Ku aa av_ aU;refine⟨mT,⟨_,⟨dZ,λj F=> ?_⟩,λk r=>h.dn.ahL aa r⟩,lH.hI bC λj F _=> ?_,aU.mono λk _ e=>e.elim (hm k) λe=>.inr (.inr (.inr e))⟩
 ·by_cases nl:j=i
  ·subst nl;simp only[zL];exact I.ir ⟨aK,aW,dt⟩
  ·simp only[vp _ _ nl];exact(h.au j F).ch aU λk r e=>e.elim (λe=>h.dn.ahK F aa (λe=>nl e.symm) r e) λe=>(h.dn.jv j F).zI (by rw[<-e];exact r)
 ·rcases F with F|F|F
  ·subst F;exact⟨_,_,_,bi.blk⟩
  ·subst F;exact⟨_,_,_,ah⟩
  ·rcases bi.bB.own.2 with⟨aS,_⟩|⟨g,cap,di,aS,_,aF,_⟩
   ·rw[aS]at F;simp[Value.ownBlock]at F
   ·rw[aS]at F;simp[Value.ownBlock]at F
    grind
end
theorem av'(L:bR)(n:Nat)(P:ek)(a:Nat)(b:cX):Oj L n P a b=decide (wv (L.lG n P a b)=0):=by
 unfold Oj
 cases L.lG n P a b<;>rfl
structure OV(w N:World)(B m p n:Nat)(z:fe)(aL:Value)(y:Nat->oH)(O:Nat->Prop)(q:Pt)(v:Value)(b:cX)(G cB cb cj:Nat)(t:ao×Int):Prop where
 dn:∃gh,zT N m p n z t.1 aL gh y/\∀k,fR z m p aL gh k->O k\/B<=k
 bj:N.1[G]? =some (.cells #[.pointer (some ⟨m,0,none⟩)] 36 (0,0))
 ba:N.1[cB]? =some (.cells (Y q) 44 (0,0))
 cC:N.1[cb]? =some (.cells #[v] 101 (0,0))
 cm:N.1[cj]? =some (.cells #[.int .i64 t.2] 50 (0,0))
 dI:bD N v b.length (bm b)
 jG:B<=N.1.size
 ch:D O w N
section
variable{w w' N:World}{m p n i B:Nat}{z:fe}{s:ao}{aL:Value}{ag:Nat->Nat->Prop}{O O' S:Nat->Prop}{c:Nat}{y:Nat->oH}{q:Pt}{v:Value}{b:cX}{G cB cb cj:Nat}{t:ao×Int}
theorem OV.sB(h:OV w N B m p n z aL y O q v b G cB cb cj t)(ap:kE B N w')(ar:∀i,i<2->(y i).hG<B/\(y i).bb<B/\(y i).na<B)(eR:w.1.size<=B):OV w w' B m p n z aL y O q v b G cB cb cj t:=by
 obtain⟨gh,H,I⟩:=h.dn;exact⟨⟨gh,H.sB ap ar,I⟩,ap.blk h.bj,ap.blk h.ba,ap.blk h.cC,ap.blk h.cm,ap.dI h.dI,Nat.le_trans h.jG ap.ch.size,ap.tS h.ch eR⟩
theorem ao.g_.KS(q:Pt)(b:cX):∀(l:List Nat) (c:Nat) (t:ao×Int),t.1.g_ c->(l.foldl (ao.put n q b) t).1.g_ (c+l.length)
 |[],_,_,bd=>bd
 |k::l,c,t,bd=>by
  have H:(ao.put n q b t k).1.g_ (c+1):=bd.mf q b k;have:=ao.g_.KS q b l (c+1) (ao.put n q b t k) H
  grind
theorem aqW(h:j' w m p n z s O)(q:Pt)(ok:bN q)(bH:lN w)(r:ja w)(b:cX)(v:Value)(aS:bD w v b.length (bm b))(pK:∀j,v.ownBlock=some j->j<w.1.size)(hS:0<b.length->∀j,v.ownBlock=some j->¬O j)(V:b.length<=800000)(kI:s.g_ c)(T:c<=800000):
  aP Tryz.prog 184 #[.pointer (some ⟨m,0,none⟩),.agg (Y q),v] w λW w'=>W=.int .i64 (s.ha n q b).2/\j' w' m p n z (s.ha n q b).1 (ax O w w')/\D O w w':=by
 refine bn Tryz.func184 Tryz.ntmps184 λaZ Z=> ?_;have cU:=bW ok;have cT:=dW ok;obtain⟨aap,dr,Xj,_⟩:=id aS;obtain⟨G,ff⟩:=az (w.1.size);have al:=h.lt;have bj:(((w.alloc (.cells #[.pointer (some ⟨m,0,none⟩)] 36)).alloc (.cells (Y q) 44)).alloc (.cells #[v] 101)).1[G]? =some (.cells #[.pointer (some ⟨m,0,none⟩)] 36 (0,0)):=by
  subst ff;rw[pY _ _ _ (by simp<;>omega),pY _ _ _ (by simp<;>omega),cl]
 have ba:(((w.alloc (.cells #[.pointer (some ⟨m,0,none⟩)] 36)).alloc (.cells (Y q) 44)).alloc (.cells #[v] 101)).1[G+1]? =some (.cells (Y q) 44 (0,0)):=by
  subst ff
  simp_all
 have cC:(((w.alloc (.cells #[.pointer (some ⟨m,0,none⟩)] 36)).alloc (.cells (Y q) 44)).alloc (.cells #[v] 101)).1[G+2]? =some (.cells #[v] 101 (0,0)):=by
  subst ff
  simp_all
 have aY:=(((D.refl ak w).alloc (.cells #[.pointer (some ⟨m,0,none⟩)] 36)).alloc (.cells (Y q) 44)).alloc (.cells #[v] 101);have gd:(((w.alloc (.cells #[.pointer (some ⟨m,0,none⟩)] 36)).alloc (.cells (Y q) 44)).alloc (.cells #[v] 101)).1.size=G+3:=by simp[ff]
 subst Xj;obtain⟨v,pn⟩:=az (Value.slice aap b.length dr);simp[go_sem,cU,cT];rw[ff];revert bj ba cC aY gd;generalize((w.alloc (.cells #[.pointer (some ⟨m,0,none⟩)] 36)).alloc (.cells (Y q) 44)).alloc (.cells #[.slice aap b.length dr] 101)=ab;intro bj ba cC aY gd;obtain⟨cb,aW⟩:=az (G+1+1);obtain⟨cB,aK⟩:=az (G+1);rw[aW,aK];rw[show G+1=cB from aK]at ba;rw[show G+2=cb from aW]at cC;have fG:ab.cell? ⟨G,0,none⟩=some (.pointer (some ⟨m,0,none⟩)):=aG bj 0;refine(AB q ab ok (bH.ch aY id)).mono ?_;rintro _ ai ⟨rfl,aX⟩;have eF:=aY.trans aX
 cases oc:iX q with
 |false=>
  have M:s.ha n q b=(s,1):=by unfold ao.ha;rw[oc];rfl
  simp[go_sem];rw[M]at Z;exact Z _ _ ⟨rfl,(h.ch eF λ_ _ e=>e).ex (λ_=>.inl) (ax.lt al eF.size),eF.mono λ_ _ e=>e.elim⟩
 |true=>
  have i_:=aX.obj ba id;have Bv:=aX.obj cC id;have awa:ai.cell? ⟨cb,0,none⟩=some (.slice aap b.length dr):=aG Bv 0;simp[go_sem,i_,awa,cU,cT];rw[pn]at aS pK hS;have rv:=aS.ch eF λ_ _ e=>e;rw[pn];refine(ahN q v b ai ok rv (λk r=>Nat.lt_of_lt_of_le (pK k r) eF.size) (by omega) (r.ch eF id)).mono ?_;rintro _ aC ⟨rfl,bq⟩;have iU:=eF.trans bq;rw[show(decide (b.length=512)&&decide (sr q b=q.h))=rC q b from rfl]
  cases yY:rC q b with
  |false=>
   have M:s.ha n q b=(s,1):=by unfold ao.ha;rw[oc,yY];rfl
   simp[go_sem];rw[M]at Z;exact Z _ _ ⟨rfl,(h.ch iU λ_ _ e=>e).ex (λ_=>.inl) (ax.lt al iU.size),iU.mono λ_ _ e=>e.elim⟩
  |true=>
   have M:s.ha n q b=(dL q.a 4).foldl (ao.put n q b) (s,21):=by unfold ao.ha;rw[oc,yY];rfl
   have pb:=XU yY;have si:=bq.obj (aX.obj bj id) id;have iL:=bq.obj i_ id;have wh:=bq.obj Bv id;simp[go_sem];have ec:=(D.refl ak aC).alloc (.cells #[.int .i64 21] 50);have xW:=cl aC (.cells #[.int .i64 21] 50);obtain⟨cj,dt⟩:=az (aC.1.size);rw[dt]at xW⊢;have TV:(aC.alloc (.cells #[.int .i64 21] 50)).1.size=cj+1:=by simp[dt]
   revert ec xW TV;generalize aC.alloc (.cells #[.int .i64 21] 50)=be;intro ec xW TV;have oQ:=ec.obj si id;have lU:=ec.obj iL id;have HH:=ec.obj wh id;simp[go_sem,lU,cU,cT];refine(Kl q be).mono ?_;rintro _ bw ⟨rfl,fD⟩;have BM:=cl be (.cells (Y q) 44);have ft:=(D.refl ak be).alloc (.cells (Y q) 44);have j_:bw.1.size=cj+2:=by rw[fD];simp[TV]
   rw[<-fD]at ft BM;rw[TV]at BM⊢;clear fD;have lB:=(iU.trans ec).trans ft;have Bl:G+3<=cj:=by have:=aX.size;have:=bq.size;omega
   simp[go_sem];obtain⟨aL,ag,dZ,KR,aak⟩:=h.ch lB λ_ _ e=>e;obtain⟨y,cf,ar⟩:=dZ.Xe;have OG:∀k,k∈dL q.a 4->k%4=k:=λk r=>Nat.mod_eq_of_lt (Fa r).1;have awb:=aS.ch lB λ_ _ e=>e;have awc:OV w bw bw.1.size m p n z aL y O q v b G cB cb cj (s,21):=by
    rw[pn]at HH;exact⟨⟨ag,cf,λk r=>.inl (KR k r)⟩,ft.obj oQ id,ft.obj lU id,ft.obj HH id,ft.obj xW id,awb,Nat.le_refl _,lB.mono λ_ _ e=>e.elim⟩
   obtain⟨bg,bP⟩:∃bg:List Nat->World->Prop,bg=λpre N=>OV w N bw.1.size m p n z aL y O q v b G cB cb cj ((pre.map (·%4)).foldl (ao.put n q b) (s,21))/\pre.length<=4:=⟨_,rfl⟩;refine ahJ (NM q (cj+1) _ _ (λk=>O k\/k=cj) bw ok BM) (D.refl _ _) rfl rfl (by kernel_rfl) bg (λ_ _ _=>False)
    (λx f' _=>f' 8=.int .i64 (x%4 / 2:Nat)/\f' 9=.int .u16 (cP q (x%4))/\f' 3=.pointer (some ⟨G,0,none⟩)/\f' 5=.pointer (some ⟨cb,0,none⟩)/\f' 7=.pointer (some ⟨cj,0,none⟩)) ?_ ?_ ?_ ?_ ?_ ?_ ?_ ?_
   ·rintro pre N bs aD ap;rw[bP]at aD⊢;exact⟨aD.1.sB ap ar lB.size,aD.2⟩
   ·exact λ_ _ _ _ h _=>h
   ·exact λ_ _ _ _ h _=>h
   ·rw[bP];exact⟨awc,by simp⟩
   ·rintro pre x N aD;simp[go_sem];refine⟨D.refl _ _,aD,?_,?_⟩
    ·simp[ry]
    ·simp[ry,cP]
   ·rintro pre x f' N cI aD ⟨bz,ef,bV,cN,cg⟩;have wu:pre.length<4:=by
     have:(dL q.a 4).length<=4:=by unfold dL;exact Nat.le_trans (List.length_filter_le _ _) (by simp)
     omega
    rw[bP]at aD;obtain⟨bT,_⟩:=aD;obtain⟨k,KM⟩:=az (x%4);have fs:k<4:=by omega
    rw[KM]at bz ef;obtain⟨i,ea⟩:=az (k / 2);have aa:i<2:=by omega
    have pw:(i:Int)<2:=by omega
    obtain⟨ae,yb⟩:=az (pre.map (·%4));have CS:ae.length<4:=by rw[<-yb,List.length_map];exact wu
    rw[yb]at bT;have wp:(pre++[x]).map (·%4)=ae++[k]:=by rw[List.map_append,yb,List.map_cons,KM];rfl
    have yg:=ao.g_.KS (n:=n) q b ae c (s,21) kI;obtain⟨t,bd⟩:=az (ae.foldl (ao.put n q b) (s,21));rw[bd]at bT yg;have el:(ae++[k]).foldl (ao.put n q b) (s,21)=ao.put n q b t k:=by rw[List.foldl_append,bd];rfl
    obtain⟨gh,TW,qH⟩:=bT.dn;have gq:N.cell? ⟨G,0,none⟩=some (.pointer (some ⟨m,0,none⟩)):=aG bT.bj 0;have hr:N.cell? ⟨cb,0,none⟩=some v:=aG bT.cC 0;have dU:N.cell? ⟨m,i,none⟩=some (.pointer (some ⟨z.d i,0,none⟩)):=by
     rw[aG TW.dn.blk];rcases jo aa with rfl|rfl<;>rfl
    rw[ea]at bz;simp[go_sem];refine cD [A 0,A 1,A 2,A 3,A 4,A 5,A 6,A 7,(8,some []),A 9] ?_;rw[<-pn]at hr;simp[go_sem,bz,ef,bV,cN,gq,hr,dU,aa,pw];rw[pn];have awd:=TW.ch (D.refl ak N).drew λ_ _ e=>e;have aiN:∀j,v.ownBlock=some j->¬fR z m p aL gh j:=λj F e=>by
     grind
    have vP:=awd.put q ok k fs b v bT.dI.drew aiN yg.dq (by have:=yg.bB (k / 2) (by omega);omega) (yg.fv (k / 2) (by omega));rw[ea]at vP;refine vP.mono ?_;rintro _ eZ ⟨rfl,⟨vh,DC,JP⟩,KO,p_⟩;have zU:D (fR z m p aL gh) N eZ:=D.iy p_;have aiO:lH N eZ:=KO;have Hb:∀k,fR z m p aL vh k->O k\/bw.1.size<=k:=λj F=>by
     rcases JP j F with e|e
     ·exact qH j e
     ·have bC:N.1.size<=j:=e.1;exact .inr (Nat.le_trans bT.jG bC)
    have eO:∀j,G<=j->j<bw.1.size->¬fR z m p aL gh j:=λj H I e=>by
     grind
    have lZ:=zU.obj bT.bj (eO _ (by omega) (by omega));have ey:=zU.obj bT.ba (eO _ (by omega) (by omega));have cZ:=zU.obj bT.cC (eO _ (by omega) (by omega));have iq:=zU.obj bT.cm (eO _ (by omega) (by omega));have xs:=bT.dI.ch zU aiN;have aiP:D O w eZ:=bT.ch.bJ zU λj F e=>by
     rcases qH j e with e|e
     ·exact e
     ·have:=lB.size;omega
    have aiQ:D (λj=>(O j\/j=cj)\/bw.1.size<=j) N eZ:=zU.mono λj _ e=>(qH j e).imp .inl id;have aiR:(ao.put n q b t k).1=t.1.mf n q b k:=rfl;have TX:(ao.put n q b t k).2=if wv ((t.1.au i).lG n t.1.P (cP q k) b)=0 then 0 else t.2:=by unfold ao.put;rw[ea,av'];simp
    by_cases wb:wv ((t.1.au i).lG n t.1.P (cP q k) b)=0
    ·rw[wb];rw[if_pos wb]at TX;have ip:=dD iq 0;have jV:eZ.cell? ⟨cj,0,none⟩=some (.int .i64 t.2):=aG iq 0;simp[go_sem,cg,ip,jV];have cs:D (aj cj) eZ (eZ.setCell ⟨cj,0,none⟩ (.int .i64 0)):=(D.refl (aj cj) eZ).setCell (p:=⟨cj,0,none⟩) (.inl rfl) _;have z3:(eZ.setCell ⟨cj,0,none⟩ (.int .i64 0)).1[cj]? =some (.cells #[.int .i64 0] 50 (0,0)):=by rw[eY,iq,gp];rfl
     have FA:=aiO.setCell (i:=0) iq (.int .i64 0);have jE:∀j,j≠cj->¬aj cj j:=λj h e=>h e;refine⟨⟨FA.from (Nat.le_trans zU.size cs.size) _,aiQ.trans (cs.mono λj _ e=>.inl (.inr e))⟩,?_⟩;rw[bP];refine⟨?_,by simp;omega⟩;rw[wp,el];have awe:=DC.ch cs λj F e=>by
      simp only[aj]at e;rcases Hb j F with aW|aW
      ·have:=al j aW;omega
      ·omega
     refine⟨⟨vh,by rw[aiR];exact awe,Hb⟩,cs.obj lZ (jE _ (by omega)),cs.obj ey (jE _ (by omega)),cs.obj cZ (jE _ (by omega)),by rw[TX];exact z3,xs.ch cs λj F e=> ?_,Nat.le_trans bT.jG (Nat.le_trans zU.size cs.size),aiP.bJ cs λj F e=> ?_⟩
     ·grind
     ·simp only[aj]at e;omega
    ·rw[if_neg wb]at TX;have awf:(wv ((t.1.au i).lG n t.1.P (cP q k) b)==0)=false:=beq_false_of_ne wb;simp[go_sem,wb,awf];refine⟨⟨aiO.from zU.size _,aiQ⟩,?_⟩;rw[bP];refine⟨?_,by simp;omega⟩;rw[wp,el];exact⟨⟨vh,by rw[aiR];exact DC,Hb⟩,lZ,ey,cZ,by rw[TX];exact iq,xs,Nat.le_trans bT.jG zU.size,aiP⟩
   ·rintro L N dS aD bi;rw[bP]at aD;obtain⟨bT,_⟩:=aD;have Bn:(dL q.a 4).map (·%4)=dL q.a 4:=by
     conv=>rhs;rw[<-List.map_id (dL q.a 4)]
     exact List.map_congr_left λk r=>by simpa using OG k r
    rw[Bn,<-M]at bT;have aE:N.cell? ⟨cj,0,none⟩=some (.int .i64 (s.ha n q b).2):=aG bT.cm 0;obtain⟨gh,TW,qH⟩:=bT.dn;simp[go_sem,aE,ze,bi];have ui:D (aj L) N (N.putObj L (.deferred none)):=(D.refl (aj L) N).putObj (.inl rfl) _;have ap:kE bw.1.size N (N.putObj L (.deferred none)):=⟨some L,grownBy_putObj' N L _,λJ ap=>by
     cases ap
     exact⟨dS,_,bi,rfl⟩⟩
    have DC:=TW.sB ap ar;refine Z _ _ ⟨rfl,⟨aL,gh,DC.dn,λj F=> ?_,ax.lt al (Nat.le_trans bT.ch.size ui.size)⟩,bT.ch.bJ ui λj F e=> ?_⟩
    ·rcases qH j F with e|e
     ·exact .inl e
     ·exact .inr ⟨by have:=lB.size;omega,DC.dn.gK j F⟩
    ·simp only[aj]at e;have:=lB.size;omega
   ·exact λ_ _ _ _ _ _ h _=>h.elim
end
end Go.Proofs.YtoohkhcpboldjaaGreatDoor
