/- The mirror's copies, mended; healed. No condition but on sizes. -/
import Derived.Test.YtoohkhcpboldjaaGreatDoorMrC
set_option maxRecDepth 100000
set_option maxHeartbeats 4000000
set_option linter.unusedSimpArgs false
set_option linter.unusedVariables false
namespace Go.Proofs.YtoohkhcpboldjaaGreatDoor
open Go.RowKit Go.Kin
structure ao.g_(s:ao)(c:Nat):Prop where
 dq:s.P.dq<=9223372036854775807
 bB:∀i,i<2->(s.au i).bB.length<=c
 fv:∀i,i<2->∀x,(s.au i).fv=some x->x<65536
 ep:∀i,s.ep i<=c
 e_:∀i,s.e_ i<=c
 dx:s.dx.length<=c
theorem avw{O:Nat->Prop}{w ab ai:World}(H:w.1.size<=ab.1.size)(I:ab.1.size<=ai.1.size){k:Nat}(h:ax (ax O w ab) ab ai k):ax O w ai k:=by
 rcases h with(h|h)|h
 ·exact .inl h
 ·exact .inr ⟨h.1,by omega⟩
 ·exact .inr ⟨by omega,h.2⟩
theorem bR.aiA(n:Nat)(L:bR)(P:ek)(a:Nat)(b:cX):(L.ha n P a b).bB.length<=L.bB.length+1/\((L.ha n P a b).fv=L.fv\/(L.ha n P a b).fv=none):=by
 unfold bR.ha bR.put
 grind
theorem bR.avx(n:Nat)(L:bR)(P:ek)(a:Nat)(b:cX)(h:P.dq<=9223372036854775807):(L.qP n P a b).dq<=9223372036854775807:=by
 unfold bR.qP;split
 ·exact h
 ·split
  ·exact h
  ·exact ek.ahD h (by decide)
section
variable{w w':World}{m p n i:Nat}{z:fe}{s:ao}{aL:Value}{ag:Nat->Nat->Prop}{O O' S:Nat->Prop}{c:Nat}
theorem ao.g_.mf(h:s.g_ c)(q:Pt)(b:cX)(k:Nat):(s.mf n q b k).g_ (c+1):=by
 unfold ao.mf;have bH:=bR.aiA n (s.au (k / 2)) s.P (cP q k) b;refine⟨bR.avx _ _ _ _ _ h.dq,λi aa=> ?_,λi aa=> ?_,λi=>Nat.le_succ_of_le (h.ep i),λi=>Nat.le_succ_of_le (h.e_ i),Nat.le_succ_of_le h.dx⟩
 ·by_cases e:i=k / 2
  ·subst e;simp only[zL];have:=h.bB _ aa;omega
  ·simp only[vp _ _ e];have:=h.bB _ aa;omega
 ·by_cases e:i=k / 2
  ·subst e;simp only[zL];rcases bH.2 with e|e
   ·rw[e];exact h.fv _ aa
   ·rw[e];simp
  ·simp only[vp _ _ e];exact h.fv _ aa
theorem ao.g_.ss(h:s.g_ c)(q:Pt)(b:cX)(k:Nat):(s.ss n q b k).g_ (c+1):=by
 have H:=h.mf (n:=n) q b k;unfold ao.ss;simp only;split
 ·refine⟨H.dq,H.bB,H.fv,H.ep,λi=> ?_,H.dx⟩;simp only[hM];have:=h.e_ i;have e:(s.mf n q b k).e_=s.e_:=rfl
  grind
 ·have I:((s.mf n q b k).vq n (k / 2) (cP q k)).g_ (c+1):=by
   unfold ao.vq;split
   ·exact H
   ·exact⟨H.dq,H.bB,H.fv,H.ep,H.e_,H.dx⟩
  have aH:((s.mf n q b k).vq n (k / 2) (cP q k)).dx=s.dx:=by unfold ao.vq;split<;>rfl
  unfold ao.Oi;split
  ·exact I
  ·refine⟨I.dq,I.bB,I.fv,I.ep,I.e_,?_⟩;simp only[aH,List.length_append,List.length_singleton];have:=h.dx;omega
theorem j'.ex(h:j' w m p n z s O)(eV:∀k,O k->O' k)(al:∀k,O' k->k<w.1.size):j' w m p n z s O':=by
 obtain⟨aL,ag,H,I,_⟩:=h;exact⟨aL,ag,H,λk r=>eV k (I k r),al⟩
theorem j'.lt(h:j' w m p n z s O):∀k,O k->k<w.1.size:=by
 obtain⟨_,_,_,_,af⟩:=h;exact af
theorem j'.own(h:j' w m p n z s O):O m/\O z.b_/\O p:=by
 obtain⟨_,_,_,I,_⟩:=h;exact⟨I _ (.inl (.inl rfl)),I _ (.inl (.inr (.inl rfl))),I _ (.inr (.inr (.inr rfl)))⟩
theorem j'.Ku{f:FuncId}{args:Array Value}{D':bR}{P':ek}{R:Value->World->Prop}(h:j' w m p n z s O)(aa:i<2)
  (bi:∀B,ks w (z.d i) p n (s.au i) s.P B->(∀k,B k->O k)->aP Tryz.prog f args w λW w'=>R W w'/\ks w' (z.d i) p n D' P' (ax B w w')/\D (λk=>B k\/k=p) w w'):
  aP Tryz.prog f args w λW w'=>R W w'/\j' w' m p n z {s with au:=hM s.au i D',P:=P'} (ax O w w')/\D O w w':=by
 obtain⟨aL,ag,H,I,af⟩:=h;have hm:∀k,ag i k->O k:=λk r=>I k (by rcases jo aa with rfl|rfl;exact .inr (.inl r);exact .inr (.inr (.inl r)));refine(bi (ag i) (H.jv i aa) hm).mono ?_;rintro W w' ⟨Z,aU,bC⟩;refine⟨Z,⟨aL,_,H.Ku aa aU bC,λk r=>(H.ahL aa r).imp (I k) id,ax.lt af bC.size⟩,bC.mono λk _ e=>e.elim (hm k) λe=>by subst e;exact I _ (.inr (.inr (.inr rfl)))⟩
theorem avy(h:w.ownsRow 0 44 41 aL s.dx.length (dv Y s.dx))(ok:∀q∈s.dx,bN q){k:Nat}{x:Pt}(r:s.dx[k]? =some x):∃g cap di,aL=.slice (some ⟨g,0,none⟩) s.dx.length cap/\s.dx.length<=cap/\w.1[g]? =some (.cells di 44 (0,0))/\di.extract (k*41) (k*41+41)=Y x/\k*41+41<=di.size:=by
 have AG:=(List.getElem?_eq_some_iff.1 r).1;rcases h.2 with⟨_,bf⟩|⟨g,cap,di,aS,_,E',T,_,cL,bd⟩
 ·omega
 refine⟨g,cap,di,aS,T,E',?_,by omega⟩;have ap:=Jn (f:=Y) (n:=41) (λx M=>bW (ok x M)) r;rw[<-ap];apply Array.ext';rw[Array.toList_extract,Array.toList_extract,List.extract_eq_take_drop,List.extract_eq_take_drop,show(jF Y s.dx).toList=dv Y s.dx by simp[jF],<-bd];rw[List.drop_take,List.take_take];congr 1;omega
theorem avz(h:w.ownsRow 0 44 41 aL s.dx.length (dv Y s.dx))(ok:∀q∈s.dx,bN q)(q:Pt)(kV:bN q)(al:s.dx.length<=1000000):aP Tryz.prog 237 #[aL,.agg (Y q)] w λW w'=>W=.bool (s.dx.contains q)/\D ak w w':=by
 have cU:=bW kV;have cT:=dW kV;have pT:∀w0,D ak w w0->aP Tryz.prog 259 #[aL,.agg (Y q)] w0 λW w'=>(∃k:Int,W=.int .i64 k/\decide (0<=k)=s.dx.contains q)/\D ak w0 w':=λw0 fG=>by
  refine bn Tryz.func259 Tryz.ntmps259 λaZ Z=> ?_;have cI:∀w',(Builtin.len_ #[87] 3 #[aL]).run Tryz.prog w'=.ok (.int .i64 s.dx.length) w':=λw'=>by
   rcases h.2 with⟨aS,bf⟩|⟨g,cap,di,aS,_⟩
   ·subst aS;simp[Builtin.len_,run_underlying Tryz.underlying87,goInt,bf]
   ·subst aS;rfl
  have bj:=cl w0 (.cells (Y q) 44);have aY:=(D.refl ak w0).alloc (.cells (Y q) 44);simp[go_sem,cI];obtain⟨kv,CG⟩:=az (w0.1.size);rw[CG]at bj⊢;generalize w0.alloc (.cells (Y q) 44)=ab at*;refine du (λJ f u=>∃k,J=s.dx.length - k/\k<=s.dx.length/\f 8=.int .i64 k/\f 7=.int .i64 s.dx.length/\f 0=aL/\f 3=.pointer (some ⟨kv,0,none⟩)/\(∀j x,j<k->s.dx[j]? =some x->x≠q)/\D ak ab u) s.dx.length
   ⟨0,rfl,Nat.zero_le _,by simp,by simp,by simp,by simp,λj x F=>by omega,D.refl _ _⟩ ?_
  rintro cJ bK _ f u ⟨k,rfl,r,bz,cg,f0,bV,my,aJ⟩;have qR:=aJ.obj bj id;by_cases aO:k<s.dx.length
  ·have sP:(k:Int)<s.dx.length:=by omega
   obtain⟨x,M⟩:∃x,s.dx[k]? =some x:=⟨_,List.getElem?_eq_getElem aO⟩;have dh:=ok x (List.mem_of_getElem? M);obtain⟨g,cap,di,OP,xR,E',nL,cL⟩:=avy h ok M;have qc:=(fG.trans (aY.trans aJ)).obj E' id;have avA:=((D.refl ak u).drew).obj qc id;have avB:=((D.refl ak u).drew).obj qR id;have eo:IntKind.i64.wrap ((k:Int)+1)=(k:Int)+1:=by rw[IntKind.wrap_i64];omega
   have gI:=λw=>sO (w:=w) kV dh;have eU:=bW dh;simp[go_sem,bz,cg,aO,sP];refine cD [A 0,A 1,A 2,A 3,A 4,A 5] ?_;rw[OP]at f0;simp[go_sem,f0,bV,aO,sP,qc,avA,qR,avB,cU,cT,nL,cL,Op.equal,Op.maxDepth,gI];by_cases OQ:q=x
   ·simp[go_sem,OQ];refine Z _ _ ⟨⟨k,rfl,?_⟩,aY.trans (aJ.trans (D.refl ak u).drew)⟩
    grind
   ·simp[go_sem,OQ,bz,cg,eo];refine cH.intro (s.dx.length -(k+1)) (by omega) (bK _ _ _ ⟨k+1,rfl,by omega,by simp,by simp[cg],by simp[f0,OP],by simp[bV],λj y F ar=> ?_,aJ.trans (D.refl ak u).drew⟩)
    grind
  ·have sP:¬(k:Int)<s.dx.length:=by omega
   simp[go_sem,bz,cg,aO,sP];refine Z _ _ ⟨⟨-1,rfl,?_⟩,aY.trans aJ⟩;have:¬q∈s.dx:=λaq=>by
    obtain⟨j,F⟩:=List.mem_iff_getElem?.1 aq
    grind
   grind
 refine bn Tryz.func237 Tryz.ntmps237 λaZ Z=> ?_;have aY:=(D.refl ak w).alloc (.cells (Y q) 44);simp[go_sem,cU,cT];refine(pT _ aY).mono ?_;rintro _ ab ⟨⟨k,rfl,r⟩,aI⟩;simp[go_sem];exact Z _ _ ⟨by rw[<-r],aY.trans aI⟩
end
theorem aai{O:Nat->Prop}{w ab ai:World}(I:ab.1.size<=ai.1.size){k:Nat}(h:ax O w ab k):ax O w ai k:=h.imp id λe=>⟨e.1,by omega⟩
theorem afu:Bg Tryz.prog 87 44 (.agg (Y ad)) 41 56:=⟨Tryz.underlying87,by kernel_rfl,by rw[show(Value.agg (Y ad)).cells=Y ad from rfl];exact bW cE,by decide⟩
theorem aft{x:Pt}(ok:bN x)(w:World):(Instr.buildSlice 87 1 #[(0,.agg (Y x))]).run Tryz.prog w=.ok (.slice (some ⟨w.1.size,0,none⟩) 1 1) (w.alloc (.cells (Y x) 44)):=
 Rw Tryz.underlying87 Tryz.sizeOf44 (by kernel_rfl:(Tryz.prog.info? 44).bind (·.zero)=some (.agg (Y ad))) (bW ok) (by decide) (by decide) w
theorem avC(s:ao)(z:fe)(aL:Value){i:Nat}(aa:i<2)(x:Nat):(ww s z aL).setIfInBounds (3+i*2+1) (.int .i64 x)=ww {s with e_:=hM s.e_ i x} z aL:=by
 rcases jo aa with rfl|rfl<;>simp[ww,hM]
theorem avD(s:ao)(z:fe)(aL:Value){i:Nat}(aa:i<2):(ww s z aL)[3+i*2+1]? =some (.int .i64 (s.e_ i)):=by
 rcases jo aa with rfl|rfl<;>rfl
section
variable{w w':World}{m p n i:Nat}{z:fe}{s:ao}{aL:Value}{ag:Nat->Nat->Prop}{O O' S:Nat->Prop}{c:Nat}
theorem eg.move(h:eg w m p n z s aL ag){ab:World}{jb:Value}{q:Pt}(iZ:D (λk=>aL.ownBlock=some k) w ab)(TR:ab.ownsRow 0 44 41 jb (s.dx++[q]).length (dv Y (s.dx++[q])))(tc:jb.ownBlock=aL.ownBlock\/fZ w.1.size jb)(ok:bN q):
  eg (ab.setCell ⟨m,7,none⟩ jb) m p n z {s with dx:=s.dx++[q]} jb ag/\D (λk=>k=m\/aL.ownBlock=some k) w (ab.setCell ⟨m,7,none⟩ jb):=by
 obtain⟨hY,kA,jE,rh,Bc,n6⟩:=h.ne;have avE:=h.iP;have T:D (aj m) ab (ab.setCell ⟨m,7,none⟩ jb):=(D.refl (aj m) ab).setCell (p:=⟨m,7,none⟩) (.inl rfl) _;have aO:=h.gK;have py:∀k,k=m\/k=z.b_\/k=z.g 0\/k=z.g 1->¬aL.ownBlock=some k:=λk r e=>by
  grind
 have KQ:∀k,jb.ownBlock=some k->aL.ownBlock=some k\/w.1.size<=k:=λk r=>tc.imp (λe=>by rw[<-e];exact r) λe=>e k r;have kH:∀k,jb.ownBlock=some k->k≠m/\k≠z.b_/\k≠z.g 0/\k≠z.g 1:=λk r=>by
  rcases KQ k r with e|e
  ·exact avE k e
  ·refine⟨λaW=> ?_,λaW=> ?_,λaW=> ?_,λaW=> ?_⟩
   ·have:=aO k (.inl (.inl aW));omega
   ·have:=aO k (.inl (.inr (.inl aW)));omega
   ·have:=aO k (.inl (.inr (.inr (.inl aW))));omega
   ·have:=aO k (.inl (.inr (.inr (.inr (.inl aW)))));omega
 refine⟨⟨?_,λi aa=>((h.jv i aa).ch iZ (λk r e=>(h.By aa (.inr (.inr (.inr (.inr e))))).1 r) λe=>(h.By aa (.inr (.inr (.inr (.inr e))))).2 rfl).ch T (λk r e=>(h.By aa (.inl e)).1 r) λe=>(h.By aa (.inl e)).2 rfl,T.obj (iZ.obj h.b_ (py _ (.inr (.inl rfl)))) hY,λi aa=> ?_,ej TR T λk r e=>(kH k r).1 e,λx M=> ?_,h.Bu,h.ne,λk r=> ?_,kH⟩,?_⟩
 ·rw[eY,iZ.obj h.blk (py _ (.inl rfl)),gp];rfl
 ·rcases jo aa with rfl|rfl
  ·exact T.obj (iZ.obj (h.pl 0 aa) (py _ (.inr (.inr (.inl rfl))))) kA
  ·exact T.obj (iZ.obj (h.pl 1 aa) (py _ (.inr (.inr (.inr rfl))))) jE
 ·rcases List.mem_append.1 M with M|M
  ·exact h.nD x M
  grind
 ·rcases r with r|r|r|r|r
  ·exact h.md k (.inl r)
  ·exact h.md k (.inr (.inl r))
  ·exact h.md k (.inr (.inr (.inl r)))
  ·exact h.md k (.inr (.inr (.inr (.inl r))))
  ·rcases KQ k r with e|e
   ·exact h.md k (.inr (.inr (.inr (.inr e))))
   ·refine⟨λaW=> ?_,λaW=> ?_,λaW=> ?_⟩
    ·have:=aO k (.inr (.inl aW));omega
    ·have:=aO k (.inr (.inr (.inl aW)));omega
    ·have:=aO k (.inr (.inr (.inr aW)));omega
 ·exact(iZ.mono λk _ e=>.inr e).setCell (p:=⟨m,7,none⟩) (.inl (.inl rfl)) _
theorem avF(h:j' w m p n z s O)(q:Pt)(ok:bN q)(r:ja w)(k:Nat)(fs:k<4)(b:cX)(v:Value)(aS:bD w v b.length (bm b))(hS:∀j,v.ownBlock=some j->¬O j)(kI:s.g_ c)(T:c<=900000)(sq:¬O 3):
  aP Tryz.prog 200 #[.pointer (some ⟨m,0,none⟩),.agg (Y q),.agg #[.int .i64 (k / 2:Nat),.int .u16 (cP q k)],v] w λ_ w'=>j' w' m p n z (s.ss n q b k) (ax O w w')/\D O w w':=by
 refine bn Tryz.func200 Tryz.ntmps200 λaZ Z=> ?_;have cU:=bW ok;have cT:=dW ok;have sj:=Km ok k;obtain⟨i,ea⟩:=az (k / 2);have aa:i<2:=by omega
 have pw:(i:Int)<2:=by omega
 rw[ea];have bj:=oa w (.cells (Y q) 44) (.cells #[.int .i64 i,.int .u16 (cP q k)] 346);have ba:=ny w (.cells (Y q) 44) (.cells #[.int .i64 i,.int .u16 (cP q k)] 346);have aY:=((D.refl ak w).alloc (.cells (Y q) 44)).alloc (.cells #[.int .i64 i,.int .u16 (cP q k)] 346);have gd:((w.alloc (.cells (Y q) 44)).alloc (.cells #[.int .i64 i,.int .u16 (cP q k)] 346)).1.size=w.1.size+2:=by simp
 have al:=h.lt;have M:s.ss n q b k=if((s.mf n q b k).ko n q k).isSome then{s.mf n q b k with e_:=hM s.e_ i (s.e_ i+1)}else((s.mf n q b k).vq n i (cP q k)).Oi q:=by
  unfold ao.ss;simp only[ea];rfl
 have wb:s.mf n q b k={s with au:=hM s.au i ((s.au i).ha n s.P (cP q k) b),P:=(s.au i).qP n s.P (cP q k) b}:=by unfold ao.mf;rw[ea]
 simp[go_sem];obtain⟨g,aF⟩:=az (w.1.size);rw[aF]at bj ba gd⊢;generalize(w.alloc (.cells (Y q) 44)).alloc (.cells #[.int .i64 i,.int .u16 (cP q k)] 346)=ab at*;have H:=(h.ch aY λ_ _ e=>e).ch (D.refl ak ab).drew λ_ _ e=>e;have aI:=λj=>aG ba j;have dU:ab.cell? ⟨m,i,none⟩=some (.pointer (some ⟨z.d i,0,none⟩)):=by
  obtain⟨aL,ag,dZ,_⟩:=H;have:=aG dZ.blk i;rw[show ab.drew.cell? ⟨m,i,none⟩=ab.cell? ⟨m,i,none⟩from rfl]at this;rw[this];rcases jo aa with rfl|rfl<;>rfl
 refine cD [A 0,A 1,A 2,A 3,A 4,A 5,A 6,A 7,A 8,A 9,(10,some [])] ?_;simp[go_sem,aI,dU,aa,pw];have sF:bD ab.drew v b.length (bm b):=(aS.ch aY λ_ _ e=>e).drew;refine(H.Ku aa (D':=(s.au i).ha n s.P (cP q k) b) (P':=(s.au i).qP n s.P (cP q k) b) (R:=λW _=>W=.int .i64 (wv ((s.au i).lG n s.P (cP q k) b))) λB eR aaj=> ?_).mono ?_
 ·refine(eR.ha (cP q k) sj b v kI.dq (by have:=kI.bB i aa;omega) (kI.fv i aa) sF λj F=>⟨λe=>hS j F (aaj j e),λe=> ?_⟩).mono λW w' aD=>⟨aD.1,aD.2⟩;subst e;exact hS _ F h.own.2.2
 rintro _ ai ⟨rfl,I,aA⟩;rw[<-wb]at I;have aA:D O ab ai:=D.iy aA;have eO:∀j,g<=j->¬O j:=λj F e=>by have:=al j e;omega
 have jd:=aA.obj bj (eO _ (by omega));have i_:=aA.obj ba (eO _ (by omega));have jX:ja ai:=(r.ch aY id).ch aA sq;have eF:D O w ai:=(aY.mono λ_ _ e=>e.elim).trans aA;have jg:=aA.size;have nc:=λj=>aG i_ j;obtain⟨aL,ag,dZ,KR,aak⟩:=I;have OR:∀j,fR z m p aL ag j->ax O w ai j:=λj F=>(KR j F).imp id λe=>⟨by have:=e.1;rw[show ab.drew.1.size=ab.1.size from rfl]at this;omega,e.2⟩;have aH':∀j,g<=j->j<g+2->¬fR z m p aL ag j:=λj H I e=>by
  rcases KR j e with e|e
  ·exact eO j H e
  ·have:=e.1;rw[show ab.drew.1.size=ab.1.size from rfl]at this;omega
 have OI:=ahM dZ q ok jX k fs;rw[ea]at OI;simp[go_sem,jd,i_,nc,cU,cT];refine OI.mono ?_;rintro v3 aC ⟨ap,aE⟩;have af:=dZ.ch aE λ_ _ e=>e;have si:=aE.obj jd id;have iL:=aE.obj i_ id;have lq:=λj=>aG iL j;have avG:=af.ch (D.refl ak aC).drew λ_ _ e=>e;have iU:D O w aC:=eF.trans (aE.mono λ_ _ e=>e.elim);have avH:ax O w ai m:=OR m (.inl (.inl rfl))
 cases sD:(s.mf n q b k).ko n q k with
 |some x=>
  rw[sD]at ap M;obtain⟨u,rfl,_⟩:=ap;rw[Option.isSome_some,if_pos rfl]at M;simp[go_sem];refine cD [A 0,A 1,A 2,A 3,A 4,A 5,A 6,A 7,A 8,A 9,A 10,A 11,A 12,(13,some [])] ?_;have aIa:=kI.e_ i;have avI:aC.cell? ⟨m,3+i*2+1,none⟩=some (.int .i64 (s.e_ i)):=by rw[aG af.blk];exact avD _ z aL aa
  have avJ:=dD af.blk (3+i*2+1);have TS:IntKind.i64.wrap ((s.e_ i:Int)+1)=((s.e_ i+1:Nat):Int):=by rw[IntKind.wrap_i64];omega
  obtain⟨FD,aal⟩:=az (s.e_ i+1);rw[aal]at TS M;simp[go_sem,lq,aa,pw,avI,avJ,TS];have ix:D (aj m) aC (aC.setCell ⟨m,3+i*2+1,none⟩ (.int .i64 FD)).drew:=((D.refl (aj m) aC).setCell (p:=⟨m,3+i*2+1,none⟩) (.inl rfl) _).drew;have avK:eg (aC.setCell ⟨m,3+i*2+1,none⟩ (.int .i64 FD)).drew m p n z {s.mf n q b k with e_:=hM s.e_ i FD} aL ag:=by
   refine af.own ix ?_ rfl rfl rfl rfl rfl;rw[ye,eY,af.blk,gp,avC _ z aL aa];rfl
  refine Z _ _ ⟨?_,iU.trans (ix.mono λj _ e=>by simp only[aj]at e;subst e;exact h.own.1)⟩;rw[M];exact⟨aL,ag,avK,λj F=>aai (Nat.le_trans aE.size ix.size) (OR j F),ax.lt al (Nat.le_trans iU.size ix.size)⟩
 |none=>
  rw[sD]at ap M;rw[Option.isSome_none,if_neg (by decide)]at M;obtain⟨u,rfl⟩:=ap;simp[go_sem];refine cD [A 0,A 1,A 2,A 3,A 4,A 5,A 6,A 7,(8,some [])] ?_;have avL:aC.cell? ⟨m,2,none⟩=some (.pointer (some ⟨z.b_,0,none⟩)):=aG af.blk 2;simp[go_sem,lq,avL];refine(aua avG aa (cP q k) sj).mono ?_;rintro v4 be ⟨aU,bv⟩;have bv:D (aj (z.g i)) aC be:=D.iy bv;have TT:zH z m aL (z.g i):=by
   rcases jo aa with rfl|rfl
   ·exact .inr (.inr (.inl rfl))
   ·exact .inr (.inr (.inr (.inl rfl)))
  have aiB:O (z.g i):=by
   obtain⟨_,_,_,I,_⟩:=h;exact I _ (.inl (by rcases jo aa with rfl|rfl;exact .inr (.inr (.inl rfl));exact .inr (.inr (.inr (.inl rfl)))))
  have Dw:D O w be:=iU.trans (bv.mono λj _ e=>by simp only[aj]at e;subst e;exact aiB);have avM:∀j,g<=j->j<g+2->¬aj (z.g i) j:=λj H I e=>by simp only[aj]at e;subst e;exact eO _ H aiB
  have oQ:=bv.obj si (avM _ (by omega) (by omega));have JA:=aU.ch (D.refl ak be).drew λ_ _ e=>e;obtain⟨t,bd⟩:=az ((s.mf n q b k).vq n i (cP q k));have avN:t.dx=s.dx:=by rw[<-bd];unfold ao.vq;split<;>rfl
  rw[bd]at aU JA M;obtain⟨G',uy,OP⟩:∃ag c,aL=.slice ag t.dx.length c:=by
   rcases aU.wt.2 with⟨aS,bf⟩|⟨g,cap,di,aS,_⟩
   ·grind
   ·exact⟨_,_,aS⟩
  obtain⟨aQ,dE⟩:=az (t.dx.length);rw[dE]at OP;have avp:aQ<=900000:=by have:=kI.dx;rw[<-dE,avN];omega
  have dz:be.cell? ⟨m,7,none⟩=some aL:=aG aU.blk 7;have cg:=dD aU.blk 7;simp[go_sem];refine cD [A 0,A 1,A 2,A 3,A 4,(5,some []),A 6] ?_;have avO:be.drew.1[g]? =some (.cells (Y q) 44 (0,0)):=oQ;simp[go_sem,dz,oQ,avO,cU,cT];refine(avz JA.wt JA.nD q ok (by omega)).mono ?_;rintro _ bw ⟨rfl,bx⟩;have bx:D ak be bw:=D.iy bx;have bC:=aU.ch bx λ_ _ e=>e;have lB:D O w bw:=Dw.trans (bx.mono λ_ _ e=>e.elim)
  cases EC:t.dx.contains q with
  |true=>
   simp[go_sem];refine Z _ _ ⟨?_,lB⟩;rw[M];unfold ao.Oi;rw[EC,if_pos rfl];exact⟨aL,ag,bC,λj F=>aai (Nat.le_trans aE.size (Nat.le_trans bv.size bx.size)) (OR j F),ax.lt al lB.size⟩
  |false=>
   have CY:=bx.obj oQ id;have aam:=bx.cell dz id;have mc:=(D.refl ak bw).drew;have avP:=mc.obj CY id;subst OP;simp[go_sem];refine cD [A 0,A 1,A 2,A 3,A 4,A 5,(6,some [0,1,2,3,4]),(7,some [0]),A 8,A 9,(10,some [])] ?_;have aIb:=dD bC.blk 7;have zf:=bC.ch mc λ_ _ e=>e;simp[↓yK,go_sem,aam,CY,avP,cU,cT];refine AH (aft ok _) ?_;have aiC:=zf.wt;rw[dE]at aiC;have XK:=(D.refl ak bw.drew).alloc (.cells (Y q) 44);have avQ:(bw.alloc (.cells (Y q) 44)).cell? ⟨m,7,none⟩=some (.slice G' aQ uy):=((D.refl ak bw).alloc (.cells (Y q) 44)).cell aam id;simp[go_sem,aam,avQ];rw[show(bw.alloc (.cells (Y q) 44)).drew=bw.drew.alloc (.cells (Y q).toList.toArray 44)by simp;rfl];refine va (w:=bw.drew) (us:=(Y q).toList) afu aiC (by rw[Array.length_toList,cU]) (λavR avS=>by
    have:=sN q;unfold jT at this;exact Array.all_eq_true'.1 this avR (by simpa using avS)) (by unfold maxLen;omega) (by omega) λkD cd rq rr xA=> ?_
   have XM:cd.ownsRow 0 44 41 kD (t.dx++[q]).length (dv Y (t.dx++[q])):=by
    rw[xi,yE,List.length_append,dE];exact rq
   obtain⟨eD,lP⟩:=zf.move rr XM xA ok;obtain⟨fB,sE,OO,xB,_⟩:=zb rq (by omega);have aiD:∀j,kD.ownBlock=some j->(Value.slice G' aQ uy).ownBlock=some j\/bw.1.size<=j:=λj F=>xA.imp (λe=>by rw[<-e];exact F) λe=>e j F;have aiE:=rr.obj zf.blk (λe=>(zf.iP m e).1 rfl);have avT:=aG aiE 7;have C_:=dD aiE 7;rw[xB]at eD lP aiD;rw[xB];simp[go_sem,avT,C_,ww];have lP:D (λj=>j=m\/(Value.slice G' aQ uy).ownBlock=some j) bw (cd.setCell ⟨m,7,none⟩ (.slice (some ⟨fB,0,none⟩) (aQ+1) sE)):=D.iy lP;have avU:=lB.size;have iw:fB<cd.1.size:=oJ rq fB (by rw[xB];rfl);have yf:cd.1.size<=(cd.setCell ⟨m,7,none⟩ (.slice (some ⟨fB,0,none⟩) (aQ+1) sE)).1.size:=((D.refl (aj m) cd).setCell (p:=⟨m,7,none⟩) (.inl rfl) _).size;have avV:ai.1.size<=bw.1.size:=Nat.le_trans aE.size (Nat.le_trans bv.size bx.size);have nN:∀j,fR z m p (.slice G' aQ uy) ag j->ax O w (cd.setCell ⟨m,7,none⟩ (.slice (some ⟨fB,0,none⟩) (aQ+1) sE)) j:=λj F=>aai (Nat.le_trans avV lP.size) (OR j F);refine Z _ _ ⟨?_,lB.bJ lP λj F e=> ?_⟩
   ·rw[M];unfold ao.Oi;rw[EC,if_neg (by decide)];refine⟨_,ag,eD,λj F=> ?_,ax.lt al (Nat.le_trans avU lP.size)⟩;rcases F with(F|F|F|F|F)|F
    ·exact nN j (.inl (.inl F))
    ·exact nN j (.inl (.inr (.inl F)))
    ·exact nN j (.inl (.inr (.inr (.inl F))))
    ·exact nN j (.inl (.inr (.inr (.inr (.inl F)))))
    ·rcases aiD j F with e|e
     ·exact nN j (.inl (.inr (.inr (.inr (.inr e)))))
     ·simp[Value.ownBlock]at F;exact .inr ⟨by omega,by omega⟩
    ·exact nN j (.inr F)
   ·have:ax O w ai j:=e.elim (λe=>by subst e;exact avH) λe=>OR j (.inl (.inr (.inr (.inr (.inr e)))));rcases this with e|e
    ·exact e
    ·omega
end
end Go.Proofs.YtoohkhcpboldjaaGreatDoor
