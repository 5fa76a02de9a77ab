/- The mirror's copies, mended; healed. No condition but on sizes. -/
import Derived.Test.YtoohkhcpboldjaaGreatDoorMrC
set_option maxRecDepth 100000
set_option maxHeartbeats 4000000
set_option linter.unusedSimpArgs false
set_option linter.unusedVariables false
namespace Go.Proofs.YtoohkhcpboldjaaGreatDoor
open Go.RowKit Go.Kin Tryz
structure ay.il(s:ay)(c:Nat):Prop where
 dS:s.P.dS<=9223372036854775807
 bT:∀i,i<2->(s.aB i).bT.length<=c
 gl:∀i,i<2->∀x,(s.aB i).gl=some x->x<65536
 eV:∀i,s.eV i<=c
 gd:∀i,s.gd i<=c
 dW:s.dW.length<=c
theorem aGX{O:Nat->Prop}{w ai an:M}(J:w.1.size<=ai.1.size)(T:ai.1.size<=an.1.size){k:Nat}(h:aE (aE O w ai) ai an k):aE O w an k:=by
 rcases h with(h|h)|h
 ·exact .inl h
 ·exact .inr ⟨h.1,by omega⟩
 ·exact .inr ⟨by omega,h.2⟩
theorem cb.ap3(n:Nat)(D:cb)(P:eL)(a:Nat)(b:cW):(D.ij n P a b).bT.length<=D.bT.length+1/\((D.ij n P a b).gl=D.gl\/(D.ij n P a b).gl=none):=by
 unfold cb.ij cb.put
 grind
theorem cb.aGY(n:Nat)(D:cb)(P:eL)(a:Nat)(b:cW)(h:P.dS<=9223372036854775807):(D.sq n P a b).dS<=9223372036854775807:=by
 unfold cb.sq;split
 ·exact h
 ·split
  ·exact h
  ·exact eL.amH h (by decide)
section
variable {w w':M}{m p n i:Nat}{z:fV}{s:ay}{a_:N}{A:Nat->Nat->Prop}{O O' S:Nat->Prop}{c:Nat}
theorem ay.il.ng(h:s.il c)(q:Pt)(b:cW)(k:Nat):(s.ng n q b k).il (c+1):=by
 unfold ay.ng;have bM:=cb.ap3 n (s.aB (k / 2)) s.P (du q k) b;refine⟨cb.aGY _ _ _ _ _ h.dS,λi ad=> ?_,λi ad=> ?_,λi=>ac2 (h.eV i),λi=>ac2 (h.gd i),ac2 h.dW⟩
 ·by_cases e:i=k / 2
  ·subst e;simp only[Dg];have:=h.bT _ ad;omega
  ·simp only[ye _ _ e];have:=h.bT _ ad;omega
 ·by_cases e:i=k / 2
  ·subst e;simp only[Dg];rcases bM.2 with e|e
   ·rw[e];exact h.gl _ ad
   ·rw[e];simp
  ·simp only[ye _ _ e];exact h.gl _ ad
theorem ay.il.uJ(h:s.il c)(q:Pt)(b:cW)(k:Nat):(s.uJ n q b k).il (c+1):=by
 have J:=h.ng (n:=n) q b k;unfold ay.uJ;simp only;split
 ·refine⟨J.dS,J.bT,J.gl,J.eV,λi=> ?_,J.dW⟩;simp only[iS];have:=h.gd i;have e:(s.ng n q b k).gd=s.gd:=rfl
  grind
 ·have T:((s.ng n q b k).yf n (k / 2) (du q k)).il (c+1):=by
   unfold ay.yf;split
   ·exact J
   ·exact⟨J.dS,J.bT,J.gl,J.eV,J.gd,J.dW⟩
  have aC:((s.ng n q b k).yf n (k / 2) (du q k)).dW=s.dW:=by unfold ay.yf;split<;>rfl
  unfold ay.UF;split
  ·exact T
  ·refine⟨T.dS,T.bT,T.gl,T.eV,T.gd,?_⟩;simp only[aC,kR,II];have:=h.dW;omega
theorem kF.eK(h:kF w m p n z s O)(eZ:∀k,O k->O' k)(ak:∀k,O' k->k<w.1.size):kF w m p n z s O':=by
 obtain⟨a_,A,J,T,_⟩:=h;exact⟨a_,A,J,λk r=>eZ k (T k r),ak⟩
theorem kF.lt(h:kF w m p n z s O):∀k,O k->k<w.1.size:=by
 obtain⟨_,_,_,_,ag⟩:=h;exact ag
theorem kF.own(h:kF w m p n z s O):O m/\O z.c'/\O p:=by
 obtain⟨_,_,_,T,_⟩:=h;exact⟨T _ (.inl (.inl rfl)),T _ (.inl (.inr (.inl rfl))),T _ (.inr (.inr (.inr rfl)))⟩
theorem kF.Qh{f:FuncId}{args:Array N}{D':cb}{P':eL}{R:N->M->Prop}(h:kF w m p n z s O)(ad:i<2)
  (bm:∀B,ml w (z.d i) p n (s.aB i) s.P B->(∀k,B k->O k)->bc prog f args w λv' w'=>R v' w'/\ml w' (z.d i) p n D' P' (aE B w w')/\H (λk=>B k\/k=p) w w'):
  bc prog f args w λv' w'=>R v' w'/\kF w' m p n z {s with aB:=iS s.aB i D',P:=P'} (aE O w w')/\H O w w':=by
 obtain⟨a_,A,J,T,ag⟩:=h;have fp:∀k,A i k->O k:=λk r=>T k (by rcases kX ad with rfl|rfl;exact .inr (.inl r);exact .inr (.inr (.inl r)));refine(bm (A i) (J.kW i ad) fp).mono ?_;rintro v' w' ⟨af,aP,bH⟩;refine⟨af,⟨a_,_,J.Qh ad aP bH,λk r=>(J.apq ad r).imp (T k) id,aE.lt ag bH.size⟩,bH.mono λk _ e=>e.elim (fp k) λe=>by subst e;exact T _ (.inr (.inr (.inr rfl)))⟩
theorem aGZ(h:w.ownsRow 0 44 41 a_ s.dW.length (ei ae s.dW))(ok:∀q∈s.dW,cc q){k:Nat}{x:Pt}(r:s.dW[k]? =some x):∃g cap dF,a_=.slice (some ⟨g,0,none⟩) s.dW.length cap/\s.dW.length<=cap/\w.1[g]? =some (.cells dF 44 (0,0))/\dF.extract (k*41) (k*41+41)=ae x/\k*41+41<=dF.size:=by
 have ox:=(jG.1 r).1;rcases h.2 with⟨_,bi⟩|⟨g,cap,dF,aM,_,JU,Z,_,cU,bj⟩
 ·omega
 refine⟨g,cap,dF,aM,Z,JU,?_,by omega⟩;have ax:=Gl (f:=ae) (n:=41) (λx W=>cd (ok x W)) r;rw[<-ax];apply ip;rw[Lz,Lz,Ea,Ea,show(kv ae s.dW).toList=ei ae s.dW by simp[kv],<-bj];rw[List.drop_take,List.take_take];congr 1;omega
theorem aG0(h:w.ownsRow 0 44 41 a_ s.dW.length (ei ae s.dW))(ok:∀q∈s.dW,cc q)(q:Pt)(ov:cc q)(ak:s.dW.length<=1000000):bc prog 237 #[a_,.agg (ae q)] w λv' w'=>v'=.bool (s.dW.contains q)/\H al w w':=by
 have de:=cd ov;have da:=ef ov;have rL:∀w0,H al w w0->bc prog 259 #[a_,.agg (ae q)] w0 λv' w'=>(∃k:Int,v'=aa k/\decide (0<=k)=s.dW.contains q)/\H al w0 w':=λw0 gs=>by
  refine bz func259 ntmps259 λbk af=> ?_;have cu:∀w',(Builtin.len_ #[87] 3 #[a_]).run prog w'=.ok (aa s.dW.length) w':=λw'=>by
   rcases h.2 with⟨aM,bi⟩|⟨g,cap,dF,aM,_⟩
   ·subst aM;simp[Builtin.len_,run_underlying underlying87,goInt,bi]
   ·subst aM;rfl
  have bu:=cr w0 (.cells (ae q) 44);have aU:=(H.refl al w0).alloc (.cells (ae q) 44);simp[go_sem,cu];obtain⟨hE,xK⟩:=aD (w0.1.size);rw[xK]at bu⊢;generalize w0.alloc (.cells (ae q) 44)=ai at*;refine di (λV f u=>∃k,V=s.dW.length - k/\k<=s.dW.length/\f 8=aa k/\f 7=aa s.dW.length/\f 0=a_/\f 3=az hE/\(∀j x,j<k->s.dW[j]? =some x->x≠q)/\H al ai u) s.dW.length
   ⟨0,rfl,gG _,by simp,by simp,by simp,by simp,λj x I=>by omega,H.refl _ _⟩ ?_
  rintro cQ bJ _ f u ⟨k,rfl,r,bB,bQ,f0,bR,mE,aS⟩;have sO:=aS.obj bu id;by_cases aO:k<s.dW.length
  ·have vb:(k:Int)<s.dW.length:=by omega
   obtain⟨x,W⟩:∃x,s.dW[k]? =some x:=⟨_,d_ aO⟩;have cG:=ok x (ib W);obtain⟨g,cap,dF,uP,Bv,JU,mr,cU⟩:=aGZ h ok W;have rX:=(gs.trans (aU.trans aS)).obj JU id;have aG1:=((H.refl al u).drew).obj rX id;have aG2:=((H.refl al u).drew).obj sO id;have ej:IntKind.i64.wrap ((k:Int)+1)=(k:Int)+1:=by rw[cz];omega
   have ho:=λw=>tc (w:=w) ov cG;have eF:=cd cG;simp[go_sem,bB,bQ,aO,vb];refine cT [F 0,F 1,F 2,F 3,F 4,F 5] ?_;rw[uP]at f0;simp[go_sem,f0,bR,aO,vb,rX,aG1,sO,aG2,de,da,mr,cU,Op.equal,Op.maxDepth,ho];by_cases Vp:q=x
   ·simp[go_sem,Vp];refine af _ _ ⟨⟨k,rfl,?_⟩,aU.trans (aS.trans (H.refl al u).drew)⟩
    grind
   ·simp[go_sem,Vp,bB,bQ,ej];refine ct.intro (s.dW.length -(k+1)) (by omega) (bJ _ _ _ ⟨k+1,rfl,by omega,by simp,by simp[bQ],by simp[f0,uP],by simp[bR],λj y I ar=> ?_,aS.trans (H.refl al u).drew⟩)
    grind
  ·have vb:¬(k:Int)<s.dW.length:=by omega
   simp[go_sem,bB,bQ,aO,vb];refine af _ _ ⟨⟨-1,rfl,?_⟩,aU.trans aS⟩;have:¬q∈s.dW:=λau=>by
    obtain⟨j,I⟩:=vf.1 au
    grind
   grind
 refine bz func237 ntmps237 λbk af=> ?_;have aU:=(H.refl al w).alloc (.cells (ae q) 44);simp[go_sem,de,da];refine(rL _ aU).mono ?_;rintro _ ai ⟨⟨k,rfl,r⟩,aY⟩;simp[go_sem];exact af _ _ ⟨by rw[<-r],aU.trans aY⟩
end
theorem ahz{O:Nat->Prop}{w ai an:M}(T:ai.1.size<=an.1.size){k:Nat}(h:aE O w ai k):aE O w an k:=h.imp id λe=>⟨e.1,by omega⟩
theorem ani:Bc prog 87 44 (.agg (ae ah)) 41 56:=⟨underlying87,by kernel_rfl,by rw[show(Value.agg (ae ah)).cells=ae ah from rfl];exact cd cH,by decide⟩
theorem anh{x:Pt}(ok:cc x)(w:M):(Instr.buildSlice 87 1 #[(0,.agg (ae x))]).run prog w=.ok (.slice (some ⟨w.1.size,0,none⟩) 1 1) (w.alloc (.cells (ae x) 44)):=
 SA underlying87 Tryz.sizeOf44 (by kernel_rfl:(prog.info? 44).bind (·.zero)=some (.agg (ae ah))) (cd ok) (by decide) (by decide) w
theorem aG3(s:ay)(z:fV)(a_:N){i:Nat}(ad:i<2)(x:Nat):(zW s z a_).setIfInBounds (3+i*2+1) (aa x)=zW {s with gd:=iS s.gd i x} z a_:=by
 rcases kX ad with rfl|rfl<;>simp[zW,iS]
theorem aG4(s:ay)(z:fV)(a_:N){i:Nat}(ad:i<2):(zW s z a_)[3+i*2+1]? =some (aa (s.gd i)):=by
 rcases kX ad with rfl|rfl<;>rfl
section
variable {w w':M}{m p n i:Nat}{z:fV}{s:ay}{a_:N}{A:Nat->Nat->Prop}{O O' S:Nat->Prop}{c:Nat}
theorem e'.move(h:e' w m p n z s a_ A){ai:M}{jr:N}{q:Pt}(hB:H (λk=>a_.ownBlock=some k) w ai)(aaQ:ai.ownsRow 0 44 41 jr (s.dW++[q]).length (ei ae (s.dW++[q])))(vH:jr.ownBlock=a_.ownBlock\/gr w.1.size jr)(ok:cc q):
  e' (ai.setCell ⟨m,7,none⟩ jr) m p n z {s with dW:=s.dW++[q]} jr A/\H (λk=>k=m\/a_.ownBlock=some k) w (ai.setCell ⟨m,7,none⟩ jr):=by
 obtain⟨iW,kh,jP,xy,xY,n6⟩:=h.ne;have Pb:=h.fe;have Z:H (aj m) ai (ai.setCell ⟨m,7,none⟩ jr):=(H.refl (aj m) ai).setCell (p:=bl m 7) (.inl rfl) _;have aO:=h.ih;have rj:∀k,k=m\/k=z.c'\/k=z.g 0\/k=z.g 1->¬a_.ownBlock=some k:=λk r e=>by
  grind
 have QQ:∀k,jr.ownBlock=some k->a_.ownBlock=some k\/w.1.size<=k:=λk r=>vH.imp (λe=>by rw[<-e];exact r) λe=>e k r;have lO:∀k,jr.ownBlock=some k->k≠m/\k≠z.c'/\k≠z.g 0/\k≠z.g 1:=λk r=>by
  rcases QQ k r with e|e
  ·exact Pb k e
  ·refine⟨λaR=> ?_,λaR=> ?_,λaR=> ?_,λaR=> ?_⟩
   ·have:=aO k (.inl (.inl aR));omega
   ·have:=aO k (.inl (.inr (.inl aR)));omega
   ·have:=aO k (.inl (.inr (.inr (.inl aR))));omega
   ·have:=aO k (.inl (.inr (.inr (.inr (.inl aR)))));omega
 refine⟨⟨?_,λi ad=>((h.kW i ad).ch hB (λk r e=>(h.ko ad (.inr (.inr (.inr (.inr e))))).1 r) λe=>(h.ko ad (.inr (.inr (.inr (.inr e))))).2 rfl).ch Z (λk r e=>(h.ko ad (.inl e)).1 r) λe=>(h.ko ad (.inl e)).2 rfl,Z.obj (hB.obj h.c' (rj _ (.inr (.inl rfl)))) iW,λi ad=> ?_,gu aaQ Z λk r e=>(lO k r).1 e,λx W=> ?_,h.HA,h.ne,λk r=> ?_,lO⟩,?_⟩
 ·rw[eU,hB.obj h.blk (rj _ (.inl rfl)),fU];rfl
 ·rcases kX ad with rfl|rfl
  ·exact Z.obj (hB.obj (h.pl 0 ad) (rj _ (.inr (.inr (.inl rfl))))) kh
  ·exact Z.obj (hB.obj (h.pl 1 ad) (rj _ (.inr (.inr (.inr rfl))))) jP
 ·rcases hP.1 W with W|W
  ·exact h.lP x W
  grind
 ·rcases r with r|r|r|r|r
  ·exact h.hD k (.inl r)
  ·exact h.hD k (.inr (.inl r))
  ·exact h.hD k (.inr (.inr (.inl r)))
  ·exact h.hD k (.inr (.inr (.inr (.inl r))))
  ·rcases QQ k r with e|e
   ·exact h.hD k (.inr (.inr (.inr (.inr e))))
   ·refine⟨λaR=> ?_,λaR=> ?_,λaR=> ?_⟩
    ·have:=aO k (.inr (.inl aR));omega
    ·have:=aO k (.inr (.inr (.inl aR)));omega
    ·have:=aO k (.inr (.inr (.inr aR)));omega
 ·exact(hB.mono λk _ e=>.inr e).setCell (p:=bl m 7) (.inl (.inl rfl)) _
theorem aG5(h:kF w m p n z s O)(q:Pt)(ok:cc q)(r:jz w)(k:Nat)(gq:k<4)(b:cW)(v:N)(aM:bC w v b.length (br b))(g_:∀j,v.ownBlock=some j->¬O j)(lQ:s.il c)(Z:c<=900000)(uH:¬O 3):
  bc prog 200 #[az m,.agg (ae q),.agg #[aa (k / 2:Nat),.int .u16 (du q k)],v] w λ_ w'=>kF w' m p n z (s.uJ n q b k) (aE O w w')/\H O w w':=by
 refine bz func200 ntmps200 λbk af=> ?_;have de:=cd ok;have da:=ef ok;have rC:=Uh ok k;obtain⟨i,eo⟩:=aD (k / 2);have ad:i<2:=by omega
 have q_:(i:Int)<2:=by omega
 rw[eo];have bu:=oF w (.cells (ae q) 44) (.cells #[aa i,.int .u16 (du q k)] 346);have bt:=nM w (.cells (ae q) 44) (.cells #[aa i,.int .u16 (du q k)] 346);have aU:=((H.refl al w).alloc (.cells (ae q) 44)).alloc (.cells #[aa i,.int .u16 (du q k)] 346);have gZ:((w.alloc (.cells (ae q) 44)).alloc (.cells #[aa i,.int .u16 (du q k)] 346)).1.size=w.1.size+2:=by simp
 have ak:=h.lt;have W:s.uJ n q b k=if((s.ng n q b k).iu n q k).isSome then{s.ng n q b k with gd:=iS s.gd i (s.gd i+1)}else((s.ng n q b k).yf n i (du q k)).UF q:=by
  unfold ay.uJ;simp only[eo];rfl
 have zt:s.ng n q b k={s with aB:=iS s.aB i ((s.aB i).ij n s.P (du q k) b),P:=(s.aB i).sq n s.P (du q k) b}:=by unfold ay.ng;rw[eo]
 simp[go_sem];obtain⟨g,aH⟩:=aD (w.1.size);rw[aH]at bu bt gZ⊢;generalize(w.alloc (.cells (ae q) 44)).alloc (.cells #[aa i,.int .u16 (du q k)] 346)=ai at*;have J:=(h.ch aU λ_ _ e=>e).ch (H.refl al ai).drew λ_ _ e=>e;have aY:=λj=>aG bt j;have dH:ai.cell? (bl m i)=some (.pointer (some ⟨z.d i,0,none⟩)):=by
  obtain⟨a_,A,fg,_⟩:=J;have:=aG fg.blk i;rw[show ai.drew.cell? (bl m i)=ai.cell? (bl m i)from rfl]at this;rw[this];rcases kX ad with rfl|rfl<;>rfl
 refine cT [F 0,F 1,F 2,F 3,F 4,F 5,F 6,F 7,F 8,F 9,(10,some [])] ?_;simp[go_sem,aY,dH,ad,q_];have qh:bC ai.drew v b.length (br b):=(aM.ch aU λ_ _ e=>e).drew;refine(J.Qh ad (D':=(s.aB i).ij n s.P (du q k) b) (P':=(s.aB i).sq n s.P (du q k) b) (R:=λv' _=>v'=aa (zq ((s.aB i).mF n s.P (du q k) b))) λB gY ahA=> ?_).mono ?_
 ·refine(gY.ij (du q k) rC b v lQ.dS (by have:=lQ.bT i ad;omega) (lQ.gl i ad) qh λj I=>⟨λe=>g_ j I (ahA j e),λe=> ?_⟩).mono λv' w' aN=>⟨aN.1,aN.2⟩;subst e;exact g_ _ I h.own.2.2
 rintro _ an ⟨rfl,T,aK⟩;rw[<-zt]at T;have aK:H O ai an:=H.hR aK;have ff:∀j,g<=j->¬O j:=λj I e=>by have:=ak j e;omega
 have jU:=aK.obj bu (ff _ (by omega));have jS:=aK.obj bt (ff _ (by omega));have oD:jz an:=(r.ch aU id).ch aK uH;have gx:H O w an:=(aU.mono λ_ _ e=>e.elim).trans aK;have kg:=aK.size;have so:=λj=>aG jS j;obtain⟨a_,A,fg,QR,ahB⟩:=T;have Vq:∀j,gU z m p a_ A j->aE O w an j:=λj I=>(QR j I).imp id λe=>⟨by have:=e.1;rw[show ai.drew.1.size=ai.1.size from rfl]at this;omega,e.2⟩;have aSe:∀j,g<=j->j<g+2->¬gU z m p a_ A j:=λj J T e=>by
  rcases QR j e with e|e
  ·exact ff j J e
  ·have:=e.1;rw[show ai.drew.1.size=ai.1.size from rfl]at this;omega
 have Vl:=apr fg q ok oD k gq;rw[eo]at Vl;simp[go_sem,jU,jS,so,de,da];refine Vl.mono ?_;rintro v3 aJ ⟨ax,aI⟩;have ag:=fg.ch aI λ_ _ e=>e;have qr:=aI.obj jU id;have jK:=aI.obj jS id;have hQ:=λj=>aG jK j;have aG6:=ag.ch (H.refl al aJ).drew λ_ _ e=>e;have hK:H O w aJ:=gx.trans (aI.mono λ_ _ e=>e.elim);have aG7:aE O w an m:=Vq m (.inl (.inl rfl))
 cases rW:(s.ng n q b k).iu n q k with
 |some x=>
  rw[rW]at ax W;obtain⟨u,rfl,_⟩:=ax;rw[acX,be rfl]at W;simp[go_sem];refine cT [F 0,F 1,F 2,F 3,F 4,F 5,F 6,F 7,F 8,F 9,F 10,F 11,F 12,(13,some [])] ?_;have aqe:=lQ.gd i;have aG8:aJ.cell? (bl m (3+i*2+1))=some (aa (s.gd i)):=by rw[aG ag.blk];exact aG4 _ z a_ ad
  have aG9:=dJ ag.blk (3+i*2+1);have aaR:IntKind.i64.wrap ((s.gd i:Int)+1)=((s.gd i+1:Nat):Int):=by rw[cz];omega
  obtain⟨KG,Qx⟩:=aD (s.gd i+1);rw[Qx]at aaR W;simp[go_sem,hQ,ad,q_,aG8,aG9,aaR];have qd:H (aj m) aJ (aJ.setCell ⟨m,3+i*2+1,none⟩ (aa KG)).drew:=((H.refl (aj m) aJ).setCell (p:=bl m (3+i*2+1)) (.inl rfl) _).drew;have aG_:e' (aJ.setCell ⟨m,3+i*2+1,none⟩ (aa KG)).drew m p n z {s.ng n q b k with gd:=iS s.gd i KG} a_ A:=by
   refine ag.own qd ?_ rfl rfl rfl rfl rfl;rw[xd,eU,ag.blk,fU,aG3 _ z a_ ad];rfl
  refine af _ _ ⟨?_,hK.trans (qd.mono λj _ e=>by simp only[aj]at e;subst e;exact h.own.1)⟩;rw[W];exact⟨a_,A,aG_,λj I=>ahz (dK aI.size qd.size) (Vq j I),aE.lt ak (dK hK.size qd.size)⟩
 |none=>
  rw[rW]at ax W;rw[Option.isSome_none,aQ (by decide)]at W;obtain⟨u,rfl⟩:=ax;simp[go_sem];refine cT [F 0,F 1,F 2,F 3,F 4,F 5,F 6,F 7,(8,some [])] ?_;have aG':aJ.cell? (bl m 2)=some (.pointer (some ⟨z.c',0,none⟩)):=aG ag.blk 2;simp[go_sem,hQ,aG'];refine(aDC aG6 ad (du q k) rC).mono ?_;rintro v4 bs ⟨aP,bo⟩;have bo:H (aj (z.g i)) aJ bs:=H.hR bo;have Pa:Fg z m a_ (z.g i):=by
   rcases kX ad with rfl|rfl
   ·exact .inr (.inr (.inl rfl))
   ·exact .inr (.inr (.inr (.inl rfl)))
  have arp:O (z.g i):=by
   obtain⟨_,_,_,T,_⟩:=h;exact T _ (.inl (by rcases kX ad with rfl|rfl;exact .inr (.inr (.inl rfl));exact .inr (.inr (.inr (.inl rfl)))))
  have HJ:H O w bs:=hK.trans (bo.mono λj _ e=>by simp only[aj]at e;subst e;exact arp);have aHa:∀j,g<=j->j<g+2->¬aj (z.g i) j:=λj J T e=>by simp only[aj]at e;subst e;exact ff _ J arp
  have n_:=bo.obj qr (aHa _ (by omega) (by omega));have Pq:=aP.ch (H.refl al bs).drew λ_ _ e=>e;obtain⟨t,bj⟩:=aD ((s.ng n q b k).yf n i (du q k));have aHb:t.dW=s.dW:=by rw[<-bj];unfold ay.yf;split<;>rfl
  rw[bj]at aP Pq W;obtain⟨Ms,tR,uP⟩:∃A c,a_=.slice A t.dW.length c:=by
   rcases aP.zV.2 with⟨aM,bi⟩|⟨g,cap,dF,aM,_⟩
   ·grind
   ·exact⟨_,_,aM⟩
  obtain⟨bd,dO⟩:=aD (t.dW.length);rw[dO]at uP;have aGQ:bd<=900000:=by have:=lQ.dW;rw[<-dO,aHb];omega
  have dE:bs.cell? (bl m 7)=some a_:=aG aP.blk 7;have bQ:=dJ aP.blk 7;simp[go_sem];refine cT [F 0,F 1,F 2,F 3,F 4,(5,some []),F 6] ?_;have aHc:bs.drew.1[g]? =some (.cells (ae q) 44 (0,0)):=n_;simp[go_sem,dE,n_,aHc,de,da];refine(aG0 Pq.zV Pq.lP q ok (by omega)).mono ?_;rintro _ bD ⟨rfl,bE⟩;have bE:H al bs bD:=H.hR bE;have bH:=aP.ch bE λ_ _ e=>e;have mH:H O w bD:=HJ.trans (bE.mono λ_ _ e=>e.elim)
  cases Jr:t.dW.contains q with
  |true=>
   simp[go_sem];refine af _ _ ⟨?_,mH⟩;rw[W];unfold ay.UF;rw[Jr,be rfl];exact⟨a_,A,bH,λj I=>ahz (dK aI.size (dK bo.size bE.size)) (Vq j I),aE.lt ak mH.size⟩
  |false=>
   have Hd:=bE.obj n_ id;have ahC:=bE.cell dE id;have oN:=(H.refl al bD).drew;have aHd:=oN.obj Hd id;subst uP;simp[go_sem];refine cT [F 0,F 1,F 2,F 3,F 4,F 5,(6,some [0,1,2,3,4]),(7,some [0]),F 8,F 9,(10,some [])] ?_;have aSf:=dJ bH.blk 7;have CI:=bH.ch oN λ_ _ e=>e;simp[↓Eh,go_sem,ahC,Hd,aHd,de,da];refine Ei (anh ok _) ?_;have arq:=CI.zV;rw[dO]at arq;have aeJ:=(H.refl al bD.drew).alloc (.cells (ae q) 44);have aHe:(bD.alloc (.cells (ae q) 44)).cell? (bl m 7)=some (.slice Ms bd tR):=((H.refl al bD).alloc (.cells (ae q) 44)).cell ahC id;simp[go_sem,ahC,aHe];rw[show(bD.alloc (.cells (ae q) 44)).drew=bD.drew.alloc (.cells (ae q).toList.toArray 44)by simp;rfl];refine wJ (w:=bD.drew) (us:=(ae q).toList) ani arq (by rw[wi,de]) (λaHf aHg=>by
    have:=wc q;unfold jx at this;exact AD.1 this aHf (by simpa using aHg)) (by unfold maxLen;omega) (by omega) λoy cD tF tG Bg=> ?_
   have aeK:cD.ownsRow 0 44 41 oy (t.dW++[q]).length (ei ae (t.dW++[q])):=by
    rw[AG,Cg,kR,dO];exact tF
   obtain⟨fi,oU⟩:=CI.move tG aeK Bg ok;obtain⟨gy,uw,Tu,Bh,_⟩:=A' tF (by omega);have arr:∀j,oy.ownBlock=some j->(Value.slice Ms bd tR).ownBlock=some j\/bD.1.size<=j:=λj I=>Bg.imp (λe=>by rw[<-e];exact I) λe=>e j I;have ars:=tG.obj CI.blk (λe=>(CI.fe m e).1 rfl);have pI:=aG ars 7;have TO:=dJ ars 7;rw[Bh]at fi oU arr;rw[Bh];simp[go_sem,pI,TO,zW];have oU:H (λj=>j=m\/(Value.slice Ms bd tR).ownBlock=some j) bD (cD.setCell ⟨m,7,none⟩ (.slice (some ⟨gy,0,none⟩) (bd+1) uw)):=H.hR oU;have aHh:=mH.size;have jj:gy<cD.1.size:=nK tF gy (by rw[Bh];rfl);have BF:cD.1.size<=(cD.setCell ⟨m,7,none⟩ (.slice (some ⟨gy,0,none⟩) (bd+1) uw)).1.size:=((H.refl (aj m) cD).setCell (p:=bl m 7) (.inl rfl) _).size;have aHi:an.1.size<=bD.1.size:=dK aI.size (dK bo.size bE.size);have pt:∀j,gU z m p (.slice Ms bd tR) A j->aE O w (cD.setCell ⟨m,7,none⟩ (.slice (some ⟨gy,0,none⟩) (bd+1) uw)) j:=λj I=>ahz (dK aHi oU.size) (Vq j I);refine af _ _ ⟨?_,mH.bZ oU λj I e=> ?_⟩
   ·rw[W];unfold ay.UF;rw[Jr,aQ (by decide)];refine⟨_,A,fi,λj I=> ?_,aE.lt ak (dK aHh oU.size)⟩;rcases I with(I|I|I|I|I)|I
    ·exact pt j (.inl (.inl I))
    ·exact pt j (.inl (.inr (.inl I)))
    ·exact pt j (.inl (.inr (.inr (.inl I))))
    ·exact pt j (.inl (.inr (.inr (.inr (.inl I)))))
    ·rcases arr j I with e|e
     ·exact pt j (.inl (.inr (.inr (.inr (.inr e)))))
     ·simp[Value.ownBlock]at I;exact .inr ⟨by omega,by omega⟩
    ·exact pt j (.inr I)
   ·have:aE O w an j:=e.elim (λe=>by subst e;exact aG7) λe=>Vq j (.inl (.inr (.inr (.inr (.inr e)))));rcases this with e|e
    ·exact e
    ·omega
end
end Go.Proofs.YtoohkhcpboldjaaGreatDoor
