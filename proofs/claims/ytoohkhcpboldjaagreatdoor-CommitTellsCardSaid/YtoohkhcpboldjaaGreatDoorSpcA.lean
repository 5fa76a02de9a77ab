/- Package space: addresses given out, held, given back. No condition but on sizes. -/
import Derived.Test.YtoohkhcpboldjaaGreatDoorMrH
import Derived.Test.YtoohkhcpboldjaaGreatDoorMcO
set_option maxRecDepth 100000
set_option linter.unusedSimpArgs false
set_option linter.unusedVariables false
namespace Go.Proofs.YtoohkhcpboldjaaGreatDoor
open Go.RowKit Go.Kin Tryz
section
variable {w w':M}{m p n i:Nat}{z:fV}{s:ay}{O:Nat->Prop}{c:Nat}
theorem ay.il.lX(h:s.il c)(d:Nat):(s.lX d).1.il c:=by
 unfold ay.lX;refine⟨?_,λi ad=> ?_,λi ad=> ?_,h.eV,h.gd,h.dW⟩
 ·show(if(s.aB d).gb s.P then s.P.step else s.P).dS<=_;split
  ·exact eL.amH h.dS (by decide)
  ·exact h.dS
 ·by_cases e:i=d
  ·subst e;simp only[Dg];split
   ·simp[cb.ev]
   ·exact h.bT _ ad
  ·simp only[ye _ _ e];exact h.bT _ ad
 ·by_cases e:i=d
  ·subst e;simp only[Dg];split
   ·rw[azu];exact h.gl _ ad
   ·exact h.gl _ ad
  ·simp only[ye _ _ e];exact h.gl _ ad
theorem kF.aiE(h:kF w m p n z s O)(ad:i<2):w.cell? (bl m i)=some (.pointer (some ⟨z.d i,0,none⟩)):=by
 obtain⟨a_,A,fg,_⟩:=h;rw[aG fg.blk];rcases kX ad with rfl|rfl<;>rfl
theorem aDc(h:kF w m p n z s O)(lQ:s.il c)(Z:c<=800000):
  bc prog 71 #[az m] w λv' w'=>v'=aa s.ev.2/\kF w' m p n z s.ev.1 (aE O w w')/\H O w w':=by
 refine bz func71 ntmps71 λbk af=> ?_;have J:=h.ch (H.refl al w).drew λ_ _ e=>e;have ak:=h.lt;simp[go_sem];refine cT [F 0,F 1,F 2,F 3,F 4,F 6,F 7,F 8,F 9,F 10,(5,some [6,7,8,9,10]),(11,some []),F 12,F 13] ?_;have gs:w.cell? (bl m 0)=some (.pointer (some ⟨z.d 0,0,none⟩)):=h.aiE (by omega);have aY:w.cell? (bl m 1)=some (.pointer (some ⟨z.d 1,0,none⟩)):=h.aiE (by omega);simp[go_sem,gs,aY];obtain⟨aJ5,vP⟩:=aD ((if(s.aB 0).gb s.P&&s.P.bX then 0 else 3):Int);obtain⟨aJ6,Et⟩:=aD ((if((s.lX 0).1.aB 1).gb (s.lX 0).1.P&&(s.lX 0).1.P.bX then 0 else 3):Int);refine(J.Qh (i:=0) (by omega) (R:=λv' _=>v'=aa aJ5) λB gY ahA=>(gY.ev lQ.dS (by have:=lQ.bT 0 (by omega);omega)).mono λv' w' aN=>⟨aN.1.trans (by rw[vP]),aN.2.1,aN.2.2⟩).mono ?_;rintro _ an ⟨rfl,T,bh⟩;have pi:H O w an:=H.hR bh;have k':kF an m p n z (s.lX 0).1 (aE O w an):=T;have bg:=lQ.lX 0;have dk:an.cell? (bl m 1)=some (.pointer (some ⟨z.d 1,0,none⟩)):=k'.aiE (by omega);simp[go_sem,dk];refine(k'.Qh (i:=1) (by omega) (R:=λv' _=>v'=aa aJ6) λB gY ahA=>(gY.ev bg.dS (by have:=bg.bT 1 (by omega);omega)).mono λv' w' aN=>⟨aN.1.trans (by rw[Et]),aN.2.1,aN.2.2⟩).mono ?_;rintro _ aJ ⟨rfl,ag,bA⟩;have t_:kF aJ m p n z s.ev.1 (aE (aE O w an) an aJ):=ag;have zn:s.ev.2=if(s.lX 0).2||(((s.lX 0).1).lX 1).2 then 0 else 21:=rfl
 have kH:((s.aB 0).gb s.P&&s.P.bX)=(s.lX 0).2:=rfl;have gA:(((s.lX 0).1.aB 1).gb (s.lX 0).1.P&&(s.lX 0).1.P.bX)=(((s.lX 0).1).lX 1).2:=rfl;rw[kH]at vP;rw[gA]at Et;have bU:bk (aa s.ev.2) aJ:=af _ _ ⟨rfl,t_.eK (λk r=>aGX pi.size bA.size r) (aE.lt ak (dK pi.size bA.size)),pi.bZ bA λj I e=>e.resolve_right (by omega)⟩;rw[zn]at bU
 cases ao:(s.lX 0).2<;>cases ab:(((s.lX 0).1).lX 1).2<;>(rw[ao]at vP;rw[ab]at Et;subst vP Et;simp[go_sem,bne];simpa[ao,ab]using bU)
end
def ay.dv:ay:=⟨λ_=>cb.dv,eL.on,λ_ _=>0,λ_ _=>false,λ_=>0,λ_=>0,[]⟩
theorem aJ7(n:Nat):madeCells (Value.agg #[aa 0,.bool false]).cells (n*2)=lz ay.dv n 0:=by
 apply OQ;intro i;have hz:∀x∈wU ay.dv n 0,(aaa x).size=2:=UH _;by_cases h:i<n*2
 ·have e:i=i / 2*2+i%2:=by omega
  have r:i / 2<n:=by omega
  have W:=UI ay.dv 0 r;have T:(aaa (ay.dv.use 0 (i / 2),ay.dv.eD 0 (i / 2)))[i%2]? =some (#[Value.int .i64 0,.bool false][i%2]!):=by
   rcases Nat.mod_two_eq_zero_or_one i with h|h<;>rw[h]<;>rfl
  have:=OT (n:=2) hz W T;rw[<-e]at this;unfold lz;rw[this];simp[madeCells,h,Value.cells]
 ·have J:(lz ay.dv n 0).size=n*2:=by unfold lz;rw[ade hz];simp[wU]
  rw[ac5 (by rw[size_madeCells];omega),ac5 (by omega)]
theorem aJ8(n:Nat)(w:M)(aq:n<=1000000):(Instr.makeSlice 153 (aa n) (aa n)).run prog w=.ok (.slice (some ⟨w.1.size,0,none⟩) n n) (w.alloc (.cells (lz ay.dv n 0) 156)):=by
 have J:(prog.info? 156).isSome=true:=by kernel_rfl
 obtain⟨i,ad⟩:=IG.1 J;have T:(prog.info? 156).map (·.size)=some 2:=by kernel_rfl
 have ag:(prog.info? 156).map (·.bytes)=some 16:=by kernel_rfl
 have aP:(prog.info? 156).bind (·.zero)=some (.agg #[aa 0,.bool false]):=by kernel_rfl
 rw[ad]at T ag aP;simp at T ag aP;have:=run_makeSlice (P:=prog) w 153 156 i _ underlying153 ad aP .i64 .i64 n n (by omega) (Xq _) (by rw[T];omega) (by rw[ag];omega) (by omega);rw[this,T];simp only[Ca,aJ7]
structure aJ9(w:M)(c':Nat)(g:Nat->Nat)(n B:Nat):Prop where
 aST:w.1[c']? =some (.cells #[.slice (some ⟨g 0,0,none⟩) n n,.slice (some ⟨g 1,0,none⟩) n n] 240 (0,0))
 pl:∀i,i<2->w.1[g i]? =some (.cells (lz ay.dv n i) 156 (0,0))
 ne:c'≠g 0/\c'≠g 1/\g 0≠g 1
 gp:B<=c'/\B<=g 0/\B<=g 1
theorem aJ_(n:Nat)(w:M)(J:1<=n)(T:n<=4096):bc prog 55 #[aa n,aa n] w λv' w'=>∃c' g,v'=.tuple #[az c',aa 0]/\aJ9 w' c' g n w.1.size/\H al w w':=by
 refine bz func55 ntmps55 λbk af=> ?_;have iW:¬(n:Int)<1:=by omega
 have agW:¬n<1:=by omega
 have kh:¬(4096:Int)<n:=by omega
 have aJ':¬4096<n:=by omega
 simp[go_sem];obtain⟨c',pE⟩:=aD (w.1.size);rw[pE];have aU:=(H.refl al w).alloc (.cells #[.slice none 0 0,.slice none 0 0] 240);have bu:=cr w (.cells #[.slice none 0 0,.slice none 0 0] 240);rw[pE]at bu;revert aU bu;generalize w.alloc (.cells #[.slice none 0 0,.slice none 0 0] 240)=ai;intro aU bu;have aSU:=λw=>IF (P:=prog) (kd:=.i64) (k:=0) (cs:=#[Value.int .i64 n,aa n]) underlying82 Tryz.sizeOf3 Tryz.isAgg3 (by decide) rfl w;have aSV:=λw=>IF (P:=prog) (kd:=.i64) (k:=1) (cs:=#[Value.int .i64 n,aa n]) underlying82 Tryz.sizeOf3 Tryz.isAgg3 (by decide) rfl w;refine di (λV f u=>∃k,k<=2/\V=2 - k/\f 6=az c'/\f 13=.agg #[aa n,aa n]/\f 14=aa k/\H al w u/\∃v0 fY,u.1[c']? =some (.cells #[v0,fY] 240 (0,0))/\
   (1<=k->∃hE,v0=.slice (some ⟨hE,0,none⟩) n n/\u.1[hE]? =some (.cells (lz ay.dv n 0) 156 (0,0))/\c'<hE/\(2<=k->∃cC,fY=.slice (some ⟨cC,0,none⟩) n n/\u.1[cC]? =some (.cells (lz ay.dv n 0) 156 (0,0))/\hE<cC))) 2
  ⟨0,by omega,rfl,by simp,by simp,by simp,aU,_,_,bu,λh=>by omega⟩ ?_
 rintro cQ bJ _ f u ⟨k,r,rfl,f6,fw,f14,aS,v0,fY,ab,lp⟩;by_cases oD:k<2
 ·have eo:(k:Int)<2:=by omega
  have ej:IntKind.i64.wrap ((k:Int)+1)=((k+1:Nat):Int):=by rw[cz];omega
  have pB:∀w,(Instr.index 82 (.agg #[Value.int .i64 n,aa n]) (aa k)).run prog w=.ok (aa n) w:=λw=>by
   grind
  simp[go_sem,f6,fw,f14,eo,pB,iW,kh,agW,aJ'];refine cT [F 0,F 1,F 2,F 4,F 5,(3,some [0,1,4,5]),F 6,(7,some [])] ?_;have rK:=aJ8 n u.drew (by omega);have jN:=(H.refl al u).alloc (.cells (lz ay.dv n 0) 156);have bb:=cr u (.cells (lz ay.dv n 0) 156);have dm:=jN.obj ab id;have aK:=λj=>aG dm j;have aKa:=dJ dm k;obtain⟨g,aH⟩:=aD (u.1.size);rw[show u.drew.1.size=u.1.size from rfl,aH]at rK;rw[aH]at bb;have aSW:=lt_of_block ab;have aKb:(u.alloc (.cells (lz ay.dv n 0) 156)).cell? (bl c' k)=some (if k=0 then v0 else fY):=by
   rw[aK]
   grind
  simp[go_sem,rK,f6,f14,eo,oD,aKb,aKa,ej];have cK:((u.alloc (.cells (lz ay.dv n 0) 156)).setCell ⟨c',k,none⟩ (.slice (some ⟨g,0,none⟩) n n)).1[c']? =some (.cells (#[v0,fY].setIfInBounds k (.slice (some ⟨g,0,none⟩) n n)) 240 (0,0)):=by
   rw[eU,dm,fU]
  have cs:H (aj c') (u.alloc (.cells (lz ay.dv n 0) 156)) ((u.alloc (.cells (lz ay.dv n 0) 156)).setCell ⟨c',k,none⟩ (.slice (some ⟨g,0,none⟩) n n)):=(H.refl (aj c') _).setCell (p:=bl c' k) (.inl rfl) _;have ahW:=aS.size;have as_:=cs.obj bb λe=>by simp only[aj]at e;omega
  have uU:H al w ((u.alloc (.cells (lz ay.dv n 0) 156)).setCell ⟨c',k,none⟩ (.slice (some ⟨g,0,none⟩) n n)):=(aS.trans jN).bZ cs λj I e=>by simp only[aj]at e;omega
  refine ct.intro (2 -(k+1)) (by omega) (bJ _ _ _ ⟨k+1,by omega,rfl,by simp[f6],by simp[fw],by simp,by first|exact uU.drew|exact uU,?_⟩);rcases kX oD with rfl|rfl
  ·exact⟨_,_,cK,λ_=>⟨g,rfl,as_,by omega,λh=>by omega⟩⟩
  ·obtain⟨hE,rfl,ag,aP,_⟩:=lp (by omega);exact⟨_,_,cK,λ_=>⟨hE,rfl,cs.obj (jN.obj ag id) λe=>by simp only[aj]at e;omega,aP,λ_=>⟨g,rfl,as_,by have:=lt_of_block ag;omega⟩⟩⟩
 ·obtain rfl:k=2:=by omega
  obtain⟨hE,rfl,ag,aP,bH⟩:=lp (by omega);obtain⟨cC,rfl,cS,fi⟩:=bH (by omega);simp[go_sem,f6,f14];refine af _ _ ⟨c',λi=>if i=0 then hE else cC,rfl,⟨ab,λi ad=> ?_,⟨by simp;omega,by simp;omega,by simp;omega⟩,⟨by omega,by simp;omega,by simp;omega⟩⟩,aS⟩;have e:lz ay.dv n i=lz ay.dv n 0:=rfl
  grind
section
variable {n c:Nat}{s:ay}
theorem ay.il.mono{dA:Nat}(h:s.il c)(Z:c<=dA):s.il dA:=
 ⟨h.dS,λi ad=>dK (h.bT i ad) Z,h.gl,λi=>dK (h.eV i) Z,λi=>dK (h.gd i) Z,dK h.dW Z⟩
theorem ay.il.as'(q:Pt)(b:cW):∀(l:List Nat) (c:Nat) (s:ay),s.il c->(l.foldl (ay.uJ n q b) s).il (c+l.length)
 |[],_,_,h=>h
 |k::l,c,s,h=>by
  have:=ay.il.as' q b l (c+1) (ay.uJ n q b s k) (h.uJ q b k)
  grind
theorem ay.il.nS(h:s.il c)(q:Pt)(all:Bool):(s.nS n q all).1.il (c+8):=by
 unfold ay.nS;split
 ·have aP:=ahD n s q all;have ab:=ahs n s q (s.pS n q all);have bP:({s with eV:=(s.run n q (s.pS n q all)).a'}:ay).il (c+4):=
   ⟨h.dS,λi ad=>dK (h.bT i ad) (by omega),h.gl,λi=>by
    have J:=ahr n s q (s.pS n q all) i;have T:=h.eV i
    grind,λi=>dK (h.gd i) (by omega),dK h.dW (by omega)⟩
  simp only;split
  ·exact bP.mono (by omega)
  ·exact(ay.il.as' q _ _ _ _ bP).mono (by omega)
 ·exact h.mono (by omega)
theorem ap4(a:List Nat):(eA a 4).length<=4:=by unfold eA;grind
theorem ay.il.ij(h:s.il c)(q:Pt)(b:cW):(s.ij n q b).1.il (c+8):=by
 unfold ay.ij;split
 ·exact(ay.il.Qu q b _ c (s,21) h).mono (by have:=ap4 q.a;omega)
 ·exact h.mono (by omega)
end
section
variable {w w':M}{m p n i:Nat}{z:fV}{s:ay}{a_:N}{A:Nat->Nat->Prop}{O S:Nat->Prop}
theorem aKc(s:ay){n a:Nat}(i x:Nat):(wU s n i).set a (x,s.eD i a)=wU (s.hL i a x) n i:=by
 unfold wU;apply yM;intro j;rw[acU];by_cases I:a=j
 ·subst I;by_cases ao:a<n
  ·simp[ao,zN,ay.hL]
  ·simp[ao]
 ·rw[aQ I];simp only[oo]
  cases ax:(List.range n)[j]? with
  |none=>rfl
  |some y=>
   have ar:y=j:=by
    obtain⟨J,T⟩:=jG.1 ax;simpa using T.symm
   subst ar;have aKd:¬y=a:=λe=>I e.symm;have aL:(s.hL i a x).use i y=s.use i y:=by rw[zN,aQ λe=>aKd e.2]
   rw[Xx,Xx,aL];rfl
theorem e'.hL(h:e' w m p n z s a_ A)(ad:i<2){a:Nat}(kj:a<n)(x:Nat):e' (w.setCell ⟨z.g i,a*2,none⟩ (aa x)) m p n z (s.hL i a x) a_ A/\H (aj (z.g i)) w (w.setCell ⟨z.g i,a*2,none⟩ (aa x)):=by
 have ab:=h.pl i ad;have Z:H (aj (z.g i)) w (w.setCell ⟨z.g i,a*2,none⟩ (aa x)):=(H.refl (aj (z.g i)) w).setCell (p:=⟨z.g i,a*2,none⟩) (.inl rfl) _;refine⟨h.fS ad Z ?_ (λj I=> ?_) rfl rfl rfl rfl,Z⟩
 ·rw[eU,ab,fU];congr 1;congr 1;unfold lz;rw[<-aKc];have:=Su (n:=2) (UH (wU s n i)) (UI s i kj) (i:=0) (u:=aa x) (y:=(x,s.eD i a)) (by omega) rfl;rwa[Ec]at this
 ·unfold lz wU;simp only[zN];congr 1;apply xE;intro b _;rw[aQ λe=>I e.1];rfl
theorem ZI(G n:Nat)(w':M):(Builtin.len_ #[153] 3 #[.slice (some ⟨G,0,none⟩) n n]).run prog w'=.ok (aa n) w':=by simp[Builtin.len_,run_underlying underlying153,goInt]
def ZJ(g:Nat):N:=.func (.func 171) #[] #[az g,.pointer (some ⟨g+1,0,none⟩)]
structure aiF(w:M)(g f t:Nat):Prop where
 f:w.1[g]? =some (.cells #[aa f] 3 (0,0))
 t:w.1[g+1]? =some (.cells #[aa t] 3 (0,0))
theorem afJ(f t:Nat)(w:M):bc prog 121 #[aa f,aa t] w λv' w'=>v'=ZJ w.1.size/\aiF w' w.1.size f t/\H al w w'/\w'.1.size=w.1.size+2:=by
 refine bz func121 ntmps121 λbk af=> ?_;simp[go_sem];exact af _ _ ⟨rfl,⟨oF _ _ _,nM _ _ _⟩,((H.refl al w).alloc _).alloc _,by simp⟩
theorem aoI(h:e' w m p n z s a_ A)(ad:i<2){a:Nat}(kj:a<n){g f t:Nat}(bj:aiF w g f t)(aH:g≠z.g i/\g+1≠z.g i):
  bc prog 171 #[.pointer (some ⟨z.g i,a*2,none⟩),az g,.pointer (some ⟨g+1,0,none⟩)] w λv' w'=>(∃b,v'=.bool b)/\e' w' m p n z (if s.use i a=f then s.hL i a t else s) a_ A/\H (aj (z.g i)) w w':=by
 refine bz func171 ntmps171 λbk af=> ?_;have ab:=h.pl i ad;have vH:=λj=>dJ ab j;have gJ:w.cell? ⟨z.g i,a*2,none⟩=some (aa (s.use i a)):=by rw[aG ab];exact(PZ s i kj).1
 have gs:=aG bj.f 0;have aY:=aG bj.t 0;simp[go_sem];refine cT [F 0,F 1,F 2,F 3,F 4,F 5] ?_;have bm:=h.ch (H.refl al w).drew λ_ _ e=>e;have dH:H (aj (z.g i)) w w.drew:=(H.refl _ w).drew;have aiG:w.drew.cell? ⟨z.g i,a*2,none⟩=some (aa (s.use i a)):=gJ;have aiH:w.drew.cell? (bl g 0)=some (aa f):=gs;have ata:w.drew.cell? ⟨g+1,0,none⟩=some (aa t):=aY;have atb:∀j,w.drew.frozen? ⟨z.g i,j,none⟩=false:=vH;obtain⟨u,ap⟩:=aD (w.drew);rw[ap]at bm dH aiG aiH ata atb⊢;by_cases bP:s.use i a=f
 ·have aiI:((s.use i a:Int)!=(f:Int))=false:=by simp[bP]
  simp[go_sem,aiG,aiH,ata,atb,aiI];obtain⟨bn,bh⟩:=bm.hL ad kj t;exact af _ _ ⟨⟨_,rfl⟩,by rw[be bP];exact bn,dH.trans bh⟩
 ·have aiI:((s.use i a:Int)!=(f:Int))=true:=by
   have:¬(s.use i a:Int)=f:=by omega
   simpa using this
  simp[go_sem,aiG,aiH,aiI];exact af _ _ ⟨⟨_,rfl⟩,by rw[aQ bP];exact bm,dH⟩
theorem atc(h:e' w m p n z s a_ A)(ad:i<2)(a:Nat)(ao:a<65536){g f t:Nat}(bj:aiF w g f t)(aH:g≠z.g i/\g+1≠z.g i):
  bc prog 120 #[.pointer (some ⟨z.c',0,none⟩),aa i,.int .u16 a,ZJ g] w λv' w'=>(∃k,v'=aa k)/\e' w' m p n z (s.nY n f t (i,a)) a_ A/\H (aj (z.g i)) w w':=by
 refine bz func120 ntmps120 λQi Fj=> ?_;have cu:=ZI (z.g i) n;have UJ:IntKind.i64.wrap (a:Int)=a:=by rw[cz];omega
 simp[go_sem];refine(Ug h ad).mono ?_;rintro _ ai ⟨rfl,rfl⟩;by_cases bi:a=0
 ·subst bi;have e:s.nY n f t (i,0)=s:=by unfold ay.nY;rw[be (.inl rfl)]
  simp[go_sem];exact Fj _ _ ⟨⟨_,rfl⟩,by rw[e];exact h,H.refl _ _⟩
 ·have tx:((a:Int)==0)=false:=hv (by omega);by_cases kj:a<n
  ·have vz:¬(n:Int)<=a:=by omega
   simp[go_sem,cu,UJ,bi,tx,kj,vz,ZJ];have oC:∀(x:List N) (w:M),(callFunc 171 x.toArray).run prog w=.ok (.enter 171 x.toArray) w:=λx w=>by simp[go_sem]
   rw[EJ _ _ _ _ [az g,.pointer (some ⟨g+1,0,none⟩)] _ (oC _ _)];refine(aoI h ad kj bj aH).mono ?_;rintro _ an ⟨⟨b,rfl⟩,T,aK⟩;have e:s.nY n f t (i,a)=if s.use i a=f then s.hL i a t else s:=by
    unfold ay.nY;by_cases bP:s.use i a=f
    ·grind
    ·grind
   cases b
   ·simp[go_sem];exact Fj _ _ ⟨⟨_,rfl⟩,by rw[e];exact T,aK⟩
   ·simp[go_sem];exact Fj _ _ ⟨⟨_,rfl⟩,by rw[e];exact T,aK⟩
  ·have vz:(n:Int)<=a:=by omega
   have e:s.nY n f t (i,a)=s:=by unfold ay.nY;grind
   simp[go_sem,cu,UJ,bi,tx,kj,vz];exact Fj _ _ ⟨⟨_,rfl⟩,by rw[e];exact h,H.refl _ _⟩
theorem e'.cN(h:e' w m p n z s a_ A)(ad:i<2):z.g i<w.1.size:=lt_of_block (h.pl i ad)
theorem aCi(h:e' w m p n z s a_ A)(ad:i<2)(a:Nat)(ao:a<65536):bc prog 181 #[.pointer (some ⟨z.c',0,none⟩),aa i,.int .u16 a] w λv' w'=>e' w' m p n z (s.nY n 1 2 (i,a)) a_ A/\H (aj (z.g i)) w w':=by
 refine bz func181 ntmps181 λbk af=> ?_;simp[go_sem];refine(afJ 1 2 w).mono ?_;rintro _ ai ⟨rfl,t1,aY,bK⟩;have ak:=h.cN ad;have dO:∀k,gU z m p a_ A k->¬al k:=λ_ _ e=>e;simp[go_sem];refine(atc (h.ch aY dO) ad a ao t1 ⟨by omega,by omega⟩).mono ?_;rintro _ an ⟨⟨k,rfl⟩,T,aK⟩;simp[go_sem];exact af _ _ ⟨T,(aY.mono λ_ _ e=>e.elim).trans aK⟩
theorem aCv(h:e' w m p n z s a_ A)(ad:i<2)(a:Nat)(ao:a<65536):bc prog 69 #[.pointer (some ⟨z.c',0,none⟩),aa i,.int .u16 a] w λv' w'=>e' w' m p n z (s.nY n 1 0 (i,a)) a_ A/\H (aj (z.g i)) w w':=by
 refine bz func69 ntmps69 λbk af=> ?_;simp[go_sem];refine(afJ 1 0 w).mono ?_;rintro _ ai ⟨rfl,t1,aY,bK⟩;have ak:=h.cN ad;have dO:∀k,gU z m p a_ A k->¬al k:=λ_ _ e=>e;simp[go_sem];refine(atc (h.ch aY dO) ad a ao t1 ⟨by omega,by omega⟩).mono ?_;rintro _ an ⟨⟨k,rfl⟩,T,aK⟩;simp[go_sem];exact af _ _ ⟨T,(aY.mono λ_ _ e=>e.elim).trans aK⟩
theorem aKe{d:Nat}{k:Nat}(h:∀a,a<k->¬(1<=a/\s.use d a=0/\s.eD d a=false))(r:k=n):s.lA n d=0:=by
 subst r;unfold ay.lA;rw[List.find?_eq_none.2]
 ·rfl
 grind
theorem aKf{d:Nat}{k:Nat}(h:∀a,a<k->¬(1<=a/\s.use d a=0/\s.eD d a=false))(r:k<n)(J:1<=k/\s.use d k=0/\s.eD d k=false):s.lA n d=k:=by
 rcases YP n s d with⟨e,aq⟩|⟨a1,a2,a3,a4⟩
 ·grind
 ·apply yE;intro dn;by_cases aO:s.lA n d<k
  ·grind
  ·
   have aO:k<s.lA n d:=by omega
   unfold ay.lA at aO
   cases bP:(List.range n).find? λa=>decide (1<=a)&&decide (s.use d a=0)&& !s.eD d a with
   |none=>
    grind
   |some b=>
    rw[bP]at aO;simp only[Option.getD_some]at aO;have:=(List.find?_range_eq_some.1 bP).2.2 k aO
    grind
theorem aAf(h:e' w m p n z s a_ A)(ad:i<2)(aq:n<=65536):bc prog 182 #[.pointer (some ⟨z.c',0,none⟩),aa i] w λv' w'=>v'=.int .u16 (s.alloc n i).2/\e' w' m p n z (s.alloc n i).1 a_ A/\H (aj (z.g i)) w w':=by
 refine bz func182 ntmps182 λbk af=> ?_;have cu:=ZI (z.g i) n;have ab:=h.pl i ad;simp[go_sem];refine(Ug h ad).mono ?_;rintro _ ai ⟨rfl,rfl⟩;simp[go_sem,cu];refine di (λV f bI=>∃k,k<=n/\V=n - k/\f 5=.slice (some ⟨z.g i,0,none⟩) n n/\f 12=aa n/\f 13=aa k/\f 4=.int .u16 0/\bI=ai/\∀a,a<k->¬(1<=a/\s.use i a=0/\s.eD i a=false)) n
  ⟨0,gG _,rfl,by simp,by simp,by simp,by simp,rfl,λa ao=>by omega⟩ ?_
 rintro cQ bJ _ f bI ⟨k,r,rfl,f5,dj,fw,ck,rfl,mE⟩;by_cases lW:k<n
 ·have zO:(k:Int)<n:=by omega
  have ej:IntKind.i64.wrap ((k:Int)+1)=((k+1:Nat):Int):=by rw[cz];omega
  have aS:bI.cell? ⟨z.g i,k*2,none⟩=some (aa (s.use i k)):=by rw[aG ab];exact(PZ s i lW).1
  have cs:bI.cell? ⟨z.g i,k*2+1,none⟩=some (.bool (s.eD i k)):=by rw[aG ab];exact(PZ s i lW).2
  have vH:=λj=>dJ ab j;have next:(¬(1<=k/\s.use i k=0/\s.eD i k=false))->∀a,a<k+1->¬(1<=a/\s.use i a=0/\s.eD i a=false):=λr a ao=>by
   grind
  by_cases aH:1<=k/\s.use i k=0/\s.eD i k=false
  ·have bi:(0:Int)<k:=by omega
   have aKg:IntKind.u16.wrap (k:Int)=k:=by rw[ON];omega
   have lx:=aKf mE lW aH;have Dh:s.alloc n i=(s.hL i k 1,k):=by
    unfold ay.alloc;rw[lx,aQ (by omega)]
   obtain⟨bn,bh⟩:=h.hL ad lW 1;have Dc:0<k:=aH.1;simp[go_sem,f5,dj,fw,zO,lW,bi,Dc,aS,cs,vH,aH.2.1,aH.2.2,aKg];exact af _ _ ⟨by rw[Dh],by rw[Dh];exact bn,bh⟩
  ·by_cases lH:k=0
   ·subst lH;have Hq:0<n:=lW;have dx:IntKind.i64.wrap 1=1:=by decide
    simp[go_sem,f5,dj,fw,Hq,dx];exact ct.intro (n -(0+1)) (by omega) (bJ _ _ _ ⟨1,by omega,by omega,by simpa using f5,by simpa using dj,by simp[dx],by simpa using ck,rfl,next aH⟩)
   ·have bi:(0:Int)<k:=by omega
    have Dc:0<k:=by omega
    by_cases ap:s.use i k=0
    ·have aA:s.eD i k=true:=by
      cases aA:s.eD i k with
      |true=>rfl
      |false=>grind
     simp[go_sem,f5,dj,fw,zO,lW,bi,Dc,aS,cs,ap,aA,ej];exact ct.intro (n -(k+1)) (by omega) (bJ _ _ _ ⟨k+1,by omega,rfl,by simpa using f5,by simpa using dj,by simp,by simpa using ck,rfl,next aH⟩)
    ·have Gj:((s.use i k:Int)==0)=false:=hv (by omega);simp[go_sem,f5,dj,fw,zO,lW,bi,Dc,aS,Gj,ap,ej];exact ct.intro (n -(k+1)) (by omega) (bJ _ _ _ ⟨k+1,by omega,rfl,by simpa using f5,by simpa using dj,by simp,by simpa using ck,rfl,next aH⟩)
 ·obtain rfl:k=n:=by omega
  have lx:=aKe mE rfl;have Dh:s.alloc k i=(s,0):=by
   unfold ay.alloc;rw[be lx]
  simp[go_sem,f5,dj,fw];exact af _ _ ⟨by rw[Dh];simp[ck],by rw[Dh];exact h,H.refl _ _⟩
end
end Go.Proofs.YtoohkhcpboldjaaGreatDoor
