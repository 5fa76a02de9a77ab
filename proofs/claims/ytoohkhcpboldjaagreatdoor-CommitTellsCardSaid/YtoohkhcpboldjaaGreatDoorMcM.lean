/- Copies written and read, in plain Lean, on disks to which nothing happens but that they die and that the power ends. They speak of no program. No condition. -/
import Derived.Test.YtoohkhcpboldjaaGreatDoorDkN
import Derived.Test.YtoohkhcpboldjaaGreatDoorTdA
set_option maxRecDepth 100000
set_option linter.unusedSimpArgs false
set_option linter.unusedVariables false
namespace Go.Proofs.YtoohkhcpboldjaaGreatDoor
open Go.RowKit Go.Kin Tryz
def iS{α:Type}(f:Nat->α)(i:Nat)(x:α):Nat->α:=λj=>if j=i then x else f j
@[simp] theorem Dg{α:Type}(f:Nat->α)(i:Nat)(x:α):iS f i x i=x:=by simp[iS]
theorem ye{α:Type}(f:Nat->α){i j:Nat}(x:α)(h:j≠i):iS f i x j=f j:=by simp[iS,h]
structure ay where
 aB:Nat->cb
 P:eL
 use:Nat->Nat->Nat
 eD:Nat->Nat->Bool
 eV:Nat->Nat
 gd:Nat->Nat
 dW:List Pt
def tN(p:Pt)(b:cW):Bool:=decide (b.length=512)&&decide (uI p b=p.h)
theorem aeS{p:Pt}{b:cW}(h:tN p b=true):b.length=512:=by
 unfold tN at h
 grind
def du(p:Pt)(k:Nat):Nat:=p.a.getD k 0
theorem Uh{p:Pt}(ok:cc p)(k:Nat):du p k<65536:=by
 unfold du;rw[lk]
 cases h:p.a[k]? with
 |none=>simp
 |some x=>exact ok.dI x (ib h)
def ay.iu(n:Nat)(s:ay)(p:Pt)(k:Nat):Option cW:=if(s.aB (k / 2)).gb s.P then((s.aB (k / 2)).oI n (du p k)).filter (tN p)else none
structure Mv where
 a':Nat->Nat
 blk:Option cW
 dN:List Nat
def ay.step(n:Nat)(s:ay)(p:Pt)(t:Mv)(k:Nat):Mv:=match s.iu n p k with
 |some x=>if t.blk.isNone then{t with blk:=some x}else t
 |none=>if(s.aB (k / 2)).bY then t else{t with a':=iS t.a' (k / 2) (t.a' (k / 2)+1),dN:=t.dN++[k]}
def ay.run(n:Nat)(s:ay)(p:Pt)(l:List Nat):Mv:=l.foldl (s.step n p) ⟨s.eV,none,[]⟩
theorem ay.Qg(n:Nat)(s:ay)(p:Pt)(l:List Nat)(k:Nat):s.run n p (l++[k])=s.step n p (s.run n p l) k:=by simp[ay.run]
def ay.rz(n:Nat)(s:ay)(p:Pt):List Nat->List Nat
 |[]=>[]
 |k::l=>if(s.iu n p k).isSome then[k]else k::s.rz n p l
theorem ay.apn(n:Nat)(s:ay)(p:Pt){l:List Nat}(h:∀k∈l,s.iu n p k=none):s.rz n p l=l:=by
 induction l with
 |nil=>rfl
 |cons k l bL=>
  rw[ay.rz,h k (by simp),bL λx W=>h x (by simp[W])];rfl
theorem ay.apo(n:Nat)(s:ay)(p:Pt){l:List Nat}{x:Nat}{V:List Nat}(h:∀k∈l,s.iu n p k=none)(W:(s.iu n p x).isSome=true):s.rz n p (l++x::V)=l++[x]:=by
 induction l with
 |nil=>rw[xu,ay.rz,be W];rfl
 |cons k l bL=>
  rw[acT,ay.rz,h k (by simp),bL λx W=>h x (by simp[W])];rfl
def ay.pS(n:Nat)(s:ay)(p:Pt)(all:Bool):List Nat:=if all then eA p.a 4 else s.rz n p (eA p.a 4)
def ay.ng(n:Nat)(s:ay)(p:Pt)(b:cW)(k:Nat):ay:={s with aB:=iS s.aB (k / 2) ((s.aB (k / 2)).ij n s.P (du p k) b),P:=(s.aB (k / 2)).sq n s.P (du p k) b}
def ay.yf(n:Nat)(s:ay)(d a:Nat):ay:=if a=0\/n<=a then s else{s with eD:=iS s.eD d (iS (s.eD d) a true)}
def ay.UF(s:ay)(p:Pt):ay:=if s.dW.contains p then s else{s with dW:=s.dW++[p]}
def ay.uJ(n:Nat)(p:Pt)(b:cW)(s:ay)(k:Nat):ay:=
 let t:=s.ng n p b k
 if(t.iu n p k).isSome then{t with gd:=iS t.gd (k / 2) (t.gd (k / 2)+1)}else(t.yf n (k / 2) (du p k)).UF p
def ay.nS(n:Nat)(s:ay)(p:Pt)(all:Bool):ay×cW×Int:=
 if jY p then
  let t:=s.run n p (s.pS n p all)
  match t.blk with
  |none=>({s with eV:=t.a'},[],21)
  |some b=>(t.dN.foldl (ay.uJ n p b) {s with eV:=t.a'},b,0)
 else(s,[],1)
def UG(D:cb)(n:Nat)(P:eL)(a:Nat)(b:cW):Bool:=match D.mF n P a b with
 |.ok=>true
 |_=>false
def ay.put(n:Nat)(p:Pt)(b:cW)(t:ay×Int)(k:Nat):ay×Int:=(t.1.ng n p b k,if UG (t.1.aB (k / 2)) n t.1.P (du p k) b then 0 else t.2)
def ay.ij(n:Nat)(s:ay)(p:Pt)(b:cW):ay×Int:=if jY p&&tN p b then(eA p.a 4).foldl (ay.put n p b) (s,21)else(s,1)
def ay.lX(s:ay)(d:Nat):ay×Bool:=
 ({s with aB:=iS s.aB d (if(s.aB d).gb s.P&&s.P.bX then(s.aB d).ev else s.aB d),P:=if(s.aB d).gb s.P then s.P.step else s.P},(s.aB d).gb s.P&&s.P.bX)
def ay.ev(s:ay):ay×Int:=((((s.lX 0).1).lX 1).1,if(s.lX 0).2||(((s.lX 0).1).lX 1).2 then 0 else 21)
theorem MN{a:List Nat}{k:Nat}(h:k∈eA a 4):k<4/\a.getD k 0≠0:=by
 unfold eA at h
 grind
structure fV where
 d:Nat->Nat
 c':Nat
 g:Nat->Nat
def aaa(x:Nat×Bool):Array N:=#[aa x.1,.bool x.2]
theorem UH(l:List (Nat×Bool)):∀x∈l,(aaa x).size=2:=λ_ _=>rfl
def wU(s:ay)(n i:Nat):List (Nat×Bool):=(List.range n).map λa=>(s.use i a,s.eD i a)
def lz(s:ay)(n i:Nat):Array N:=kv aaa (wU s n i)
theorem UI(s:ay){n a:Nat}(i:Nat)(h:a<n):(wU s n i)[a]? =some (s.use i a,s.eD i a):=by simp[wU,h]
theorem PZ(s:ay){n a:Nat}(i:Nat)(h:a<n):(lz s n i)[a*2]? =some (aa (s.use i a))/\(lz s n i)[a*2+1]? =some (.bool (s.eD i a)):=
 ⟨OT (n:=2) (UH _) (UI s i h) (i:=0) rfl,OT (n:=2) (UH _) (UI s i h) (i:=1) rfl⟩
def zW(s:ay)(z:fV)(a_:N):Array N:=#[.pointer (some ⟨z.d 0,0,none⟩),.pointer (some ⟨z.d 1,0,none⟩),.pointer (some ⟨z.c',0,none⟩),aa (s.eV 0),aa (s.gd 0),aa (s.eV 1),aa (s.gd 1),a_]
def Fg(z:fV)(m:Nat)(a_:N):Nat->Prop:=λk=>k=m\/k=z.c'\/k=z.g 0\/k=z.g 1\/a_.ownBlock=some k
structure e'(w:M)(m p n:Nat)(z:fV)(s:ay)(a_:N)(A:Nat->Nat->Prop):Prop where
 blk:w.1[m]? =some (.cells (zW s z a_) 245 (0,0))
 kW:∀i,i<2->ml w (z.d i) p n (s.aB i) s.P (A i)
 c':w.1[z.c']? =some (.cells #[.slice (some ⟨z.g 0,0,none⟩) n n,.slice (some ⟨z.g 1,0,none⟩) n n] 240 (0,0))
 pl:∀i,i<2->w.1[z.g i]? =some (.cells (lz s n i) 156 (0,0))
 zV:w.ownsRow 0 44 41 a_ s.dW.length (ei ae s.dW)
 lP:∀q∈s.dW,cc q
 HA:∀k,A 0 k->¬A 1 k
 ne:z.c'≠m/\z.g 0≠m/\z.g 1≠m/\z.c'≠z.g 0/\z.c'≠z.g 1/\z.g 0≠z.g 1
 hD:∀k,Fg z m a_ k->¬A 0 k/\¬A 1 k/\k≠p
 fe:∀k,a_.ownBlock=some k->k≠m/\k≠z.c'/\k≠z.g 0/\k≠z.g 1
def gU(z:fV)(m p:Nat)(a_:N)(A:Nat->Nat->Prop):Nat->Prop:=λk=>Fg z m a_ k\/A 0 k\/A 1 k\/k=p
def kF(w:M)(m p n:Nat)(z:fV)(s:ay)(O:Nat->Prop):Prop:=∃a_ A,e' w m p n z s a_ A/\(∀k,gU z m p a_ A k->O k)/\∀k,O k->k<w.1.size
theorem kX{i:Nat}(h:i<2):i=0\/i=1:=by omega
section
variable {w w':M}{m p n i:Nat}{z:fV}{s:ay}{a_ jr:N}{A:Nat->Nat->Prop}{O S:Nat->Prop}{D':cb}{P':eL}
theorem e'.ih(h:e' w m p n z s a_ A):∀k,gU z m p a_ A k->k<w.1.size:=λk r=>by
 rcases r with(rfl|rfl|rfl|rfl|r)|r|r|rfl
 ·exact lt_of_block h.blk
 ·exact lt_of_block h.c'
 ·exact lt_of_block (h.pl 0 (by omega))
 ·exact lt_of_block (h.pl 1 (by omega))
 ·exact nK h.zV k r
 ·exact(h.kW 0 (by omega)).ih k r
 ·exact(h.kW 1 (by omega)).ih k r
 ·exact(h.kW 0 (by omega)).amI
theorem e'.ko(h:e' w m p n z s a_ A)(ad:i<2){k:Nat}(r:Fg z m a_ k):¬A i k/\k≠p:=by
 obtain⟨a,b,c⟩:=h.hD k r
 grind
theorem e'.app(h:e' w m p n z s a_ A)(ad:i<2){j k:Nat}(I:j<2)(iT:j≠i)(r:A i k):¬A j k:=λe=>by
 rcases kX ad with rfl|rfl<;>rcases kX I with rfl|rfl
 ·exact iT rfl
 ·exact h.HA k r e
 ·exact h.HA k e r
 ·exact iT rfl
theorem e'.ch(h:e' w m p n z s a_ A)(Z:H S w w')(cl:∀k,gU z m p a_ A k->¬S k):e' w' m p n z s a_ A:=by
 have W:∀k,Fg z m a_ k->¬S k:=λk r=>cl k (.inl r);refine⟨Z.obj h.blk (W _ (.inl rfl)),λi ad=>(h.kW i ad).ch Z (λk r=> ?_) (cl p (.inr (.inr (.inr rfl)))),Z.obj h.c' (W _ (.inr (.inl rfl))),λi ad=>Z.obj (h.pl i ad) (W _ ?_),gu h.zV Z λk r=>W _ (.inr (.inr (.inr (.inr r)))),h.lP,h.HA,h.ne,h.hD,h.fe⟩
 ·rcases kX ad with rfl|rfl
  ·exact cl k (.inr (.inl r))
  ·exact cl k (.inr (.inr (.inl r)))
 ·rcases kX ad with rfl|rfl
  ·exact .inr (.inr (.inl rfl))
  ·exact .inr (.inr (.inr (.inl rfl)))
theorem e'.Qh(h:e' w m p n z s a_ A)(ad:i<2)(J:ml w' (z.d i) p n D' P' (aE (A i) w w'))(Z:H (λk=>A i k\/k=p) w w'):e' w' m p n z {s with aB:=iS s.aB i D',P:=P'} a_ (iS A i (aE (A i) w w')):=by
 have ak:=h.ih;have aA:=Z.size;have W:∀k,Fg z m a_ k->¬(A i k\/k=p):=λk r e=>e.elim (h.ko ad r).1 (h.ko ad r).2;have fp:∀j,j<2->∀k,iS A i (aE (A i) w w') j k->A j k\/(j=i/\w.1.size<=k):=λj I k r=>by
  by_cases ly:j=i
  ·subst ly;rw[Dg]at r;exact r.imp id λe=>⟨rfl,e.1⟩
  ·rw[ye _ _ ly]at r;exact .inl r
 refine⟨Z.obj h.blk (W _ (.inl rfl)),λj I=> ?_,Z.obj h.c' (W _ (.inr (.inl rfl))),λi ad=>Z.obj (h.pl i ad) (W _ ?_),gu h.zV Z λk r=>W _ (.inr (.inr (.inr (.inr r)))),h.lP,λk bi J=> ?_,h.ne,λk r=>⟨λe=> ?_,λe=> ?_,(h.hD k r).2.2⟩,h.fe⟩
 ·by_cases ly:j=i
  ·simp_all
  ·simp only[ye _ _ ly];exact⟨(h.kW j I).aB.ch Z λk r e=>e.elim (λe=>h.app I ad (λe=>ly e.symm) r e) λe=>(h.kW j I).CK (by rw[<-e];exact r),J.vB,(h.kW j I).CK⟩
 ·rcases kX ad with rfl|rfl
  ·exact .inr (.inr (.inl rfl))
  ·exact .inr (.inr (.inr (.inl rfl)))
 ·rcases fp 0 (by omega) k bi with bi|⟨e,bi⟩
  ·rcases fp 1 (by omega) k J with J|⟨_,J⟩
   ·exact h.HA k bi J
   ·have:=ak k (.inr (.inl bi));omega
  ·rcases fp 1 (by omega) k J with J|⟨aL,J⟩
   ·have:=ak k (.inr (.inr (.inl J)));omega
   ·omega
 ·rcases fp 0 (by omega) k e with e|⟨_,e⟩
  ·exact(h.hD k r).1 e
  ·have:=ak k (.inl r);omega
 ·rcases fp 1 (by omega) k e with e|⟨_,e⟩
  ·exact(h.hD k r).2.1 e
  ·have:=ak k (.inl r);omega
theorem e'.apq(h:e' w m p n z s a_ A)(ad:i<2){k:Nat}(r:gU z m p a_ (iS A i (aE (A i) w w')) k):aE (gU z m p a_ A) w w' k:=by
 have fp:∀j,j<2->∀k,iS A i (aE (A i) w w') j k->A j k\/(w.1.size<=k/\k<w'.1.size):=λj I k r=>by
  by_cases ly:j=i
  ·subst ly;rw[Dg]at r;exact r
  ·rw[ye _ _ ly]at r;exact .inl r
 rcases r with r|r|r|r
 ·exact .inl (.inl r)
 ·exact(fp 0 (by omega) k r).imp (λe=>.inr (.inl e)) id
 ·exact(fp 1 (by omega) k r).imp (λe=>.inr (.inr (.inl e))) id
 ·exact .inl (.inr (.inr (.inr r)))
theorem e'.own(h:e' w m p n z s a_ A)(Z:H (aj m) w w'){s':ay}(ab:w'.1[m]? =some (.cells (zW s' z a_) 245 (0,0)))(aL:s'.aB=s.aB)(aR:s'.P=s.P)(dB:s'.use=s.use)(dl:s'.eD=s.eD)(gL:s'.dW=s.dW):e' w' m p n z s' a_ A:=by
 have W:Fg z m a_ m:=.inl rfl;obtain⟨iW,kh,jP,xy,xY,n6⟩:=h.ne;have aDA:∀i,lz s' n i=lz s n i:=λi=>by unfold lz wU;rw[dB,dl]
 refine⟨ab,λi ad=> ?_,Z.obj h.c' iW,λi ad=> ?_,by rw[gL];exact gu h.zV Z λk r e=>(h.fe k r).1 e,by rw[gL];exact h.lP,h.HA,h.ne,h.hD,h.fe⟩
 ·rw[aL,aR];exact(h.kW i ad).ch Z (λk r e=>(h.ko ad W).1 (by simp only[aj]at e;rw[<-e];exact r)) λe=>(h.ko ad W).2 e.symm
 ·rw[aDA];rcases kX ad with rfl|rfl
  ·exact Z.obj (h.pl 0 ad) kh
  ·exact Z.obj (h.pl 1 ad) jP
theorem kF.ch(h:kF w m p n z s O)(Z:H S w w')(cl:∀k,O k->¬S k):kF w' m p n z s O:=by
 obtain⟨a_,A,J,T,ag⟩:=h;exact⟨a_,A,J.ch Z λk r=>cl k (T k r),T,λk r=>gQ (ag k r) Z.size⟩
end
section
variable {w w':M}{m p n i:Nat}{z:fV}{s:ay}{a_:N}{A:Nat->Nat->Prop}{O S:Nat->Prop}
theorem Ug(h:e' w m p n z s a_ A)(ad:i<2):bc prog 62 #[.pointer (some ⟨z.c',0,none⟩),aa i] w λv' w'=>v'=.slice (some ⟨z.g i,0,none⟩) n n/\w'=w:=by
 refine bz func62 ntmps62 λbk af=> ?_;have gs:w.cell? ⟨z.c',0,none⟩=some (.slice (some ⟨z.g 0,0,none⟩) n n):=aG h.c' 0;have aY:w.cell? ⟨z.c',1,none⟩=some (.slice (some ⟨z.g 1,0,none⟩) n n):=aG h.c' 1;rcases kX ad with rfl|rfl
 ·simp[go_sem,gs];exact af _ _ ⟨rfl,rfl⟩
 ·simp[go_sem,aY];exact af _ _ ⟨rfl,rfl⟩
theorem aDB(s:ay){n a:Nat}(i:Nat):(wU s n i).set a (s.use i a,true)=wU {s with eD:=iS s.eD i (iS (s.eD i) a true)} n i:=by
 unfold wU;simp only[Dg];apply yM;intro j;rw[acU];by_cases I:a=j
 ·subst I;by_cases ao:a<n<;>simp[ao]
 ·rw[aQ I];simp only[oo]
  cases ax:(List.range n)[j]? with
  |none=>rfl
  |some x=>
   have W:x=j:=by
    have:=jG.1 ax;obtain⟨J,T⟩:=this;simpa using T.symm
   subst W;simp[ye _ _ (λe=>I e.symm)]
theorem e'.fS(h:e' w m p n z s a_ A)(ad:i<2)(Z:H (aj (z.g i)) w w'){s':ay}(ab:w'.1[z.g i]? =some (.cells (lz s' n i) 156 (0,0)))(I:∀j,j≠i->lz s' n j=lz s n j)(e:zW s' z a_=zW s z a_)(aL:s'.aB=s.aB)(aR:s'.P=s.P)(gL:s'.dW=s.dW):e' w' m p n z s' a_ A:=by
 have W:Fg z m a_ (z.g i):=by
  rcases kX ad with rfl|rfl
  ·exact .inr (.inr (.inl rfl))
  ·exact .inr (.inr (.inr (.inl rfl)))
 obtain⟨iW,kh,jP,xy,xY,n6⟩:=h.ne;have rj:m≠z.g i/\z.c'≠z.g i:=by
  rcases kX ad with rfl|rfl
  ·omega
  ·omega
 have IW:∀k,a_.ownBlock=some k->k≠z.g i:=λk r=>by
  rcases kX ad with rfl|rfl
  ·exact(h.fe k r).2.2.1
  ·exact(h.fe k r).2.2.2
 refine⟨by rw[e];exact Z.obj h.blk rj.1,λj I=> ?_,Z.obj h.c' rj.2,λj pR=> ?_,by rw[gL];exact gu h.zV Z IW,by rw[gL];exact h.lP,h.HA,h.ne,h.hD,h.fe⟩
 ·rw[aL,aR];exact(h.kW j I).ch Z (λk r e=>(h.ko I W).1 (by simp only[aj]at e;rw[<-e];exact r)) λe=>(h.ko I W).2 e.symm
 ·by_cases ly:j=i
  ·rw[ly];exact ab
  ·rw[I j ly];refine Z.obj (h.pl j pR) λe=> ?_;simp only[aj]at e
   grind
theorem aDC(h:e' w m p n z s a_ A)(ad:i<2)(a:Nat)(ao:a<65536):bc prog 236 #[.pointer (some ⟨z.c',0,none⟩),aa i,.int .u16 a] w λv' w'=>e' w' m p n z (s.yf n i a) a_ A/\H (aj (z.g i)) w w':=by
 refine bz func236 ntmps236 λbk af=> ?_;simp[go_sem];refine(agk func120 ntmps120 rfl (by simp) λQi Fj=> ?_:bc prog 120 #[.pointer (some ⟨z.c',0,none⟩),aa i,.int .u16 a,.func (.func 258) #[] #[]] w λv' w'=>(∃k,v'=aa k)/\e' w' m p n z (s.yf n i a) a_ A/\H (aj (z.g i)) w w').mono ?_
 ·have oC:∀(x:List N) (w:M),(callFunc 258 x.toArray).run prog w=.ok (.enter 258 x.toArray) w:=λx w=>by simp[go_sem]
  have cu:∀w',(Builtin.len_ #[153] 3 #[.slice (some ⟨z.g i,0,none⟩) n n]).run prog w'=.ok (aa n) w':=λw'=>by simp[Builtin.len_,run_underlying underlying153,goInt]
  have UJ:IntKind.i64.wrap (a:Int)=a:=by rw[cz];omega
  simp[go_sem];refine(Ug h ad).mono ?_;rintro _ ai ⟨rfl,rfl⟩;by_cases bi:a=0
  ·subst bi;simp[go_sem];exact Fj _ _ ⟨⟨_,rfl⟩,by simpa[ay.yf]using h,H.refl _ _⟩
  ·have tx:((a:Int)==0)=false:=hv (by omega);by_cases kj:a<n
   ·have vz:¬(n:Int)<=a:=by omega
    simp[go_sem,cu,UJ,bi,tx,kj,vz];have ab:=h.pl i ad;have vH:=λj=>dJ ab j;have gJ:ai.cell? ⟨z.g i,a*2+1,none⟩=some (.bool (s.eD i a)):=by rw[aG ab];exact(PZ s i kj).2
    have Z:H (aj (z.g i)) ai (ai.setCell ⟨z.g i,a*2+1,none⟩ (.bool true)):=(H.refl (aj (z.g i)) ai).setCell (p:=⟨z.g i,a*2+1,none⟩) (.inl rfl) _;have aA:s.yf n i a={s with eD:=iS s.eD i (iS (s.eD i) a true)}:=by unfold ay.yf;rw[aQ (by omega)]
    refine(agk func258 ntmps258 rfl (by simp) λaRL aDD=> ?_:bc prog 258 #[.pointer (some ⟨z.g i,a*2,none⟩)] ai λv' w'=>v'=.bool true/\w'=ai.setCell ⟨z.g i,a*2+1,none⟩ (.bool true)).mono ?_
    ·simp[go_sem,gJ,vH];exact aDD _ _ ⟨rfl,rfl⟩
    rintro _ an ⟨rfl,rfl⟩;simp[go_sem];refine Fj _ _ ⟨⟨_,rfl⟩,?_,Z⟩;rw[aA];refine h.fS ad Z ?_ (λj I=> ?_) rfl rfl rfl rfl
    ·rw[eU,ab,fU];congr 1;congr 1;unfold lz;rw[<-aDB];exact Su (n:=2) (UH _) (UI s i kj) (i:=1) (by omega) rfl
    ·unfold lz wU;simp only[ye _ _ I]
   ·have vz:(n:Int)<=a:=by omega
    simp[go_sem,cu,UJ,bi,tx,kj,vz];exact Fj _ _ ⟨⟨_,rfl⟩,by simpa[ay.yf,show n<=a by omega]using h,H.refl _ _⟩
 ·rintro _ ai ⟨⟨k,rfl⟩,J,aY⟩;simp[go_sem];exact af _ _ ⟨J,aY⟩
def aDE(w:M)(V:Option cW)(v':N)(w':M):Prop:=match V with
 |some b=>∃u,v'=.tuple #[u,.bool true]/\b.length=512/\bC w' u 512 (br b)/\gr w.1.size u/\∀k,u.ownBlock=some k->k<w'.1.size
 |none=>∃u,v'=.tuple #[u,.bool false]
theorem apr(h:e' w m p n z s a_ A)(q:Pt)(ok:cc q)(r:jz w)(k:Nat)(gq:k<4):bc prog 235 #[az m,.agg (ae q),.agg #[aa (k / 2:Nat),.int .u16 (du q k)]] w λv' w'=>aDE w (s.iu n q k) v' w'/\H al w w':=by
 refine bz func235 ntmps235 λbk af=> ?_;have de:=cd ok;have da:=ef ok;have ad:k / 2<2:=by omega
 have rC:=Uh ok k;obtain⟨i,eo⟩:=aD (k / 2);rw[eo]at ad;have bu:=oF w (.cells (ae q) 44) (.cells #[aa (k / 2:Nat),.int .u16 (du q k)] 346);have bt:=nM w (.cells (ae q) 44) (.cells #[aa (k / 2:Nat),.int .u16 (du q k)] 346);have aU:=((H.refl al w).alloc (.cells (ae q) 44)).alloc (.cells #[aa (k / 2:Nat),.int .u16 (du q k)] 346);have aH:s.iu n q k=if(s.aB i).gb s.P then((s.aB i).oI n (du q k)).filter (tN q)else none:=by unfold ay.iu;rw[eo]
 rw[eo]at bu bt aU⊢;simp[go_sem];obtain⟨g,lp⟩:=aD (w.1.size);rw[lp]at bu bt⊢;generalize(w.alloc (.cells (ae q) 44)).alloc (.cells #[aa i,.int .u16 (du q k)] 346)=ai at*;have J:=h.ch aU λ_ _ e=>e;have aDF:=J.ch (H.refl al ai).drew λ_ _ e=>e;have aY:=λj=>aG bt j;have dH:ai.cell? (bl m i)=some (.pointer (some ⟨z.d i,0,none⟩)):=by
  rw[aG J.blk];rcases kX ad with rfl|rfl<;>rfl
 refine cT [F 0,F 1,F 2,F 3,F 4,F 5,F 6,F 7,F 8,(9,some []),F 10,F 11,F 12,F 13,F 14] ?_;have q_:(i:Int)<2:=by omega
 simp[go_sem,aY,dH,ad,q_];refine((aDF.kW i ad).xS (du q k) rC).mono ?_;rintro _ an ⟨T,_,bh⟩;have pi:=H.hR bh;have jU:=pi.obj bu id;rcases T with⟨hx,b,u,aDG,rfl,ab,ap,bP,av⟩|⟨hx,rfl⟩
 ·have gE:(s.aB i).gb s.P=true:=by
   cases gE:(s.aB i).gb s.P with
   |true=>rfl
   |false=>simp[zo,gE]at hx
  rw[gE,be rfl,aDG]at aH;simp[go_sem,jU,de,da];refine(aps q u b an ok (by rw[ab];exact ap) av (by omega) ((r.ch aU id).ch pi id)).mono ?_;rintro _ aJ ⟨rfl,bA⟩;simp[go_sem];refine af _ _ ⟨?_,(aU.trans pi).trans bA⟩;rw[aH]
  cases qX:tN q b with
  |true=>
   have e:(some b:Option cW).filter (tN q)=some b:=by simp[Option.filter,qX]
   rw[e];refine⟨u,?_,ab,ap.ch bA λ_ _ e=>e,?_,λk r=>gQ (av k r) bA.size⟩
   ·rw[show(decide (b.length=512)&&decide (uI q b=q.h))=tN q b from rfl,qX]
   ·have:=aU.size;exact bP.mono (by simpa[<-lp]using this)
  |false=>
   have e:(some b:Option cW).filter (tN q)=none:=by simp[Option.filter,qX]
   rw[e];exact⟨u,by rw[show(decide (b.length=512)&&decide (uI q b=q.h))=tN q b from rfl,qX]⟩
 ·have iM:s.iu n q k=none:=by
   rw[aH];unfold zo at hx
   cases gE:(s.aB i).gb s.P with
   |false=>simp
   |true=>
    simp only[gE]at hx
    cases ak:(s.aB i).oI n (du q k)with
    |none=>simp
    |some b=>
     exfalso;apply hx;have oE:¬n<=du q k:=λZ=>by
      unfold cb.oI at ak;simp[Z]at ak
     simp[oE,ak]
  have HF:((zo n (s.aB i) s.P (du q k))==0)=false:=hv hx;simp[go_sem,hx,HF];exact af _ _ ⟨by rw[iM];exact⟨_,rfl⟩,aU.trans pi⟩
end
section
variable {n:Nat}{s s':ay}
def ay.lA(n:Nat)(s:ay)(d:Nat):Nat:=((List.range n).find? λa=>decide (1<=a)&&decide (s.use d a=0)&& !s.eD d a).getD 0
def ay.hL(s:ay)(d a x:Nat):ay:={s with use:=iS s.use d (iS (s.use d) a x)}
def ay.alloc(n:Nat)(s:ay)(d:Nat):ay×Nat:=if s.lA n d=0 then(s,0)else(s.hL d (s.lA n d) 1,s.lA n d)
def ay.nY(n f t:Nat)(s:ay)(x:Nat×Nat):ay:=if x.2=0\/n<=x.2\/s.use x.1 x.2≠f then s else s.hL x.1 x.2 t
def ay.kl(n:Nat)(s:ay)(d w:Nat):ay×List Nat:=
 if w=0 then(s,[0,0])else if w=1 then((s.alloc n d).1,[(s.alloc n d).2,0])else(((s.alloc n d).1.alloc n d).1,[(s.alloc n d).2,((s.alloc n d).1.alloc n d).2])
def ay.xU(n:Nat)(s:ay)(w:Nat):ay×List Nat:=(((s.kl n 0 w).1.kl n 1 w).1,(s.kl n 0 w).2++((s.kl n 0 w).1.kl n 1 w).2)
theorem zN(s:ay)(d a x i b:Nat):(s.hL d a x).use i b=if i=d/\b=a then x else s.use i b:=by
 unfold ay.hL iS;by_cases h:i=d
 ·simp_all
 ·simp[h]
structure i_(s s':ay):Prop where
 aB:s'.aB=s.aB
 P:s'.P=s.P
 eD:s'.eD=s.eD
 eV:s'.eV=s.eV
 gd:s'.gd=s.gd
 dW:s'.dW=s.dW
theorem i_.refl(s:ay):i_ s s:=⟨rfl,rfl,rfl,rfl,rfl,rfl⟩
theorem i_.trans{bK cR:ay}(h:i_ s bK)(k:i_ bK cR):i_ s cR:=⟨k.aB.trans h.aB,k.P.trans h.P,k.eD.trans h.eD,k.eV.trans h.eV,k.gd.trans h.gd,k.dW.trans h.dW⟩
theorem i_.hL(s:ay)(d a x:Nat):i_ s (s.hL d a x):=⟨rfl,rfl,rfl,rfl,rfl,rfl⟩
theorem YP(n:Nat)(s:ay)(d:Nat):(s.lA n d=0/\∀a,1<=a->a<n->s.use d a=0->s.eD d a=true)\/(1<=s.lA n d/\s.lA n d<n/\s.use d (s.lA n d)=0/\s.eD d (s.lA n d)=false):=by
 unfold ay.lA
 cases h:(List.range n).find? λa=>decide (1<=a)&&decide (s.use d a=0)&& !s.eD d a with
 |none=>
  grind
 |some a=>
  grind
theorem Qj{d dr:Nat}(h:∀a,1<=a->a<n->s.use d a=s'.use dr a/\s.eD d a=s'.eD dr a):s.lA n d=s'.lA n dr:=by
 unfold ay.lA;have:∀l:List Nat,(∀a∈l,a<n)->(l.find? λa=>decide (1<=a)&&decide (s.use d a=0)&& !s.eD d a)=l.find? λa=>decide (1<=a)&&decide (s'.use dr a=0)&& !s'.eD dr a:=by
  intro l ak
  induction l with
  |nil=>rfl
  |cons a l bL=>
   grind
 grind
theorem aDH{U:Nat->Nat}(zX:∀i,i<2->∀a,1<=a->a<n->s.use i a=U a)(r:∀i,i<2->∀a,s.eD i a=false){w:Nat}(bM:w=1\/w=2):
  (∃s' x y,s.xU n w=(s',[x,y,x,y])/\i_ s s'/\1<=x/\x<n/\U x=0/\(y=0\/(1<=y/\y<n/\U y=0/\y≠x))/\(w=1->y=0)/\(w=2->y=0->∀a,1<=a->a<n->a≠x->U a≠0)/\
   ∀i,i<2->∀a,1<=a->a<n->s'.use i a=if a=x\/a=y then 1 else U a)\/
  (s.xU n w=(s,[0,0,0,0])/\∀a,1<=a->a<n->U a≠0):=by
 have lH:=r 0 (by omega);have sn:=r 1 (by omega);rcases YP n s 0 with⟨e,h⟩|⟨J,T,ag,aP⟩
 ·have aL:s.lA n 1=0:=by
   rw[<-e];exact Qj λa a1 a2=>⟨by grind,by rw[lH,sn]⟩
  have Dh:s.alloc n 0=(s,0):=by unfold ay.alloc;rw[be e]
  have Qk:s.alloc n 1=(s,0):=by unfold ay.alloc;rw[be aL]
  refine .inr ⟨?_,λa a1 a2 hz=> ?_⟩
  ·unfold ay.xU ay.kl
   grind
  grind
 ·obtain⟨x,W⟩:=aD (s.lA n 0);rw[W]at J T ag aP;have jJ:¬x=0:=by omega
  rw[zX 0 (by omega) x J T]at ag;have Dh:s.alloc n 0=(s.hL 0 x 1,x):=by unfold ay.alloc;rw[W,aQ jJ]
  obtain⟨t,bj⟩:=aD (s.hL 0 x 1);have Ke:∀i a,t.use i a=if i=0/\a=x then 1 else s.use i a:=λi a=>by rw[<-bj];exact zN _ _ _ _ _ _
  have gm:t.eD=s.eD:=by rw[<-bj];rfl
  have agl:i_ s t:=bj▸i_.hL _ _ _ _;rw[bj]at Dh;rcases bM with rfl|rfl
  ·have aL:t.lA n 1=x:=by
    rw[<-W];exact Qj λa a1 a2=>⟨by grind,by rw[gm,lH,sn]⟩
   have Qk:t.alloc n 1=(t.hL 1 x 1,x):=by unfold ay.alloc;rw[aL,aQ jJ]
   refine .inl ⟨t.hL 1 x 1,x,0,by unfold ay.xU ay.kl;simp[Dh,Qk],agl.trans (i_.hL _ _ _ _),J,T,ag,.inl rfl,λ_=>rfl,λe=>by omega,λi ad a a1 a2=> ?_⟩;rw[zN,Ke]
   grind
  ·
   rcases YP n t 0 with⟨e,h⟩|⟨bn,bh,bA,ex⟩
   ·have aab:t.alloc n 0=(t,0):=by unfold ay.alloc;rw[be e]
    have aL:t.lA n 1=x:=by
     rw[<-W];exact Qj λa a1 a2=>⟨by grind,by rw[gm,lH,sn]⟩
    have Qk:t.alloc n 1=(t.hL 1 x 1,x):=by unfold ay.alloc;rw[aL,aQ jJ]
    have aR:(t.hL 1 x 1).lA n 1=0:=by
     rw[<-e];exact Qj λa a1 a2=>⟨by
      rw[zN,Ke,Ke,zX 1 (by omega) a a1 a2,zX 0 (by omega) a a1 a2]
      grind,by
      show t.eD 1 a=t.eD 0 a;rw[gm,lH,sn]⟩
    have agm:(t.hL 1 x 1).alloc n 1=(t.hL 1 x 1,0):=by unfold ay.alloc;rw[be aR]
    refine .inl ⟨t.hL 1 x 1,x,0,by unfold ay.xU ay.kl;simp[Dh,aab,Qk,agm],agl.trans (i_.hL _ _ _ _),J,T,ag,.inl rfl,λ_=>rfl,λ_ _ a a1 a2 Fk hz=> ?_,λi ad a a1 a2=> ?_⟩
    ·have:=h a a1 a2 (by grind)
     simp_all
    ·rw[zN,Ke]
     grind
   ·obtain⟨y,ar⟩:=aD (t.lA n 0);rw[ar]at bn bh bA ex;have agn:¬y=0:=by omega
    have Bt:y≠x:=λe=>by
     grind
    rw[Ke,aQ (λe=>Bt e.2),zX 0 (by omega) y bn bh]at bA;have aab:t.alloc n 0=(t.hL 0 y 1,y):=by unfold ay.alloc;rw[ar,aQ agn]
    obtain⟨V,ax⟩:=aD (t.hL 0 y 1);have apt:∀i a,V.use i a=if i=0/\a=y then 1 else t.use i a:=λi a=>by rw[<-ax];exact zN _ _ _ _ _ _
    have jC:V.eD=s.eD:=by rw[<-ax,<-gm];rfl
    have aDI:i_ s V:=agl.trans (ax▸i_.hL _ _ _ _);rw[ax]at aab;have aL:V.lA n 1=x:=by
     rw[<-W];exact Qj λa a1 a2=>⟨by grind,by rw[jC,lH,sn]⟩
    have Qk:V.alloc n 1=(V.hL 1 x 1,x):=by unfold ay.alloc;rw[aL,aQ jJ]
    have aR:(V.hL 1 x 1).lA n 1=y:=by
     rw[<-ar];exact Qj λa a1 a2=>⟨by
      rw[zN,apt,aQ (show¬(1=0/\a=y)by omega),Ke,Ke,zX 1 (by omega) a a1 a2,zX 0 (by omega) a a1 a2]
      grind,by
      show V.eD 1 a=t.eD 0 a;rw[jC,gm,lH,sn]⟩
    have agm:(V.hL 1 x 1).alloc n 1=((V.hL 1 x 1).hL 1 y 1,y):=by unfold ay.alloc;rw[aR,aQ agn]
    refine .inl ⟨(V.hL 1 x 1).hL 1 y 1,x,y,by unfold ay.xU ay.kl;simp[Dh,aab,Qk,agm],(aDI.trans (i_.hL _ _ _ _)).trans (i_.hL _ _ _ _),J,T,ag,.inr ⟨bn,bh,bA,Bt⟩,λe=>by omega,λ_ e=>absurd e agn,λi ad a a1 a2=> ?_⟩;rw[zN,zN,apt,Ke]
    grind
theorem PH{f t:Nat}(aDJ:f≠t):∀(l:List (Nat×Nat)) (s:ay),i_ s (l.foldl (ay.nY n f t) s)/\∀i a,(l.foldl (ay.nY n f t) s).use i a=if(i,a)∈l/\1<=a/\a<n/\s.use i a=f then t else s.use i a
 |[],s=>⟨i_.refl s,λi a=>by simp⟩
 |x::l,s=>by
  obtain⟨J,T⟩:=PH aDJ l (ay.nY n f t s x);have cl:i_ s (ay.nY n f t s x):=by
   unfold ay.nY;split
   ·exact i_.refl s
   ·exact i_.hL _ _ _ _
  have ap:∀i a,(ay.nY n f t s x).use i a=if(i,a)=x/\1<=a/\a<n/\s.use i a=f then t else s.use i a:=λi a=>by
   unfold ay.nY;by_cases Z:x.2=0\/n<=x.2\/s.use x.1 x.2≠f
   ·grind
   ·rw[aQ Z,zN]
    grind
  refine⟨cl.trans J,λi a=> ?_⟩
  grind
end
def pa(p:Pt):List Nat:=[du p 0,du p 1].filter λa=>decide (a≠0)
def Fl(p:Pt):Prop:=∃x y,p.a=[x,y,x,y]/\x≠0/\x≠y
def rN(p:Pt):List (Nat×Nat):=(eA p.a 4).map λk=>(k / 2,du p k)
theorem aac{x y:Nat}(W:x≠0):eA [x,y,x,y] 4=if y=0 then[0,2]else[0,1,2,3]:=by
 unfold eA;by_cases ar:y=0
 ·subst ar;simp[List.range,List.range.loop,W]
 ·simp[List.range,List.range.loop,W,ar]
theorem MU{p:Pt}{x y:Nat}(e:p.a=[x,y,x,y])(W:x≠0):pa p=if y=0 then[x]else[x,y]:=by
 have bi:du p 0=x:=by unfold du;rw[e];rfl
 have J:du p 1=y:=by unfold du;rw[e];rfl
 unfold pa
 grind
theorem aDK{p:Pt}{x y:Nat}(e:p.a=[x,y,x,y])(W:x≠0):rN p=if y=0 then[(0,x),(1,x)]else[(0,x),(0,y),(1,x),(1,y)]:=by
 have bi:du p 0=x:=by unfold du;rw[e];rfl
 have J:du p 1=y:=by unfold du;rw[e];rfl
 have T:du p 2=x:=by unfold du;rw[e];rfl
 have ag:du p 3=y:=by unfold du;rw[e];rfl
 unfold rN;rw[e,aac W]
 grind
theorem Ql{p:Pt}(aA:Fl p)(i a:Nat):(i,a)∈rN p↔i<2/\a∈pa p:=by
 obtain⟨x,y,e,W,_⟩:=aA;rw[aDK e W,MU e W]
 grind
theorem aDL:rN ah=[]:=by decide
structure vQ(D:cb):Prop where
 wE:D.wE=false
 gl:D.gl=none
 dN:∀a,D.dN a=false
 stuck:∀a,D.stuck a=false
def Bx(D:cb)(a:Nat):cW:=(qo D.bT a).getD (kC D.m a)
theorem vQ.oI{D:cb}(h:vQ D)(n a:Nat):D.oI n a=if D.bY=true\/n<=a then none else some (Bx D a):=by
 unfold cb.oI Bx cb.Pp;rw[h.stuck,h.dN]
 grind
theorem vQ.put{D:cb}(h:vQ D){n a:Nat}(ao:a<n)(b:cW):D.put n a b={D with bT:=D.bT++[(a,b)]}:=by
 unfold cb.put;rw[h.wE,h.gl]
 grind
theorem apu(l c:List (Nat×cW)){a:Nat}{b:cW}(h:∀x∈c,x.1=a->x.2=b):qo (l++c) a=if∃x∈c,x.1=a then some b else qo l a:=by
 induction l with
 |nil=>
  induction c with
  |nil=>simp[qo]
  |cons x c bL=>
   have bL:=bL λy ar=>h y (by simp[ar]);rw[xu]at bL⊢;obtain⟨p,q⟩:=x;show(match qo c a with|some z=>some z|none=>if p=a then some q else none)=_;rw[bL];by_cases J:∃x∈c,x.1=a
   ·simp_all
   ·rw[aQ J];by_cases am:p=a
    ·have au:q=b:=h (p,q) (by simp) am;have aN:∃x∈(p,q)::c,x.1=a:=⟨(p,q),by simp,am⟩;rw[be aN];simp[qo,am,au]
    grind
 |cons x l bL=>
  obtain⟨p,q⟩:=x;show(match qo (l++c) a with|some z=>some z|none=>if p=a then some q else none)=if _ then _ else(match qo l a with|some z=>some z|none=>if p=a then some q else none)
  rw[bL];by_cases J:∃x∈c,x.1=a
  ·rw[be J,be J]
  ·rw[aQ J,aQ J]
section
variable {n:Nat}{q:Pt}{b:cW}
structure aDM(n:Nat)(q:Pt)(b:cW)(l:List Nat)(s:ay)(dk:Int)(V:ay×Int):Prop where
 use:V.1.use=s.use
 eD:V.1.eD=s.eD
 eV:V.1.eV=s.eV
 gd:V.1.gd=s.gd
 dW:V.1.dW=s.dW
 By:∀i,vQ (V.1.aB i)
 bY:∀i,(V.1.aB i).bY=(s.aB i).bY
 m:∀i,(V.1.aB i).m=(s.aB i).m
 bT:∀i,∃c,(V.1.aB i).bT=(s.aB i).bT++c/\c.length<=l.length/\(∀x∈c,x.2=b/\∃k∈l,k / 2=i/\x.1=du q k)/\(V.1.P.off=false->(s.aB i).bY=false->∀k∈l,k / 2=i->(du q k,b)∈c)
 off:V.1.P.off=false->s.P.off=false
 on:s.P=eL.on->V.1.P=eL.on
 dS:s.P.dS<=9223372036854775807->V.1.P.dS<=9223372036854775807
 e:V.2=dk\/V.2=0
 ok:s.P=eL.on->(∃k∈l,(s.aB (k / 2)).bY=false)->V.2=0
 Ju:(∀k∈l,(s.aB (k / 2)).bY=true)->V.2=dk
theorem apv(ab:b.length=512):∀(l:List Nat) (s:ay) (dk:Int),(∀k∈l,du q k<n)->(∀i,vQ (s.aB i))->aDM n q b l s dk (l.foldl (ay.put n q b) (s,dk))
 |[],s,dk,_,Z=>⟨rfl,rfl,rfl,rfl,rfl,Z,λ_=>rfl,λ_=>rfl,λi=>⟨[],by simp,by simp,by simp,by simp⟩,id,id,id,.inl rfl,λ_ ⟨k,r,_⟩=>(by cases r),λ_=>rfl⟩
 |k::l,s,dk,ak,Z=>by
  have r:=ak k (by simp);have one:∃bK aL,ay.put n q b (s,dk) k=(bK,aL)/\bK.use=s.use/\bK.eD=s.eD/\bK.eV=s.eV/\bK.gd=s.gd/\bK.dW=s.dW/\
    (∀i,bK.aB i=s.aB i\/(i=k / 2/\(s.aB i).bY=false/\s.P.off=false/\bK.aB i={s.aB i with bT:=(s.aB i).bT++[(du q k,b)]}))/\
    (bK.P.off=false->s.P.off=false/\((s.aB (k / 2)).bY=false->bK.aB (k / 2)≠s.aB (k / 2)))/\(s.P=eL.on->bK.P=eL.on)/\(s.P.dS<=9223372036854775807->bK.P.dS<=9223372036854775807)/\(aL=dk\/aL=0)/\(s.P=eL.on->(s.aB (k / 2)).bY=false->aL=0)/\((s.aB (k / 2)).bY=true->aL=dk):=by
   obtain⟨j,I⟩:=aD (k / 2);have aad:=Z j;unfold ay.put ay.ng;simp only[I];refine⟨_,_,rfl,rfl,rfl,rfl,rfl,rfl,λi=> ?_,?_,?_,?_,?_,?_,?_⟩
   ·by_cases ad:i=j
    ·subst ad;simp only[Dg];by_cases bM:(s.aB i).mF n s.P (du q k) b=.ok
     ·right;have ao:(s.aB i).gb s.P=true:=by
       unfold cb.mF at bM
       cases h:(s.aB i).gb s.P with
       |true=>rfl
       |false=>rw[h]at bM;simp at bM
      unfold cb.gb at ao;simp at ao;refine⟨trivial,ao.1,ao.2,?_⟩;unfold cb.ij;rw[be bM,aad.put r]
     ·left;unfold cb.ij;rw[aQ bM]
    ·left;simp only[ye _ _ ad]
   ·intro iD;have aae:s.P.off=false:=by
     unfold cb.sq at iD;split at iD
     ·exact iD
     ·split at iD
      ·exact iD
      ·unfold eL.step at iD
       grind
    refine⟨aae,λbm=> ?_⟩;simp only[Dg];have ao:(s.aB j).gb s.P=true:=by unfold cb.gb;simp[bm,aae]
    have bM:(s.aB j).mF n s.P (du q k) b=.ok:=by
     unfold cb.mF;rw[ao];simp only[Sb,wk,if_false];rw[aQ (by omega)];unfold cb.sq at iD;rw[ao]at iD;simp only[Sb,wk,if_false]at iD;rw[aQ (by omega)]at iD;unfold eL.step at iD;rw[aae]at iD;simp only[wk,if_false]at iD;unfold eL.bX;rw[aae];by_cases bP:s.P.dS=0
     ·grind
     ·simp[bP]
    unfold cb.ij;rw[be bM,aad.put r];intro e;have:=yN (λd=>d.bT.length) e;simp at this
   ·intro uF;unfold cb.sq;rw[uF];split
    ·rfl
    ·split
     ·rfl
     ·rfl
   ·intro bP;simp only;unfold cb.sq;split
    ·exact bP
    ·split
     ·exact bP
     ·unfold eL.step
      grind
   ·omega
   ·intro uF bm;rw[be];unfold UG cb.mF cb.gb;rw[uF,bm];have T:¬(n<=du q k\/b.length≠512):=by omega
    rw[aQ (by decide),aQ T,be (by decide)]
   ·intro bm;rw[aQ];unfold UG cb.mF cb.gb;rw[bm];simp
  obtain⟨bK,aL,bi,J,T,ag,aP,bH,cS,fi,er,tr,ir,ix,lY⟩:=one;have fR:∀i,vQ (bK.aB i):=λi=>by
   rcases cS i with e|⟨_,_,_,e⟩
   ·rw[e];exact Z i
   ·rw[e];exact⟨(Z i).wE,(Z i).gl,(Z i).dN,(Z i).stuck⟩
  have oJ:∀i,(bK.aB i).bY=(s.aB i).bY:=λi=>by
   grind
  have lO:∀i,(bK.aB i).m=(s.aB i).m:=λi=>by
   grind
  have bL:=apv ab l bK aL (λx W=>ak x (by simp[W])) fR;rw[yO,bi];refine⟨bL.use.trans J,bL.eD.trans T,bL.eV.trans ag,bL.gd.trans aP,bL.dW.trans bH,bL.By,λi=>(bL.bY i).trans (oJ i),λi=>(bL.m i).trans (lO i),λi=> ?_,λh=>(fi (bL.off h)).1,λh=>bL.on (er h),λh=>bL.dS (tr h),?_,λuF mr=> ?_,λgV=>(bL.Ju λx W=>(oJ _).trans (gV x (by simp[W]))).trans (lY (gV k (by simp)))⟩
  ·obtain⟨c,aY,aK,aI,bo⟩:=bL.bT i;rcases cS i with e|⟨aRM,aRN,aRO,e⟩
   ·refine⟨c,by rw[aY,e],by rw[qK];omega,λx W=> ?_,λav bm lD fH eo=> ?_⟩
    ·grind
    ·rcases io.1 fH with rfl|fH
     ·have:=(fi (bL.off av)).2 (by rw[eo];exact bm)
      grind
     grind
   grind
  ·rcases bL.e with e|e
   ·omega
   ·exact .inr e
  ·obtain⟨lD,fH,bm⟩:=mr;rcases io.1 fH with rfl|fH
   ·rcases bL.e with e|e
    ·exact e.trans (ix uF bm)
    ·exact e
   ·exact bL.ok (er uF) ⟨lD,fH,by rw[oJ];exact bm⟩
theorem ago{s:ay}(au:jY q=true){x y:Nat}(aA:q.a=[x,y,x,y])(W:x≠0)(Z:∀i,vQ (s.aB i))(iD:s.P.off=false)(rC:¬((s.aB 0).bY=true/\(s.aB 1).bY=true))(sr:x<n)(bP:tN q b=true)
  (bj:∀i,i<2->(s.aB i).bY=false->Bx (s.aB i) x=b):s.nS n q false=(s,b,0):=by
 have bi:du q 0=x:=by unfold du;rw[aA];rfl
 have T:du q 2=x:=by unfold du;rw[aA];rfl
 have Kf:∀k,(k=0\/k=2)->(s.aB (k / 2)).bY=false->s.iu n q k=some b:=λk r bm=>by
  have ao:du q k=x:=by rcases r with rfl|rfl;exact bi;exact T
  unfold ay.iu;rw[be (by unfold cb.gb;simp[bm,iD]),ao,(Z _).oI,aQ (by simp[bm];omega),bj (k / 2) (by omega) bm];simp[bP]
 have apw:∀k,(s.aB (k / 2)).bY=true->s.iu n q k=none:=λk bm=>by
  unfold ay.iu;rw[aQ (by unfold cb.gb;simp[bm])]
 obtain⟨pre,k,post,e,Qm,r,wy⟩:∃pre k post,eA q.a 4=pre++k::post/\(∀j∈pre,(s.aB (j / 2)).bY=true)/\(k=0\/k=2)/\(s.aB (k / 2)).bY=false:=by
  rw[aA,aac W]
  cases aaf:(s.aB 0).bY with
  |false=>exact⟨[],0,if y=0 then[2]else[1,2,3],by grind,by simp,.inl rfl,aaf⟩
  |true=>
   have oJ:(s.aB 1).bY=false:=by
    cases h:(s.aB 1).bY with
    |false=>rfl
    |true=>exact absurd ⟨aaf,h⟩ rC
   refine⟨if y=0 then[0]else[0,1],2,if y=0 then[]else[3],by grind,λj I=> ?_,.inr rfl,oJ⟩
   grind
 have aH:=Kf k r wy;have EX:s.rz n q (eA q.a 4)=pre++[k]:=by
  rw[e];exact ay.apo n s q (λj I=>apw j (Qm j I)) (by rw[aH];rfl)
 have CF:s.run n q (pre++[k])=⟨s.eV,some b,[]⟩:=by
  rw[ay.Qg];have J:∀l:List Nat,(∀j∈l,(s.aB (j / 2)).bY=true)->l.foldl (s.step n q) ⟨s.eV,none,[]⟩=⟨s.eV,none,[]⟩:=by
   intro l
   induction l with
   |nil=>intro _;rfl
   |cons j l bL=>
    intro ak;have I:=ak j (by simp);rw[yO];have:s.step n q ⟨s.eV,none,[]⟩ j=⟨s.eV,none,[]⟩:=by
     unfold ay.step;rw[apw j I];simp[I]
    grind
  have T:s.run n q pre=⟨s.eV,none,[]⟩:=J pre Qm;rw[T];unfold ay.step;rw[aH];rfl
 unfold ay.nS ay.pS
 simp_all
theorem aDN{s:ay}(au:jY q=true)(h:s.P.off=true\/((s.aB 0).bY=true/\(s.aB 1).bY=true)):∃a',s.nS n q false=({s with eV:=a'},[],21):=by
 have aH:∀k∈eA q.a 4,s.iu n q k=none:=λk r=>by
  have gq:=(MN r).1;have oD:k / 2=0\/k / 2=1:=by omega
  unfold ay.iu;rw[aQ];unfold cb.gb
  grind
 have CF:∀l:List Nat,(∀k∈l,s.iu n q k=none)->∀t:Mv,t.blk=none->(l.foldl (s.step n q) t).blk=none:=by
  intro l
  induction l with
  |nil=>intro _ t bj;exact bj
  |cons k l bL=>
   intro ak t bj;rw[yO];refine bL (λx W=>ak x (by simp[W])) _ ?_;unfold ay.step
   grind
 unfold ay.nS ay.pS;rw[be au,aQ (by decide),ay.apn n s q aH];have:=CF (eA q.a 4) aH ⟨s.eV,none,[]⟩ rfl;have e:(s.run n q (eA q.a 4)).blk=none:=this
 simp_all
end
end Go.Proofs.YtoohkhcpboldjaaGreatDoor
