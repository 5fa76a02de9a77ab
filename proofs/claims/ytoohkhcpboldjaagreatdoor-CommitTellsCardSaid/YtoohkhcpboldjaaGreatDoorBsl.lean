/- A slice of onW value of several cells, built. It speaks of no program. No condition. -/
import Derived.Test.YtoohkhcpboldjaaGreatDoorAncA
set_option linter.unusedSimpArgs false
set_option linter.unusedVariables false
namespace Go.Kin
open Go Go.RowKit
variable {α:Type}
def ei(f:α->Array N)(xs:List α):List N:=xs.flatMap λx=>(f x).toList
def kv(f:α->Array N)(xs:List α):Array N:=(ei f xs).toArray
variable {f:α->Array N}{n:Nat}
theorem St:∀(xs:List α),(∀x∈xs,(f x).size=n)->(ei f xs).length=xs.length*n
 |[],_=>by simp[ei]
 |x::xs,h=>by
  have:=St xs λy ar=>h y (by simp[ar]);have W:=h x (by simp);simp only[ei,Au,kR,qK,wi]at*
  grind
theorem ade{xs:List α}(h:∀x∈xs,(f x).size=n):(kv f xs).size=xs.length*n:=by simp[kv,St xs h]
theorem AG(xs ys:List α):ei f (xs++ys)=ei f xs++ei f ys:=by simp[ei]
theorem Cg(x:α):ei f [x]=(f x).toList:=by simp[ei]
theorem Gk{xs:List α}{k:Nat}{x:α}(r:xs[k]? =some x):ei f xs=ei f (xs.take k)++((f x).toList++ei f (xs.drop (k+1))):=by
 obtain⟨ak,W⟩:=jG.1 r;have:xs=xs.take k++(x::xs.drop (k+1)):=by
  rw[<-W,<-xD ak,FV]
 conv=>lhs;rw[this]
 rw[AG];rfl
theorem OS{xs:List α}(h:∀x∈xs,(f x).size=n){k:Nat}(r:k<=xs.length):(ei f (xs.take k)).length=k*n:=by
 rw[St _ λx W=>h x (DU W),ol,Xm r]
theorem Gl{xs:List α}(h:∀x∈xs,(f x).size=n){k:Nat}{x:α}(r:xs[k]? =some x):(kv f xs).extract (k*n) (k*n+n)=f x:=by
 obtain⟨ak,W⟩:=jG.1 r;apply ip;have J:=OS h (Ly ak);have T:(f x).toList.length=n:=by grind
 rw[Lz,Ea,show(kv f xs).toList=ei f xs by simp[kv],Gk r,WT J,show k*n+n - k*n=n by omega,WU T]
theorem OT{xs:List α}(h:∀x∈xs,(f x).size=n){k i:Nat}{x:α}{u:N}(r:xs[k]? =some x)(ap:(f x)[i]? =some u):(kv f xs)[k*n+i]? =some u:=by
 obtain⟨ak,W⟩:=jG.1 r;have J:=OS h (Ly ak);have ad:=(B'.1 ap).1;rw[kv,yL,Gk r,DV (by omega),J,show k*n+i - k*n=i by omega,LA (by omega),<-ap];simp
theorem ak_{xs:List α}(h:∀x∈xs,(f x).size=n){k:Nat}{y:α}(r:k<xs.length)(ar:(f y).size=n):dT (kv f xs) (k*n) (f y)=kv f (xs.set k y):=by
 have J:=OS h (Ly r);have W:=d_ r;have T:(f xs[k]).toList.length=n:=by grind
 unfold dT;apply ip;have e:(kv f xs).toList=ei f (xs.take k)++((f xs[k]).toList++ei f (xs.drop (k+1))):=by
  rw[<-Gk W];simp[kv]
 have aR:ei f (xs.set k y)=ei f (xs.take k)++((f y).toList++ei f (xs.drop (k+1))):=by
  have fH:(xs.set k y)[k]? =some y:=by grind
  rw[Gk fH,acJ (c_ k),acK (by omega)]
 show _=ei f (xs.set k y)
 grind
theorem awJ{xs:List α}(h:∀x∈xs,(f x).size=n){k i:Nat}{x y:α}{us:Array N}(r:xs[k]? =some x)(ad:i+us.size<=n)(ar:dT (f x) i us=f y)(IM:(f y).size=n):dT (kv f xs) (k*n+i) us=kv f (xs.set k y):=by
 obtain⟨ak,W⟩:=jG.1 r;have J:=OS h (Ly ak);have T:(f x).toList.length=n:=by grind
 unfold dT at*;apply ip;have e:(kv f xs).toList=ei f (xs.take k)++((f x).toList++ei f (xs.drop (k+1))):=by
  rw[<-Gk r];simp[kv]
 have aR:ei f (xs.set k y)=ei f (xs.take k)++((f y).toList++ei f (xs.drop (k+1))):=by
  have fH:(xs.set k y)[k]? =some y:=by grind
  rw[Gk fH,acJ (c_ k),acK (by omega)]
 show _=ei f (xs.set k y);rw[aR,<-ar];simp only[e];rw[List.take_append,J,show k*n+i - k*n=i by omega,mP (by omega),ak6 (by omega),
  show k*n+i+us.size=k*n+(i+us.size)by omega,<-ru,WT J,ak7 (by omega)]
 simp
theorem Su{xs:List α}(h:∀x∈xs,(f x).size=n){k i:Nat}{x y:α}{u:N}(r:xs[k]? =some x)(ad:i<n)(ar:(f x).setIfInBounds i u=f y):(kv f xs).setIfInBounds (k*n+i) u=kv f (xs.set k y):=by
 obtain⟨ak,W⟩:=jG.1 r;have J:=OS h (Ly ak);have T:(f x).toList.length=n:=by grind
 apply ip;have e:(kv f xs).toList=ei f (xs.take k)++((f x).toList++ei f (xs.drop (k+1))):=by
  rw[<-Gk r];simp[kv]
 have aR:ei f (xs.set k y)=ei f (xs.take k)++((f y).toList++ei f (xs.drop (k+1))):=by
  have fH:(xs.set k y)[k]? =some y:=by grind
  rw[Gk fH,acJ (c_ k),acK (by omega)]
 show _=ei f (xs.set k y)
 grind
theorem ak'{xs:List α}(h:∀x∈xs,jx (f x)=true):jx (kv f xs)=true:=yJ (by
 intro u ap;obtain⟨x,W,ap⟩:=acL.1 ap;have:=h x W;unfold jx at this;exact AD.1 this u (by simpa using ap))
theorem ala{P:Program}{t e len:Nat}{kd:IntKind}{k:Nat}{xs:List α}{x:α}(bj:P.underlying t=some (.array len e))(aA:∀w,(sizeOf e).run P w=.ok n w)(ao:∀w,(isAgg e).run P w=.ok true w)
  (h:∀x∈xs,(f x).size=n)(r:k<len)(W:xs[k]? =some x)(w:M):(Instr.index t (.agg (kv f xs)) (.int kd k)).run P w=.ok (.agg (f x)) w:=by
 simp[Instr.index,asIntOf,run_underlying bj,part,aA,ao,r,Gl h W]
theorem alb{P:Program}(w:M)(d:Nat)(t e len:Nat)[DecidableEq α](bj:P.underlying t=some (.array len e))(aA:∀w,(sizeOf e).run P w=.ok n w)(ao:∀w,(isAgg e).run P w=.ok true w)
  (xs ys:List α)(W:xs.length=len)(ar:ys.length=len)(awK:∀x∈xs,(f x).size=n)(awL:∀x∈ys,(f x).size=n)
  (ho:∀x∈xs,∀y∈ys,(Op.equalIn d e (.agg (f x)) (.agg (f y))).run P w=.ok (decide (x=y)) w):
  (Op.equalIn (d+1) t (.agg (kv f xs)) (.agg (kv f ys))).run P w=.ok (decide (xs=ys)) w:=by
 rw[Op.equalIn];simp only[Sem.run_bind,run_underlying bj,Result.andThen_ok,aA];rw[Std.Legacy.Range.forIn_eq_forIn_range'];have key:∀(m s:Nat),s+m=len->(forIn (List.range' s m 1) ((none,()):Option Bool×Unit) (λi _=>do
     let a<-part e (kv f xs) (i*n);let b<-part e (kv f ys) (i*n);let V<-Op.equalIn d e a b
     if(!V)=true then pure (ForInStep.done (some false,()))else pure (ForInStep.yield (none,()))):Sem (Option Bool×Unit)).run P w=.ok (if xs.drop s=ys.drop s then(none,())else(some false,())) w:=by
  intro m
  induction m with
  |zero=>
   intro s adf;have J:xs.drop s=[]:=Xn.2 (by omega);have T:ys.drop s=[]:=Xn.2 (by omega);simp[J,T]
  |succ m bL=>
   intro s adf;have LH:s<xs.length:=by omega
   have Gm:s<ys.length:=by omega
   rw[List.range'_succ];have oY:(part e (kv f xs) (s*n)).run P w=.ok (.agg (f xs[s])) w:=by simp[part,ao,aA,Gl awK (d_ LH)]
   have jH:(part e (kv f ys) (s*n)).run P w=.ok (.agg (f ys[s])) w:=by simp[part,ao,aA,Gl awL (d_ Gm)]
   simp only[List.forIn_cons,Sem.run_bind,oY,jH,Result.andThen_ok,ho _ (wj LH) _ (wj Gm)];have aL:=xD LH;have aR:=xD Gm;rw[aL,aR];by_cases au:xs[s]=ys[s]
   ·have:=bL (s+1) (by omega);simp only[au,decide_true,Sb,wk,if_false,Sem.run_pure,Result.andThen_ok,this,List.cons.injEq,true_and]
   ·have dn:¬(xs[s]::xs.drop (s+1)=ys[s]::ys.drop (s+1)):=λh=>au (List.cons.inj h).1
    simp_all
 rw[show List.range' (Std.Legacy.Range.start [:len]) (Std.Legacy.Range.size [:len]) (Std.Legacy.Range.step [:len])=List.range' 0 len 1 by simp[Std.Legacy.Range.size]];rw[key len 0 (by omega)];by_cases au:xs=ys<;>simp[au]
theorem alc{P:Program}{t e len size:Nat}{yS:List (Nat×N)}{w:M}{K:N->M->Prop}{cs:Array N}(bj:P.underlying t=some (.array len e))(hz:(P.info? t).map (λi=>i.zero.isSome)=some true)
  (aA:∀w,(sizeOf e).run P w=.ok size w)(bP:jw (λi=>some (i*size,size)) (kN P t) yS=some cs):jb P t yS w K=K (.agg cs) w:=by
 unfold jb gH
 cases au:P.info? t with
 |none=>simp[au]at hz
 |some i=>
  cases ad:i.zero with
  |none=>simp[au,ad]at hz
  |some v=>
   have Ch:kN P t=v.cells:=by unfold kN;simp[au,ad]
   simp only[Ch,<-XR]at bP;simp only[Instr.build,zeroValue,typeInfo,Sem.run_bind,run_program,Result.andThen_ok,au,ad,Sem.run_pure,run_underlying bj,aA,bP]
end Go.Kin
namespace Go.Proofs.YtoohkhcpboldjaaGreatDoor
open Go.RowKit Go.Kin Tryz
def cn(ps:List Pt):Array N:=kv ae ps
structure iJ(ps:List Pt):Prop where
 len:ps.length=8
 all:∀p∈ps,cc p
def eE:List Pt:=List.replicate 8 ah
theorem rA:iJ eE:=⟨rfl,λp am=>by rw[(IB.1 am).2];exact cH⟩
section
variable {ps:List Pt}
theorem iJ.kw(h:iJ ps):∀p∈ps,(ae p).size=41:=λp am=>cd (h.all p am)
theorem ll(h:iJ ps):(cn ps).size=328:=by unfold cn;rw[ade h.kw,h.len]
@[simp] theorem aQc(ps:List Pt):jx (cn ps)=true:=ak' λp _=>wc p
theorem se(h:iJ ps):(cn ps).extract 0 328=cn ps:=by rw[<-ll h];simp
theorem adg(h:iJ ps){k:Nat}{p:Pt}(r:ps[k]? =some p):(cn ps).extract (k*41) (k*41+41)=ae p:=Gl h.kw r
theorem ald(h:iJ ps){k:Nat}{p:Pt}(r:k<8)(ok:cc p):dT (cn ps) (k*41) (ae p)=cn (ps.set k p):=ak_ h.kw (by rw[h.len];exact r) (cd ok)
theorem iJ.set(h:iJ ps)(k:Nat){p:Pt}(ok:cc p):iJ (ps.set k p):=⟨by simp[h.len],λq au=>by
 rcases Xo au with J|rfl
 ·exact h.all q J
 ·exact ok⟩
theorem iJ.dI(h:iJ ps){k:Nat}(r:k<8):∃p,ps[k]? =some p/\cc p:=⟨_,d_ (by rw[h.len];exact r),h.all _ (wj _)⟩
end
theorem uh:(prog.info? 339).map (λi=>i.zero.isSome)=some true:=by kernel_rfl
theorem ui:kN prog 339=cn eE:=by kernel_rfl
theorem Sv{w:M}{K:N->M->Prop}:jb prog 339 [] w K=K (.agg (cn eE)) w:=
 alc underlying339 uh Tryz.sizeOf44 (by simp[jw,ui])
theorem ale(w:M){ps wn:List Pt}(am:iJ ps)(au:iJ wn):(Op.equalIn 10000 339 (.agg (cn ps)) (.agg (cn wn))).run prog w=.ok (decide (ps=wn)) w:=
 alb w 9999 _ _ 8 underlying339 Tryz.sizeOf44 Tryz.isAgg44 ps wn am.len au.len am.kw au.kw λx W y ar=>RN w 9996 (am.all x W) (au.all y ar)
theorem adh{ps:List Pt}(h:iJ ps){k:Nat}{p:Pt}(r:k<8)(W:ps[k]? =some p)(w:M):(Instr.index 339 (.agg (cn ps)) (aa k)).run prog w=.ok (.agg (ae p)) w:=
 ala underlying339 Tryz.sizeOf44 Tryz.isAgg44 h.kw r W w
def gI(p:Pt):Bool:=decide (p=ah)||jY p
theorem awM(ps:List Pt)(w:M)(ok:iJ ps):bc prog 243 #[.agg (cn ps)] w λv' w'=>v'=.bool (decide (ps=eE))/\H al w w':=by
 refine bz func243 ntmps243 λbk af=> ?_;have cU:=ll ok;have gV:=se ok;have ho:=λw=>ale w ok rA;have Z:=(H.refl al w).alloc (.cells (cn ps) 339);simp[go_sem,cU,gV,Sv,ho];exact af _ _ ⟨rfl,Z⟩
theorem adi(ps:List Pt)(i:Int)(p:Pt)(w:M)(ok:iJ ps)(hS:cc p):bc prog 213 #[.agg (cn ps),aa i,.agg (ae p)] w λv' w'=>v'=.agg (cn (if 0<=i/\i<8 then ps.set i.toNat p else ps))/\H al w w':=by
 refine bz func213 ntmps213 λbk af=> ?_;have cU:=ll ok;have gV:=se ok;have gF:=cd hS;have AH:=ef hS;have Z:=((((H.refl al w).alloc (.cells (cn ps) 339)).alloc (.cells (ae p) 44)).alloc (.cells (cn eE) 339));have bu:=alf w (.cells (cn ps) 339) (.cells (ae p) 44) (.cells (cn eE) 339);have bt:=alg w (.cells (cn ps) 339) (.cells (ae p) 44) (.cells (cn eE) 339);have cY:=alh w (.cells (cn ps) 339) (.cells (ae p) 44) (.cells (cn eE) 339);have hz:=ll rA;have ic:=se rA;have e:(w.1.size+1)+1=w.1.size+2:=rfl;by_cases bi:0<=i
 ·by_cases er:i<8
  ·rw[be ⟨bi,er⟩]at af;obtain⟨k,rfl⟩:=Int.eq_ofNat_of_zero_le bi;have r:k<8:=by omega
   have sf:=ok.set k hS;simp[go_sem,uh,ui,er];revert Z bu bt cY;generalize((w.alloc (.cells (cn ps) 339)).alloc (.cells (ae p) 44)).alloc (.cells (cn eE) 339)=ai;generalize aH:w.1.size=g;intro Z bu bt cY;have adj:(ai.setRow g (cn (ps.set k p))).1[g]? =some (.cells (cn (ps.set k p)) 339 (0,0)):=by rw[gh,bu];rfl
   have IN:(ai.setRow g (cn (ps.set k p))).1[g+1+1]? =some (.cells (cn eE) 339 (0,0)):=by rw[adk _ _ _ _ (by omega)];exact cY
   have cK:((ai.setRow g (cn (ps.set k p))).setRow (g+1+1) (cn (ps.set k p))).1[g+1+1]? =some (.cells (cn (ps.set k p)) 339 (0,0)):=by rw[gh,IN];rfl
   simp[go_sem,bu,bt,cY,cU,gF,AH,er,r,ald ok r hS,adj,IN,ll sf,se sf,hz,bS,cK,show k*41+41<=328 by omega];exact af _ _ ⟨by simp,(Z.setRow (.inr (by omega)) _).setRow (.inr (by omega)) _⟩
  ·rw[aQ (by omega)]at af;simp[go_sem,uh,ui,bi,er];revert Z bu bt cY;generalize((w.alloc (.cells (cn ps) 339)).alloc (.cells (ae p) 44)).alloc (.cells (cn eE) 339)=ai;generalize aH:w.1.size=g;intro Z bu bt cY;have IN:ai.1[g+1+1]? =some (.cells (cn eE) 339 (0,0)):=cY;have cK:(ai.setRow (g+1+1) (cn ps)).1[g+1+1]? =some (.cells (cn ps) 339 (0,0)):=by rw[gh,IN];rfl
   simp[go_sem,bu,IN,cU,gV,hz,bS,cK];exact af _ _ ⟨rfl,Z.setRow (.inr (by omega)) _⟩
 ·rw[aQ (by omega)]at af;simp[go_sem,uh,ui,bi];revert Z bu bt cY;generalize((w.alloc (.cells (cn ps) 339)).alloc (.cells (ae p) 44)).alloc (.cells (cn eE) 339)=ai;generalize aH:w.1.size=g;intro Z bu bt cY;have IN:ai.1[g+1+1]? =some (.cells (cn eE) 339 (0,0)):=cY;have cK:(ai.setRow (g+1+1) (cn ps)).1[g+1+1]? =some (.cells (cn ps) 339 (0,0)):=by rw[gh,IN];rfl
  simp[go_sem,bu,IN,cU,gV,hz,bS,cK];exact af _ _ ⟨rfl,Z.setRow (.inr (by omega)) _⟩
structure bF where
 k:Nat
 n:Nat
 s:Nat
 V:Pt
deriving DecidableEq
def aZ(x:bF):Array N:=(.int .u8 x.k::.int .u16 x.n::.int .u32 x.s::(ae x.V).toList).toArray
structure fu(x:bF):Prop where
 k:x.k<256
 n:x.n<65536
 s:x.s<4294967296
 V:cc x.V
def bp:bF:=⟨0,0,0,ah⟩
theorem jy:fu bp:=⟨by decide,by decide,by decide,cH⟩
section
variable {x:bF}
theorem hA(ok:fu x):(aZ x).size=44:=by
 have:=cd ok.V;simp[aZ,this]
@[simp] theorem Sw(x:bF):jx (aZ x)=true:=yJ (by
 intro u ap;simp only[io]at ap;rcases ap with rfl|rfl|rfl|ap
 ·rfl
 ·rfl
 ·rfl
 ·have:=wc x.V;unfold jx at this;exact AD.1 this u (by simpa using ap))
theorem tj(ok:fu x):(aZ x).extract 0 44=aZ x:=by rw[<-hA ok];simp
theorem Gn:(aZ x)[0]? =some (.int .u8 x.k):=by simp[aZ]
theorem LI:(aZ x)[1]? =some (.int .u16 x.n):=by simp[aZ]
theorem LJ:(aZ x)[2]? =some (.int .u32 x.s):=by simp[aZ]
@[simp] theorem aQd(h:0<(aZ x).size):(aZ x)[0]=.int .u8 x.k:=by simp[aZ]
@[simp] theorem aQe(h:1<(aZ x).size):(aZ x)[1]=.int .u16 x.n:=by simp[aZ]
@[simp] theorem aQf(h:2<(aZ x).size):(aZ x)[2]=.int .u32 x.s:=by simp[aZ]
@[simp] theorem aQg(h:3<(aZ x).size):(aZ x)[3]=.int .u8 x.V.k:=by simp[aZ,ae]
@[simp] theorem aQh(h:4<(aZ x).size):(aZ x)[4]=.int .u8 x.V.l:=by simp[aZ,ae]
theorem IP(ok:fu x):(aZ x).extract 3 44=ae x.V:=by
 have:=cd ok.V;apply ip;simp[aZ,this];rw[mP (by simp[this])]
theorem XS{q:Pt}(ok:fu x)(ov:cc q):dT (aZ x) 3 (ae q)=aZ {x with V:=q}:=by
 have J:=cd ok.V;have T:=cd ov;apply ip;simp[dT,aZ,J,T]
theorem awN(k:Nat):(aZ x).setIfInBounds 0 (.int .u8 k)=aZ {x with k:=k}:=by simp[aZ]
theorem awO(n:Nat):(aZ x).setIfInBounds 1 (.int .u16 n)=aZ {x with n:=n}:=by simp[aZ]
theorem awP(s:Nat):(aZ x).setIfInBounds 2 (.int .u32 s)=aZ {x with s:=s}:=by simp[aZ]
end
theorem uj:(prog.info? 113).map (λi=>i.zero.isSome)=some true:=by kernel_rfl
theorem uk:kN prog 113=aZ bp:=by kernel_rfl
theorem Ef{w:M}{K:N->M->Prop}:jb prog 113 [] w K=K (.agg (aZ bp)) w:=
 ma underlying113 uj (places:=#[(0,1),(1,1),(2,1),(3,41)]) (by simp[go_sem]) (by simp[jw,uk])
theorem awQ(k n s:Nat):dT (dT (dT (aZ bp) 0 #[.int .u8 k]) 1 #[.int .u16 n]) 2 #[.int .u32 s]=aZ ⟨k,n,s,ah⟩:=by simp[dT,aZ,bp]
theorem awR(k n:Nat):dT (dT (aZ bp) 0 #[.int .u8 k]) 1 #[.int .u16 n]=aZ ⟨k,n,0,ah⟩:=by simp[dT,aZ,bp]
theorem awS(x:bF)(ok:fu x){w:M}{K:N->M->Prop}:jb prog 113 [(0,.int .u8 x.k),(1,.int .u16 x.n),(2,.int .u32 x.s),(3,.agg (ae x.V))] w K=K (.agg (aZ x)) w:=by
 refine ma underlying113 uj (places:=#[(0,1),(1,1),(2,1),(3,41)]) (by simp[go_sem]) ?_;have hz:=hA jy;have ag:fu ⟨x.k,x.n,x.s,ah⟩:=⟨ok.k,ok.n,ok.s,cH⟩;have am:=cd ok.V;have aP:=hA ag;simp[jw,uk,Value.cells,hz,uf,awQ,XS ag ok.V,am,aP]
theorem ali(w:M)(d:Nat){x y:bF}(W:fu x)(ar:fu y):(Op.equalIn (d+4) 113 (.agg (aZ x)) (.agg (aZ y))).run prog w=.ok (decide (x=y)) w:=by
 have aL:∀w,(Op.equalIn (d+3) 44 (.agg (ae x.V)) (.agg (ae y.V))).run prog w=.ok (decide (x.V=y.V)) w:=λw=>RN w d W.V ar.V;have Z:∀a b:Nat,((a:Int)==(b:Int))=decide (a=b):=λa b=>by
  grind
 rw[Op.equalIn];simp[go_sem,Gn,LI,LJ,IP W,IP ar,aL,Z];obtain⟨k,n,s,V⟩:=x;obtain⟨lD,fB,s',OU⟩:=y;simp only[bF.mk.injEq]
 grind
theorem Sx(w:M){x y:bF}(W:fu x)(ar:fu y):(Op.equalIn 10000 113 (.agg (aZ x)) (.agg (aZ y))).run prog w=.ok (decide (x=y)) w:=ali w 9996 W ar
def dL(xs:List bF):Array N:=kv aZ xs
structure me(xs:List bF):Prop where
 len:xs.length=4
 all:∀x∈xs,fu x
def hm:List bF:=List.replicate 4 bp
theorem yT:me hm:=⟨rfl,λp am=>by rw[(IB.1 am).2];exact jy⟩
section
variable {xs:List bF}
theorem me.kw(h:me xs):∀x∈xs,(aZ x).size=44:=λx W=>hA (h.all x W)
theorem xF(h:me xs):(dL xs).size=176:=by unfold dL;rw[ade h.kw,h.len]
@[simp] theorem aQi(xs:List bF):jx (dL xs)=true:=ak' λp _=>Sw p
theorem IQ(h:me xs):(dL xs).extract 0 176=dL xs:=by rw[<-xF h];simp
theorem awT(h:me xs){k:Nat}{x:bF}(r:xs[k]? =some x):(dL xs).extract (k*44) (k*44+44)=aZ x:=Gl h.kw r
theorem awU(h:me xs){k:Nat}{x:bF}(r:k<4)(ok:fu x):dT (dL xs) (k*44) (aZ x)=dL (xs.set k x):=ak_ h.kw (by rw[h.len];exact r) (hA ok)
theorem me.set(h:me xs)(k:Nat){x:bF}(ok:fu x):me (xs.set k x):=⟨by simp[h.len],λq au=>by
 rcases Xo au with J|rfl
 ·exact h.all q J
 ·exact ok⟩
theorem me.dI(h:me xs){k:Nat}(r:k<4):∃x,xs[k]? =some x/\fu x:=⟨_,d_ (by rw[h.len];exact r),h.all _ (wj _)⟩
end
theorem Gp:(prog.info? 279).map (λi=>i.zero.isSome)=some true:=by kernel_rfl
theorem Gq:kN prog 279=dL hm:=by kernel_rfl
theorem Gr{w:M}{K:N->M->Prop}:jb prog 279 [] w K=K (.agg (dL hm)) w:=
 alc underlying279 Gp Tryz.sizeOf113 (by simp[jw,Gq])
theorem adl(w:M){xs ys:List bF}(am:me xs)(au:me ys):(Op.equalIn 10000 279 (.agg (dL xs)) (.agg (dL ys))).run prog w=.ok (decide (xs=ys)) w:=
 alb w 9999 _ _ 4 underlying279 Tryz.sizeOf113 Tryz.isAgg113 xs ys am.len au.len am.kw au.kw λx W y ar=>ali w 9995 (am.all x W) (au.all y ar)
theorem alj{xs:List bF}(h:me xs){k:Nat}{x:bF}(r:k<4)(W:xs[k]? =some x)(w:M):(Instr.index 279 (.agg (dL xs)) (aa k)).run prog w=.ok (.agg (aZ x)) w:=
 ala underlying279 Tryz.sizeOf113 Tryz.isAgg113 h.kw r W w
def ow(V:Pt):Bool:=decide (V=ah)||(jY V&&decide (V.k=3)&&decide (V.l=2))
def fc(x:bF):Bool:=
 if x.k=0 then decide (x=bp)else if x.k=3 then(decide (x.s≠0)&&decide (x.s<=128)&&ow x.V)else if x.k=1\/x.k=2 then(decide (x.s<=32768)&&ow x.V)else false
theorem awV{x:bF}(h:fc x=true):x.V=ah\/jY x.V=true:=by
 have ax:∀V,ow V=true->V=ah\/jY V=true:=λV h=>by
  unfold ow at h
  grind
 unfold fc at h;split at h
 ·rw[Xp h];exact .inl rfl
 grind
theorem XT(x:bF)(w:M)(ok:fu x)(bM:mb w):bc prog 109 #[.agg (aZ x)] w λv' w'=>v'=.bool (fc x)/\H al w w':=by
 refine bz func109 ntmps109 λbk af=> ?_;have aA:=hA ok;have ao:=tj ok;have ax:=IP ok;have pE:=cd ok.V;have AI:=ef ok.V;have ho:=λw=>Sx w ok jy;have tk:=λw=>tc w ok.V cH;have ID:=λw=>tc w cH cH;have aY:=(H.refl al w).alloc (.cells (aZ x) 113);have XU:∀a b:Nat,((a:Int)==(b:Int))=IR a b:=λa b=>by
  by_cases h:a=b
  ·simp[h,IR]
  ·rw[hv (by omega),AJ h]
 have hT:∀a:Nat,((a:Int)==0)=IR a 0:=λa=>XU a 0;have cZ:∀a:Nat,((a:Int)==1)=IR a 1:=λa=>XU a 1;have dm:∀a:Nat,((a:Int)==2)=IR a 2:=λa=>XU a 2;have fm:∀a:Nat,((a:Int)==3)=IR a 3:=λa=>XU a 3;simp[go_sem,Gn];have bu:=cr w (.cells (aZ x) 113);revert bu aY;generalize w.alloc (.cells (aZ x) 113)=ai;generalize w.1.size=g;intro aY bu;have aR:=(aG bu 2).trans LJ;have dx:=bM.ch aY id;by_cases k0:x.k=0
 ·have fa:=Ci k0;simp[go_sem,hT,fa,bu,aA,ao,Ef,ho];exact af _ _ ⟨by simp[fc,k0],aY⟩
 have fa:=AJ k0;by_cases bA:x.k=3
 ·have jd:=Ci bA;by_cases wo:x.s=0
  ·have wn:=Ci wo;simp[go_sem,hT,fm,fa,jd,wn,aR];exact af _ _ ⟨by simp[fc,bA,wo],aY⟩
  have wn:=AJ wo;have aC:fc x=(decide (x.s<=128)&&ow x.V):=by simp[fc,bA,wo]
  have aK:=aY.alloc (.cells (ae x.V) 44);have Cj:=λo=>((H.refl al ai).alloc o).cell aR id;have cY:=cr ai (.cells (ae x.V) 44);by_cases eh:x.s<=128
  ·have ie:(x.s:Int)<=128:=by omega
   by_cases hz:x.V=ah
   ·simp[go_sem,hT,fm,fa,jd,wn,aR,Cj,bu,aA,ax,gO,gP,cd cH,pE,bS,ie,AI,ef cH,l',tk,ID,hz]
    try rw[hz]at aK
    exact af _ _ ⟨by rw[aC];simp[eh,ow,hz],aK⟩
   ·simp[go_sem,hT,fm,fa,jd,wn,aR,Cj,bu,aA,ax,gO,gP,cd cH,pE,bS,ie,AI,ef cH,l',tk,ID,hz];refine(DY x.V _ ok.V (bM.ch aK id)).mono ?_;rintro _ aJ ⟨rfl,aI⟩;have cK:=aI.am cY id;have gW:=(aG cK 0).trans FW;have dc:=(aG cK 1).trans Iu
    cases Eg:jY x.V
    ·simp[go_sem];exact af _ _ ⟨by rw[aC];simp[ow,hz,Eg],aK.trans aI⟩
    ·by_cases ag:x.V.k=3
     ·have cp:=Ci ag;by_cases T:x.V.l=2
      ·have cj:=Ci T;simp[go_sem,gW,dc,fm,dm,cp,cj];exact af _ _ ⟨by rw[aC];simp[eh,ow,Eg,ag,T],aK.trans aI⟩
      ·have cj:=AJ T;simp[go_sem,gW,dc,fm,dm,cp,cj];exact af _ _ ⟨by rw[aC];simp[ow,hz,T],aK.trans aI⟩
     ·have cp:=AJ ag;simp[go_sem,gW,fm,cp];exact af _ _ ⟨by rw[aC];simp[ow,hz,ag],aK.trans aI⟩
  ·have ie:¬(x.s:Int)<=128:=by omega
   simp[go_sem,hT,fm,fa,jd,wn,aR,Cj,bu,aA,ax,gO,gP,cd cH,pE,bS,ie];exact af _ _ ⟨by rw[aC];simp[eh],aK⟩
 have jd:=AJ bA;by_cases bn:x.k=1
 ·have hf:=Ci bn;have aC:fc x=(decide (x.s<=32768)&&ow x.V):=by simp[fc,bn]
  have aK:=aY.alloc (.cells (ae x.V) 44);have Cj:=λo=>((H.refl al ai).alloc o).cell aR id;have cY:=cr ai (.cells (ae x.V) 44);by_cases eh:x.s<=32768
  ·have ie:(x.s:Int)<=32768:=by omega
   by_cases hz:x.V=ah
   ·simp[go_sem,hT,cZ,fm,fa,hf,jd,aR,Cj,bu,aA,ax,gO,gP,cd cH,pE,bS,ie,AI,ef cH,l',tk,ID,hz]
    try rw[hz]at aK
    exact af _ _ ⟨by rw[aC];simp[eh,ow,hz],aK⟩
   ·simp[go_sem,hT,cZ,fm,fa,hf,jd,aR,Cj,bu,aA,ax,gO,gP,cd cH,pE,bS,ie,AI,ef cH,l',tk,ID,hz];refine(DY x.V _ ok.V (bM.ch aK id)).mono ?_;rintro _ aJ ⟨rfl,aI⟩;have cK:=aI.am cY id;have gW:=(aG cK 0).trans FW;have dc:=(aG cK 1).trans Iu
    cases Eg:jY x.V
    ·simp[go_sem];exact af _ _ ⟨by rw[aC];simp[ow,hz,Eg],aK.trans aI⟩
    ·by_cases ag:x.V.k=3
     ·have cp:=Ci ag;by_cases T:x.V.l=2
      ·have cj:=Ci T;simp[go_sem,gW,dc,fm,dm,cp,cj];exact af _ _ ⟨by rw[aC];simp[eh,ow,Eg,ag,T],aK.trans aI⟩
      ·have cj:=AJ T;simp[go_sem,gW,dc,fm,dm,cp,cj];exact af _ _ ⟨by rw[aC];simp[ow,hz,T],aK.trans aI⟩
     ·have cp:=AJ ag;simp[go_sem,gW,fm,cp];exact af _ _ ⟨by rw[aC];simp[ow,hz,ag],aK.trans aI⟩
  ·have ie:¬(x.s:Int)<=32768:=by omega
   simp[go_sem,hT,cZ,fm,fa,hf,jd,aR,Cj,bu,aA,ax,gO,gP,cd cH,pE,bS,ie];exact af _ _ ⟨by rw[aC];simp[eh],aK⟩
 have hf:=AJ bn;by_cases bh:x.k=2
 ·have eI:=Ci bh;have aC:fc x=(decide (x.s<=32768)&&ow x.V):=by simp[fc,bh]
  have aK:=aY.alloc (.cells (ae x.V) 44);have Cj:=λo=>((H.refl al ai).alloc o).cell aR id;have cY:=cr ai (.cells (ae x.V) 44);by_cases eh:x.s<=32768
  ·have ie:(x.s:Int)<=32768:=by omega
   by_cases hz:x.V=ah
   ·simp[go_sem,hT,cZ,dm,fm,fa,hf,eI,jd,aR,Cj,bu,aA,ax,gO,gP,cd cH,pE,bS,ie,AI,ef cH,l',tk,ID,hz]
    try rw[hz]at aK
    exact af _ _ ⟨by rw[aC];simp[eh,ow,hz],aK⟩
   ·simp[go_sem,hT,cZ,dm,fm,fa,hf,eI,jd,aR,Cj,bu,aA,ax,gO,gP,cd cH,pE,bS,ie,AI,ef cH,l',tk,ID,hz];refine(DY x.V _ ok.V (bM.ch aK id)).mono ?_;rintro _ aJ ⟨rfl,aI⟩;have cK:=aI.am cY id;have gW:=(aG cK 0).trans FW;have dc:=(aG cK 1).trans Iu
    cases Eg:jY x.V
    ·simp[go_sem];exact af _ _ ⟨by rw[aC];simp[ow,hz,Eg],aK.trans aI⟩
    ·by_cases ag:x.V.k=3
     ·have cp:=Ci ag;by_cases T:x.V.l=2
      ·have cj:=Ci T;simp[go_sem,gW,dc,fm,dm,cp,cj];exact af _ _ ⟨by rw[aC];simp[eh,ow,Eg,ag,T],aK.trans aI⟩
      ·have cj:=AJ T;simp[go_sem,gW,dc,fm,dm,cp,cj];exact af _ _ ⟨by rw[aC];simp[ow,hz,T],aK.trans aI⟩
     ·have cp:=AJ ag;simp[go_sem,gW,fm,cp];exact af _ _ ⟨by rw[aC];simp[ow,hz,ag],aK.trans aI⟩
  ·have ie:¬(x.s:Int)<=32768:=by omega
   simp[go_sem,hT,cZ,dm,fm,fa,hf,eI,jd,aR,Cj,bu,aA,ax,gO,gP,cd cH,pE,bS,ie];exact af _ _ ⟨by rw[aC];simp[eh],aK⟩
 have eI:=AJ bh;simp[go_sem,hT,cZ,dm,fm,fa,hf,eI,jd];exact af _ _ ⟨by simp[fc,k0,bn,bh,bA],aY⟩
def ul(x:bF):List UInt8:=[UInt8.ofNat x.k,0]++(ci x.n 2++(ci x.s 4++(kf x.V++dh 56)))
theorem alk(x:bF):ul x=ci x.k 1++(dh 1++(ci x.n 2++(ci x.s 4++(kf x.V++dh 56)))):=rfl
theorem alm{x:bF}(ok:fu x):(ul x).length=128:=by
 rw[alk];simp[ku,DR ok.V,nu]
theorem awW(x:bF)(v:N)(n:Nat)(l:List UInt8)(w:M)(ok:fu x)(aq:n<=900000)(ak:l.length=n)(fG:w.ownsRow 0 5 1 v n (br l)):
  bc prog 247 #[.agg (aZ x),v] w (jc w v n l 128 (ul x)):=by
 have hU:=adm fG;have cu:=bC.len (bC.fF fG) underlying101 3;have dx:IntKind.i64.wrap ((n:Int)+128)=((n+128:Nat):Int):=by simp[cz];omega
 have aA:=hA ok;have ax:=IP ok;refine bz func247 ntmps247 λbk af=> ?_;simp[go_sem,cu,dx];have ab:=cr w (.cells (aZ x) 113);have Z:=(H.refl al w).alloc (.cells (aZ x) 113);have LK:=fG.alloc (.cells (aZ x) 113);revert ab Z LK;generalize w.alloc (.cells (aZ x) 113)=ai;generalize aH:w.1.size=g;intro ab Z LK;have xG:=(aG ab 0).trans Gn;have xH:=(aG ab 1).trans LI;refine cT [F 0,F 1,F 2,F 5,F 6,(3,some [0,5,6]),(4,some [5,6]),(7,some []),F 8] ?_;have hV:=((H.refl al ai).alloc (.cells #[.int .u8 x.k,.int .u8 0] 5)).drew;have awX:=hV.cell xH id;simp[go_sem,xG,xH,awX];have au:(ai.alloc (.cells #[.int .u8 x.k,.int .u8 0] 5)).drew.1[ai.1.size]? =some (.cells #[.int .u8 x.k,.int .u8 0] 5 (0,0)):=by simp
 have LL:(ai.alloc (.cells #[.int .u8 x.k,.int .u8 0] 5)).drew.ownsRow 0 5 1 v n (br l):=LK.alloc _;have dm:=hV.am ab id;have LM:=Z.trans hV;revert au LL dm LM;generalize(ai.alloc (.cells #[.int .u8 x.k,.int .u8 0] 5)).drew=an;intro au LL dm LM;have ox:[Value.int .u8 x.k,.int .u8 0]=br [UInt8.ofNat x.k,0]:=by
  have J:=ok.k;simp[br,adn,ce];omega
 refine Lx lE LL (y:=.slice (some ⟨ai.1.size,0,none⟩) 2 2) (m:=2) (ys:=br [UInt8.ofNat x.k,0]) (bC.Gb au (c_ _) (by decide) (by rw[<-ox];rfl)) rfl (AB _) (by unfold maxLen;omega) (by omega) λv3 aJ ex fJ jZ=> ?_;have lm:jc an v n l 2 [UInt8.ofNat x.k,0] v3 aJ:=⟨by rw[Gc];exact ex,fJ,jZ⟩;have fK:∀{v' w' m ys},jc an v n l m ys v' w'->w'.1[g]? =some (.cells (aZ x) 113 (0,0)):=λh=>h.2.1.am dm λe=>by have:=hU _ e;omega
 have awY:=(aG (fK lm) 1).trans LI;simp[go_sem,awY];refine(Xk v3 (n+2) (l++[UInt8.ofNat x.k,0]) x.n aJ ok.n (by omega) lm.1).mono ?_;intro v4 bs fQ;have nC:=lm.trans fQ;have cI:=fK nC;simp[go_sem];refine cT [F 0,F 1,F 2,F 4,F 5,F 7,(3,some [4,5,7]),(6,some [7]),(8,some []),F 9] ?_;have ado:=(aG cI 2).trans LJ;simp[go_sem,ado,cI,aA,ax];refine(aln v4 _ _ x.s bs.drew ok.s (by omega) nC.1).mono ?_;intro v5 bD hw;have LN:=nC.trans (jc.from (H.refl al bs).drew hw);have dG:=fK LN;simp[go_sem,dG,aA,ax];have XV:(l++([UInt8.ofNat x.k,0]++ci x.n 2++ci x.s 4)).length=n+(2+2+4):=by simp[ak,ku]
 refine(XW v5 _ _ x.V bD ok.V (by omega) XV LN.1).mono ?_;intro oy cD vj;have OV:=LN.trans vj;simp[go_sem];have qg:(l++([UInt8.ofNat x.k,0]++ci x.n 2++ci x.s 4++kf x.V)).length=n+(2+2+4+64):=by simp[ak,ku,DR ok.V]
 refine(Xl oy _ _ ((n:Int)+128) cD (by omega) (by omega) qg OV.1).mono ?_;intro v9 db Sy;have LO:=OV.trans Sy;have nD:((n:Int)+128).toNat -(n+(2+2+4+64))=56:=by omega
 rw[nD]at LO;simp[go_sem];refine af _ _ (jc.from LM ?_);have am:[UInt8.ofNat x.k,0]++ci x.n 2++ci x.s 4++kf x.V++List.replicate 56 0=ul x:=by
  simp only[ul,nv];rfl
 rw[am]at LO;exact LO
def my(xs:List bF):List UInt8:=xs.flatMap ul
theorem Sz:∀(xs:List bF),(∀x∈xs,fu x)->(my xs).length=128*xs.length
 |[],_=>rfl
 |p::ps,h=>by
  have:=Sz ps λq au=>h q (by simp[au]);have am:=alm (h p (by simp));simp only[my,Au,kR,qK]at*;rw[this,am];omega
theorem awZ(n:Nat):madeCells (Value.int .u8 0).cells (n*1)=(br (dh n)).toArray:=by
 apply ip;apply yM;intro i;simp[madeCells,dh,br,ce,Value.cells]
 grind
theorem aw0(n:Nat)(w:M)(aq:n<=1000000):(Instr.makeSlice 101 (aa n) (aa n)).run prog w=.ok (.slice (some ⟨w.1.size,0,none⟩) n n) (w.alloc (.cells (br (dh n)).toArray 5)):=by
 have J:(prog.info? 5).isSome=true:=by kernel_rfl
 obtain⟨i,ad⟩:=IG.1 J;have T:(prog.info? 5).map (·.size)=some 1:=by kernel_rfl
 have ag:(prog.info? 5).map (·.bytes)=some 1:=by kernel_rfl
 have aP:(prog.info? 5).bind (·.zero)=some (.int .u8 0):=by kernel_rfl
 rw[ad]at T ag aP;simp at T ag aP;have:=run_makeSlice (P:=prog) w 101 5 i _ underlying101 ad aP .i64 .i64 n n (by omega) (Xq _) (by rw[T];omega) (by rw[ag];omega) (by omega);rw[this,T];simp only[Ca,awZ]
theorem aw1:my hm=dh 512:=by decide+kernel
theorem alo:hm.all fc=true:=by decide
def qO(w:M):Prop:=∀i z,([0,1,2,2]:List Int)[i]? =some z->w.cell? (bl 1 i)=some (.int .u8 z)
theorem qO.ch{S:Nat->Prop}{w w':M}(h:qO w)(Z:H S w w')(aq:¬S 1):qO w':=λi z hz=>Z.cell (h i z hz) aq
def jQ(k:Nat):Nat:=if k=1 then 1 else if k=2\/k=3 then 2 else 0
theorem aw2(k:Nat)(w:M)(r:k<256)(ak:qO w):bc prog 141 #[.int .u8 k] w λv' w'=>v'=.int .u8 (jQ k)/\w'=w:=by
 refine bz func141 ntmps141 λbk af=> ?_;have bM:IntKind.i64.wrap (k:Int)=k:=by simp[cz];omega
 by_cases aP:4<=k
 ·have LP:(4:Int)<=k:=by omega
  simp[go_sem,bM,LP];exact af _ _ ⟨by simp[jQ,show¬k=1 by omega,show¬k=2 by omega,show¬k=3 by omega],rfl⟩
 ·have LP:¬(4:Int)<=k:=by omega
  have tb:=ak 0 _ rfl;have mx:=ak 1 _ rfl;have lh:=ak 2 _ rfl;have qL:=ak 3 _ rfl;have eo:(k:Int)<4:=by omega
  have eY:w.cell? (bl 1 k)=some (.int .u8 (jQ k)):=by
   obtain rfl|rfl|rfl|rfl:k=0\/k=1\/k=2\/k=3:=by omega
   ·exact tb
   ·exact mx
   ·exact lh
   ·exact qL
  simp[go_sem,bM,LP,eo,eY];exact af _ _ ⟨rfl,rfl⟩
end Go.Proofs.YtoohkhcpboldjaaGreatDoor
namespace Go.Kin
open Go Go.RowKit
theorem SA{P:Program}{t e size:Nat}{cs:Array N}{z:N}(bj:P.underlying t=some (.slice e))(aA:∀w,(sizeOf e).run P w=.ok size w)(hz:(P.info? e).bind (·.zero)=some z)(Z:cs.size=size)(bi:0<size)(aQj:size<=16777216)(w:M):
  (Instr.buildSlice t 1 #[(0,.agg cs)]).run P w=.ok (.slice (some ⟨w.1.size,0,none⟩) 1 1) (w.alloc (.cells cs e)):=by
 cases ad:P.info? e with
 |none=>simp[ad]at hz
 |some i=>
  simp[ad]at hz;have bP:jw (λi=>some (i*size,size)) ((Array.range size).map λx=>z.cells[x%z.cells.size]!) [(0,.agg cs)]=some cs:=by
   simp[jw,Value.cells,Z];unfold dT;apply ip;simp[Z]
  rw[<-XR]at bP;simp[Instr.buildSlice,run_underlying bj,aA,zeroValue,typeInfo,ad,hz,show¬size=0 by omega,show¬16777216<size by omega,newRow];simp only[bP];simp
def XX(P:Program)(t:TypeId)(v:N)(w:M)(K:N->M->Prop):Prop:=gH ((Instr.buildSlice t 1 #[(0,v)]).run P w) K
theorem Eh(P:Program)(cw:Operand->N)(w:M)(K:N->M->Prop)(d:Option Tmp)(bV:TypeId)(pos:String)(eW:Array Edge)(g:Option (Nat×Bool))(t:TypeId)(x:Operand):
  ed P cw ⟨d,.buildSlice t 1 [(0,x)].toArray,bV,pos,eW,g⟩ w K=XX P t (cw x) w K:=by
 rw[aw3];rfl
theorem Ei{P:Program}{t:TypeId}{v v':N}{w w':M}{K:N->M->Prop}(h:(Instr.buildSlice t 1 #[(0,v)]).run P w=.ok v' w')(r:K v' w'):XX P t v w K:=by
 unfold XX gH;rw[h];exact r
attribute [irreducible] XX
end Go.Kin
