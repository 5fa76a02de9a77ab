/- A slice of onW value of several cells, built. It speaks of no program. No condition. -/
import Derived.Test.YtoohkhcpboldjaaGreatDoorAncA
set_option linter.unusedSimpArgs false
set_option linter.unusedVariables false
namespace Go.Kin
open Go Go.RowKit
variable{ct:Type}
def dv(f:ct->Array Value)(xs:List ct):List Value:=xs.flatMap λx=>(f x).toList
def jF(f:ct->Array Value)(xs:List ct):Array Value:=(dv f xs).toArray
variable{f:ct->Array Value}{n:Nat}
theorem Rl:∀(xs:List ct),(∀x∈xs,(f x).size=n)->(dv f xs).length=xs.length*n
 |[],_=>by simp[dv]
 |x::xs,h=>by
  have:=Rl xs λy ar=>h y (by simp[ar]);have M:=h x (by simp);simp only[dv,List.flatMap_cons,List.length_append,List.length_cons,Array.length_toList]at*
  grind
theorem Ww{xs:List ct}(h:∀x∈xs,(f x).size=n):(jF f xs).size=xs.length*n:=by simp[jF,Rl xs h]
theorem xi(xs ys:List ct):dv f (xs++ys)=dv f xs++dv f ys:=by simp[dv]
theorem yE(x:ct):dv f [x]=(f x).toList:=by simp[dv]
theorem Ct{xs:List ct}{k:Nat}{x:ct}(r:xs[k]? =some x):dv f xs=dv f (xs.take k)++((f x).toList++dv f (xs.drop (k+1))):=by
 obtain⟨al,M⟩:=List.getElem?_eq_some_iff.1 r;have:xs=xs.take k++(x::xs.drop (k+1)):=by
  rw[<-M,<-List.drop_eq_getElem_cons al,List.take_append_drop]
 conv=>lhs;rw[this]
 rw[xi];rfl
theorem Jm{xs:List ct}(h:∀x∈xs,(f x).size=n){k:Nat}(r:k<=xs.length):(dv f (xs.take k)).length=k*n:=by
 rw[Rl _ λx M=>h x (List.mem_of_mem_take M),List.length_take,Nat.min_eq_left r]
theorem Jn{xs:List ct}(h:∀x∈xs,(f x).size=n){k:Nat}{x:ct}(r:xs[k]? =some x):(jF f xs).extract (k*n) (k*n+n)=f x:=by
 obtain⟨al,M⟩:=List.getElem?_eq_some_iff.1 r;apply Array.ext';have H:=Jm h (Nat.le_of_lt al);have I:(f x).toList.length=n:=by grind
 rw[Array.toList_extract,List.extract_eq_take_drop,show(jF f xs).toList=dv f xs by simp[jF],Ct r,List.drop_left' H,show k*n+n - k*n=n by omega,List.take_left' I]
theorem Jo{xs:List ct}(h:∀x∈xs,(f x).size=n){k i:Nat}{x:ct}{u:Value}(r:xs[k]? =some x)(an:(f x)[i]? =some u):(jF f xs)[k*n+i]? =some u:=by
 obtain⟨al,M⟩:=List.getElem?_eq_some_iff.1 r;have H:=Jm h (Nat.le_of_lt al);have aa:=(Array.getElem?_eq_some_iff.1 an).1;rw[jF,List.getElem?_toArray,Ct r,List.getElem?_append_right (by omega),H,show k*n+i - k*n=i by omega,List.getElem?_append_left (by omega),<-an];simp
theorem ad6{xs:List ct}(h:∀x∈xs,(f x).size=n){k:Nat}{y:ct}(r:k<xs.length)(ar:(f y).size=n):d' (jF f xs) (k*n) (f y)=jF f (xs.set k y):=by
 have H:=Jm h (Nat.le_of_lt r);have M:=List.getElem?_eq_getElem r;have I:(f xs[k]).toList.length=n:=by grind
 unfold d';apply Array.ext';have e:(jF f xs).toList=dv f (xs.take k)++((f xs[k]).toList++dv f (xs.drop (k+1))):=by
  rw[<-Ct M];simp[jF]
 have aW:dv f (xs.set k y)=dv f (xs.take k)++((f y).toList++dv f (xs.drop (k+1))):=by
  have eH:(xs.set k y)[k]? =some y:=by grind
  rw[Ct eH,List.take_set_of_le (Nat.le_refl k),List.drop_set_of_lt (by omega)]
 show _=dv f (xs.set k y)
 grind
theorem aoG{xs:List ct}(h:∀x∈xs,(f x).size=n){k i:Nat}{x y:ct}{us:Array Value}(r:xs[k]? =some x)(aa:i+us.size<=n)(ar:d' (f x) i us=f y)(Ep:(f y).size=n):d' (jF f xs) (k*n+i) us=jF f (xs.set k y):=by
 obtain⟨al,M⟩:=List.getElem?_eq_some_iff.1 r;have H:=Jm h (Nat.le_of_lt al);have I:(f x).toList.length=n:=by grind
 unfold d' at*;apply Array.ext';have e:(jF f xs).toList=dv f (xs.take k)++((f x).toList++dv f (xs.drop (k+1))):=by
  rw[<-Ct r];simp[jF]
 have aW:dv f (xs.set k y)=dv f (xs.take k)++((f y).toList++dv f (xs.drop (k+1))):=by
  have eH:(xs.set k y)[k]? =some y:=by grind
  rw[Ct eH,List.take_set_of_le (Nat.le_refl k),List.drop_set_of_lt (by omega)]
 show _=dv f (xs.set k y);rw[aW,<-ar];simp only[e];rw[List.take_append,H,show k*n+i - k*n=i by omega,List.take_of_length_le (by omega),List.take_append_of_le_length (by omega),
  show k*n+i+us.size=k*n+(i+us.size)by omega,<-List.drop_drop,List.drop_left' H,List.drop_append_of_le_length (by omega)]
 simp
theorem Mr{xs:List ct}(h:∀x∈xs,(f x).size=n){k i:Nat}{x y:ct}{u:Value}(r:xs[k]? =some x)(aa:i<n)(ar:(f x).setIfInBounds i u=f y):(jF f xs).setIfInBounds (k*n+i) u=jF f (xs.set k y):=by
 obtain⟨al,M⟩:=List.getElem?_eq_some_iff.1 r;have H:=Jm h (Nat.le_of_lt al);have I:(f x).toList.length=n:=by grind
 apply Array.ext';have e:(jF f xs).toList=dv f (xs.take k)++((f x).toList++dv f (xs.drop (k+1))):=by
  rw[<-Ct r];simp[jF]
 have aW:dv f (xs.set k y)=dv f (xs.take k)++((f y).toList++dv f (xs.drop (k+1))):=by
  have eH:(xs.set k y)[k]? =some y:=by grind
  rw[Ct eH,List.take_set_of_le (Nat.le_refl k),List.drop_set_of_lt (by omega)]
 show _=dv f (xs.set k y)
 grind
theorem ad7{xs:List ct}(h:∀x∈xs,jT (f x)=true):jT (jF f xs)=true:=yC (by
 intro u an;obtain⟨x,M,an⟩:=List.mem_flatMap.1 an;have:=h x M;unfold jT at this;exact Array.all_eq_true'.1 this u (by simpa using an))
theorem ad8{P:Program}{t e len:Nat}{kd:IntKind}{k:Nat}{xs:List ct}{x:ct}(bd:P.underlying t=some (.array len e))(aw:∀w,(sizeOf e).run P w=.ok n w)(am:∀w,(isAgg e).run P w=.ok true w)
  (h:∀x∈xs,(f x).size=n)(r:k<len)(M:xs[k]? =some x)(w:World):(Instr.index t (.agg (jF f xs)) (.int kd k)).run P w=.ok (.agg (f x)) w:=by
 simp[Instr.index,asIntOf,run_underlying bd,part,aw,am,r,Jn h M]
theorem ad9{P:Program}(w:World)(d:Nat)(t e len:Nat)[DecidableEq ct](bd:P.underlying t=some (.array len e))(aw:∀w,(sizeOf e).run P w=.ok n w)(am:∀w,(isAgg e).run P w=.ok true w)
  (xs ys:List ct)(M:xs.length=len)(ar:ys.length=len)(aoH:∀x∈xs,(f x).size=n)(aoI:∀x∈ys,(f x).size=n)
  (gI:∀x∈xs,∀y∈ys,(Op.equalIn d e (.agg (f x)) (.agg (f y))).run P w=.ok (decide (x=y)) w):
  (Op.equalIn (d+1) t (.agg (jF f xs)) (.agg (jF f ys))).run P w=.ok (decide (xs=ys)) w:=by
 rw[Op.equalIn];simp only[Sem.run_bind,run_underlying bd,Result.andThen_ok,aw];rw[Std.Legacy.Range.forIn_eq_forIn_range'];have key:∀(m s:Nat),s+m=len->(forIn (List.range' s m 1) ((none,()):Option Bool×Unit) (λi _=>do
     let a<-part e (jF f xs) (i*n);let b<-part e (jF f ys) (i*n);let J<-Op.equalIn d e a b
     if(!J)=true then pure (ForInStep.done (some false,()))else pure (ForInStep.yield (none,()))):Sem (Option Bool×Unit)).run P w=.ok (if xs.drop s=ys.drop s then(none,())else(some false,())) w:=by
  intro m
  induction m with
  |zero=>
   intro s Wx;have H:xs.drop s=[]:=List.drop_eq_nil_iff.2 (by omega);have I:ys.drop s=[]:=List.drop_eq_nil_iff.2 (by omega);simp[H,I]
  |succ m bG=>
   intro s Wx;have GD:s<xs.length:=by omega
   have Cu:s<ys.length:=by omega
   rw[List.range'_succ];have nZ:(part e (jF f xs) (s*n)).run P w=.ok (.agg (f xs[s])) w:=by simp[part,am,aw,Jn aoH (List.getElem?_eq_getElem GD)]
   have n_:(part e (jF f ys) (s*n)).run P w=.ok (.agg (f ys[s])) w:=by simp[part,am,aw,Jn aoI (List.getElem?_eq_getElem Cu)]
   simp only[List.forIn_cons,Sem.run_bind,nZ,n_,Result.andThen_ok,gI _ (List.getElem_mem GD) _ (List.getElem_mem Cu)];have aK:=List.drop_eq_getElem_cons GD;have aW:=List.drop_eq_getElem_cons Cu;rw[aK,aW];by_cases aq:xs[s]=ys[s]
   ·have:=bG (s+1) (by omega);simp only[aq,decide_true,Bool.not_true,Bool.false_eq_true,if_false,Sem.run_pure,Result.andThen_ok,this,List.cons.injEq,true_and]
   ·have da:¬(xs[s]::xs.drop (s+1)=ys[s]::ys.drop (s+1)):=λh=>aq (List.cons.inj h).1
    simp_all
 rw[show List.range' (Std.Legacy.Range.start [:len]) (Std.Legacy.Range.size [:len]) (Std.Legacy.Range.step [:len])=List.range' 0 len 1 by simp[Std.Legacy.Range.size]];rw[key len 0 (by omega)];by_cases aq:xs=ys<;>simp[aq]
theorem ad_{P:Program}{t e len size:Nat}{vS:List (Nat×Value)}{w:World}{K:Value->World->Prop}{cs:Array Value}(bd:P.underlying t=some (.array len e))(hz:(P.info? t).map (λi=>i.zero.isSome)=some true)
  (aw:∀w,(sizeOf e).run P w=.ok size w)(bU:iH (λi=>some (i*size,size)) (ln P t) vS=some cs):hX P t vS w K=K (.agg cs) w:=by
 unfold hX fN
 cases aq:P.info? t with
 |none=>simp[aq]at hz
 |some i=>
  cases aa:i.zero with
  |none=>simp[aq,aa]at hz
  |some v=>
   have yF:ln P t=v.cells:=by unfold ln;simp[aq,aa]
   simp only[yF,<-Rm]at bU;simp only[Instr.build,zeroValue,typeInfo,Sem.run_bind,run_program,Result.andThen_ok,aq,aa,Sem.run_pure,run_underlying bd,aw,bU]
end Go.Kin
namespace Go.Proofs.YtoohkhcpboldjaaGreatDoor
open Go.RowKit Go.Kin
def bZ(ps:List Pt):Array Value:=jF Y ps
structure hE(ps:List Pt):Prop where
 len:ps.length=8
 all:∀p∈ps,bN p
def dY:List Pt:=List.replicate 8 ad
theorem pL:hE dY:=⟨rfl,λp ah=>by rw[(List.mem_replicate.1 ah).2];exact cE⟩
section
variable{ps:List Pt}
theorem hE.jG(h:hE ps):∀p∈ps,(Y p).size=41:=λp ah=>bW (h.all p ah)
theorem kh(h:hE ps):(bZ ps).size=328:=by unfold bZ;rw[Ww h.jG,h.len]
@[simp] theorem aGD(ps:List Pt):jT (bZ ps)=true:=ad7 λp _=>sN p
theorem qp(h:hE ps):(bZ ps).extract 0 328=bZ ps:=by rw[<-kh h];simp
theorem Wy(h:hE ps){k:Nat}{p:Pt}(r:ps[k]? =some p):(bZ ps).extract (k*41) (k*41+41)=Y p:=Jn h.jG r
theorem ad'(h:hE ps){k:Nat}{p:Pt}(r:k<8)(ok:bN p):d' (bZ ps) (k*41) (Y p)=bZ (ps.set k p):=ad6 h.jG (by rw[h.len];exact r) (bW ok)
theorem hE.set(h:hE ps)(k:Nat){p:Pt}(ok:bN p):hE (ps.set k p):=⟨by simp[h.len],λq aq=>by
 rcases List.mem_or_eq_of_mem_set aq with H|rfl
 ·exact h.all q H
 ·exact ok⟩
theorem hE.dn(h:hE ps){k:Nat}(r:k<8):∃p,ps[k]? =some p/\bN p:=⟨_,List.getElem?_eq_getElem (by rw[h.len];exact r),h.all _ (List.getElem_mem _)⟩
end
theorem rW:(Tryz.prog.info? 339).map (λi=>i.zero.isSome)=some true:=by kernel_rfl
theorem rX:ln Tryz.prog 339=bZ dY:=by kernel_rfl
theorem Ms{w:World}{K:Value->World->Prop}:hX Tryz.prog 339 [] w K=K (.agg (bZ dY)) w:=
 ad_ Tryz.underlying339 rW Tryz.sizeOf44 (by simp[iH,rX])
theorem aea(w:World){ps tN:List Pt}(ah:hE ps)(aq:hE tN):(Op.equalIn 10000 339 (.agg (bZ ps)) (.agg (bZ tN))).run Tryz.prog w=.ok (decide (ps=tN)) w:=
 ad9 w 9999 _ _ 8 Tryz.underlying339 Tryz.sizeOf44 Tryz.isAgg44 ps tN ah.len aq.len ah.jG aq.jG λx M y ar=>V' w 9996 (ah.all x M) (aq.all y ar)
theorem Wz{ps:List Pt}(h:hE ps){k:Nat}{p:Pt}(r:k<8)(M:ps[k]? =some p)(w:World):(Instr.index 339 (.agg (bZ ps)) (.int .i64 k)).run Tryz.prog w=.ok (.agg (Y p)) w:=
 ad8 Tryz.underlying339 Tryz.sizeOf44 Tryz.isAgg44 h.jG r M w
def fy(p:Pt):Bool:=decide (p=ad)||iX p
theorem aoJ(ps:List Pt)(w:World)(ok:hE ps):aP Tryz.prog 243 #[.agg (bZ ps)] w λW w'=>W=.bool (decide (ps=dY))/\D ak w w':=by
 refine bn Tryz.func243 Tryz.ntmps243 λaZ Z=> ?_;have cL:=kh ok;have fq:=qp ok;have gI:=λw=>aea w ok pL;have T:=(D.refl ak w).alloc (.cells (bZ ps) 339);simp[go_sem,cL,fq,Ms,gI];exact Z _ _ ⟨rfl,T⟩
theorem WA(ps:List Pt)(i:Int)(p:Pt)(w:World)(ok:hE ps)(ji:bN p):aP Tryz.prog 213 #[.agg (bZ ps),.int .i64 i,.agg (Y p)] w λW w'=>W=.agg (bZ (if 0<=i/\i<8 then ps.set i.toNat p else ps))/\D ak w w':=by
 refine bn Tryz.func213 Tryz.ntmps213 λaZ Z=> ?_;have cL:=kh ok;have fq:=qp ok;have gE:=bW ji;have xj:=dW ji;have T:=((((D.refl ak w).alloc (.cells (bZ ps) 339)).alloc (.cells (Y p) 44)).alloc (.cells (bZ dY) 339));have bj:=aeb w (.cells (bZ ps) 339) (.cells (Y p) 44) (.cells (bZ dY) 339);have ba:=WB w (.cells (bZ ps) 339) (.cells (Y p) 44) (.cells (bZ dY) 339);have cC:=aec w (.cells (bZ ps) 339) (.cells (Y p) 44) (.cells (bZ dY) 339);have hz:=kh pL;have iz:=qp pL;have e:(w.1.size+1)+1=w.1.size+2:=rfl;by_cases bf:0<=i
 ·by_cases eb:i<8
  ·rw[if_pos ⟨bf,eb⟩]at Z;obtain⟨k,rfl⟩:=Int.eq_ofNat_of_zero_le bf;have r:k<8:=by omega
   have qq:=ok.set k ji;simp[go_sem,rW,rX,eb];revert T bj ba cC;generalize((w.alloc (.cells (bZ ps) 339)).alloc (.cells (Y p) 44)).alloc (.cells (bZ dY) 339)=ab;generalize aF:w.1.size=g;intro T bj ba cC;have WC:(ab.setRow g (bZ (ps.set k p))).1[g]? =some (.cells (bZ (ps.set k p)) 339 (0,0)):=by rw[gk,bj];rfl
   have AE:(ab.setRow g (bZ (ps.set k p))).1[g+1+1]? =some (.cells (bZ dY) 339 (0,0)):=by rw[WD _ _ _ _ (by omega)];exact cC
   have cm:((ab.setRow g (bZ (ps.set k p))).setRow (g+1+1) (bZ (ps.set k p))).1[g+1+1]? =some (.cells (bZ (ps.set k p)) 339 (0,0)):=by rw[gk,AE];rfl
   simp[go_sem,bj,ba,cC,cL,gE,xj,eb,r,ad' ok r ji,WC,AE,kh qq,qp qq,hz,bQ,cm,show k*41+41<=328 by omega];exact Z _ _ ⟨by simp,(T.setRow (.inr (by omega)) _).setRow (.inr (by omega)) _⟩
  ·rw[if_neg (by omega)]at Z;simp[go_sem,rW,rX,bf,eb];revert T bj ba cC;generalize((w.alloc (.cells (bZ ps) 339)).alloc (.cells (Y p) 44)).alloc (.cells (bZ dY) 339)=ab;generalize aF:w.1.size=g;intro T bj ba cC;have AE:ab.1[g+1+1]? =some (.cells (bZ dY) 339 (0,0)):=cC;have cm:(ab.setRow (g+1+1) (bZ ps)).1[g+1+1]? =some (.cells (bZ ps) 339 (0,0)):=by rw[gk,AE];rfl
   simp[go_sem,bj,AE,cL,fq,hz,bQ,cm];exact Z _ _ ⟨rfl,T.setRow (.inr (by omega)) _⟩
 ·rw[if_neg (by omega)]at Z;simp[go_sem,rW,rX,bf];revert T bj ba cC;generalize((w.alloc (.cells (bZ ps) 339)).alloc (.cells (Y p) 44)).alloc (.cells (bZ dY) 339)=ab;generalize aF:w.1.size=g;intro T bj ba cC;have AE:ab.1[g+1+1]? =some (.cells (bZ dY) 339 (0,0)):=cC;have cm:(ab.setRow (g+1+1) (bZ ps)).1[g+1+1]? =some (.cells (bZ ps) 339 (0,0)):=by rw[gk,AE];rfl
  simp[go_sem,bj,AE,cL,fq,hz,bQ,cm];exact Z _ _ ⟨rfl,T.setRow (.inr (by omega)) _⟩
structure br where
 k:Nat
 n:Nat
 s:Nat
 J:Pt
deriving DecidableEq
def bk(x:br):Array Value:=(.int .u8 x.k::.int .u16 x.n::.int .u32 x.s::(Y x.J).toList).toArray
structure gR(x:br):Prop where
 k:x.k<256
 n:x.n<65536
 s:x.s<4294967296
 J:bN x.J
def bA:br:=⟨0,0,0,ad⟩
theorem ls:gR bA:=⟨by decide,by decide,by decide,cE⟩
section
variable{x:br}
theorem jr(ok:gR x):(bk x).size=44:=by
 have:=bW ok.J;simp[bk,this]
@[simp] theorem WE(x:br):jT (bk x)=true:=yC (by
 intro u an;simp only[List.mem_cons]at an;rcases an with rfl|rfl|rfl|an
 ·rfl
 ·rfl
 ·rfl
 ·have:=sN x.J;unfold jT at this;exact Array.all_eq_true'.1 this u (by simpa using an))
theorem tO(ok:gR x):(bk x).extract 0 44=bk x:=by rw[<-jr ok];simp
theorem Rn:(bk x)[0]? =some (.int .u8 x.k):=by simp[bk]
theorem Ro:(bk x)[1]? =some (.int .u16 x.n):=by simp[bk]
theorem Rp:(bk x)[2]? =some (.int .u32 x.s):=by simp[bk]
@[simp] theorem aGE(h:0<(bk x).size):(bk x)[0]=.int .u8 x.k:=by simp[bk]
@[simp] theorem aGF(h:1<(bk x).size):(bk x)[1]=.int .u16 x.n:=by simp[bk]
@[simp] theorem aGG(h:2<(bk x).size):(bk x)[2]=.int .u32 x.s:=by simp[bk]
@[simp] theorem aGH(h:3<(bk x).size):(bk x)[3]=.int .u8 x.J.k:=by simp[bk,Y]
@[simp] theorem aGI(h:4<(bk x).size):(bk x)[4]=.int .u8 x.J.l:=by simp[bk,Y]
theorem Jp(ok:gR x):(bk x).extract 3 44=Y x.J:=by
 have:=bW ok.J;apply Array.ext';simp[bk,this];rw[List.take_of_length_le (by simp[this])]
theorem aed{q:Pt}(ok:gR x)(kV:bN q):d' (bk x) 3 (Y q)=bk {x with J:=q}:=by
 have H:=bW ok.J;have I:=bW kV;apply Array.ext';simp[d',bk,H,I]
theorem aoK(k:Nat):(bk x).setIfInBounds 0 (.int .u8 k)=bk {x with k:=k}:=by simp[bk]
theorem aoL(n:Nat):(bk x).setIfInBounds 1 (.int .u16 n)=bk {x with n:=n}:=by simp[bk]
theorem aoM(s:Nat):(bk x).setIfInBounds 2 (.int .u32 s)=bk {x with s:=s}:=by simp[bk]
end
theorem tP:(Tryz.prog.info? 113).map (λi=>i.zero.isSome)=some true:=by kernel_rfl
theorem tQ:ln Tryz.prog 113=bk bA:=by kernel_rfl
theorem Er{w:World}{K:Value->World->Prop}:hX Tryz.prog 113 [] w K=K (.agg (bk bA)) w:=
 lp Tryz.underlying113 tP (places:=#[(0,1),(1,1),(2,1),(3,41)]) (by simp[go_sem]) (by simp[iH,tQ])
theorem aoN(k n:Nat):d' (d' (bk bA) 0 #[.int .u8 k]) 1 #[.int .u16 n]=bk ⟨k,n,0,ad⟩:=by simp[d',bk,bA]
theorem aee(w:World)(d:Nat){x y:br}(M:gR x)(ar:gR y):(Op.equalIn (d+4) 113 (.agg (bk x)) (.agg (bk y))).run Tryz.prog w=.ok (decide (x=y)) w:=by
 have aK:∀w,(Op.equalIn (d+3) 44 (.agg (Y x.J)) (.agg (Y y.J))).run Tryz.prog w=.ok (decide (x.J=y.J)) w:=λw=>V' w d M.J ar.J;have T:∀a b:Nat,((a:Int)==(b:Int))=decide (a=b):=λa b=>by
  grind
 rw[Op.equalIn];simp[go_sem,Rn,Ro,Rp,Jp M,Jp ar,aK,T];obtain⟨k,n,s,J⟩:=x;obtain⟨lo,fi,s',Rq⟩:=y;simp only[br.mk.injEq]
 grind
theorem Rr(w:World){x y:br}(M:gR x)(ar:gR y):(Op.equalIn 10000 113 (.agg (bk x)) (.agg (bk y))).run Tryz.prog w=.ok (decide (x=y)) w:=aee w 9996 M ar
def dc(xs:List br):Array Value:=jF bk xs
structure kW(xs:List br):Prop where
 len:xs.length=4
 all:∀x∈xs,gR x
def fO:List br:=List.replicate 4 bA
theorem uR:kW fO:=⟨rfl,λp ah=>by rw[(List.mem_replicate.1 ah).2];exact ls⟩
section
variable{xs:List br}
theorem kW.jG(h:kW xs):∀x∈xs,(bk x).size=44:=λx M=>jr (h.all x M)
theorem sR(h:kW xs):(dc xs).size=176:=by unfold dc;rw[Ww h.jG,h.len]
@[simp] theorem aGJ(xs:List br):jT (dc xs)=true:=ad7 λp _=>WE p
theorem Cv(h:kW xs):(dc xs).extract 0 176=dc xs:=by rw[<-sR h];simp
theorem aoO(h:kW xs){k:Nat}{x:br}(r:xs[k]? =some x):(dc xs).extract (k*44) (k*44+44)=bk x:=Jn h.jG r
theorem aoP(h:kW xs){k:Nat}{x:br}(r:k<4)(ok:gR x):d' (dc xs) (k*44) (bk x)=dc (xs.set k x):=ad6 h.jG (by rw[h.len];exact r) (jr ok)
theorem kW.set(h:kW xs)(k:Nat){x:br}(ok:gR x):kW (xs.set k x):=⟨by simp[h.len],λq aq=>by
 rcases List.mem_or_eq_of_mem_set aq with H|rfl
 ·exact h.all q H
 ·exact ok⟩
theorem kW.dn(h:kW xs){k:Nat}(r:k<4):∃x,xs[k]? =some x/\gR x:=⟨_,List.getElem?_eq_getElem (by rw[h.len];exact r),h.all _ (List.getElem_mem _)⟩
end
theorem yG:(Tryz.prog.info? 279).map (λi=>i.zero.isSome)=some true:=by kernel_rfl
theorem yH:ln Tryz.prog 279=dc fO:=by kernel_rfl
theorem Cw{w:World}{K:Value->World->Prop}:hX Tryz.prog 279 [] w K=K (.agg (dc fO)) w:=
 ad_ Tryz.underlying279 yG Tryz.sizeOf113 (by simp[iH,yH])
theorem WF(w:World){xs ys:List br}(ah:kW xs)(aq:kW ys):(Op.equalIn 10000 279 (.agg (dc xs)) (.agg (dc ys))).run Tryz.prog w=.ok (decide (xs=ys)) w:=
 ad9 w 9999 _ _ 4 Tryz.underlying279 Tryz.sizeOf113 Tryz.isAgg113 xs ys ah.len aq.len ah.jG aq.jG λx M y ar=>aee w 9995 (ah.all x M) (aq.all y ar)
theorem WG{xs:List br}(h:kW xs){k:Nat}{x:br}(r:k<4)(M:xs[k]? =some x)(w:World):(Instr.index 279 (.agg (dc xs)) (.int .i64 k)).run Tryz.prog w=.ok (.agg (bk x)) w:=
 ad8 Tryz.underlying279 Tryz.sizeOf113 Tryz.isAgg113 h.jG r M w
def mV(J:Pt):Bool:=decide (J=ad)||(iX J&&decide (J.k=3)&&decide (J.l=2))
def fI(x:br):Bool:=
 if x.k=0 then decide (x=bA)else if x.k=3 then(decide (x.s≠0)&&decide (x.s<=128)&&mV x.J)else if x.k=1\/x.k=2 then(decide (x.s<=32768)&&mV x.J)else false
theorem aoQ{x:br}(h:fI x=true):x.J=ad\/iX x.J=true:=by
 have ap:∀J,mV J=true->J=ad\/iX J=true:=λJ h=>by
  unfold mV at h
  grind
 unfold fI at h;split at h
 ·rw[of_decide_eq_true h];exact .inl rfl
 grind
theorem Rs(x:br)(w:World)(ok:gR x)(bH:lN w):aP Tryz.prog 109 #[.agg (bk x)] w λW w'=>W=.bool (fI x)/\D ak w w':=by
 refine bn Tryz.func109 Tryz.ntmps109 λaZ Z=> ?_;have aw:=jr ok;have am:=tO ok;have ap:=Jp ok;have pc:=bW ok.J;have xk:=dW ok.J;have gI:=λw=>Rr w ok ls;have xl:=λw=>sO w ok.J cE;have AA:=λw=>sO w cE cE;have aI:=(D.refl ak w).alloc (.cells (bk x) 113);have Rt:∀a b:Nat,((a:Int)==(b:Int))=Es a b:=λa b=>by
  by_cases h:a=b
  ·simp[h,Es]
  ·rw[beq_false_of_ne (by omega),xm h]
 have ht:∀a:Nat,((a:Int)==0)=Es a 0:=λa=>Rt a 0;have db:∀a:Nat,((a:Int)==1)=Es a 1:=λa=>Rt a 1;have dk:∀a:Nat,((a:Int)==2)=Es a 2:=λa=>Rt a 2;have gQ:∀a:Nat,((a:Int)==3)=Es a 3:=λa=>Rt a 3;simp[go_sem,Rn];have bj:=cl w (.cells (bk x) 113);revert bj aI;generalize w.alloc (.cells (bk x) 113)=ab;generalize w.1.size=g;intro aI bj;have aW:=(aG bj 2).trans Rp;have de:=bH.ch aI id;by_cases pd:x.k=0
 ·have fC:=yI pd;simp[go_sem,ht,fC,bj,aw,am,Er,gI];exact Z _ _ ⟨by simp[fI,pd],aI⟩
 have fC:=xm pd;by_cases bq:x.k=3
 ·have jV:=yI bq;by_cases tR:x.s=0
  ·have tN:=yI tR;simp[go_sem,ht,gQ,fC,jV,tN,aW];exact Z _ _ ⟨by simp[fI,bq,tR],aI⟩
  have tN:=xm tR;have aH:fI x=(decide (x.s<=128)&&mV x.J):=by simp[fI,bq,tR]
  have aA:=aI.alloc (.cells (Y x.J) 44);have yJ:=λo=>((D.refl ak ab).alloc o).cell aW id;have cC:=cl ab (.cells (Y x.J) 44);by_cases dR:x.s<=128
  ·have gZ:(x.s:Int)<=128:=by omega
   by_cases hz:x.J=ad
   ·simp[go_sem,ht,gQ,fC,jV,tN,aW,yJ,bj,aw,ap,gm,gn,bW cE,pc,bQ,gZ,xk,dW cE,oz,xl,AA,hz]
    try rw[hz]at aA
    exact Z _ _ ⟨by rw[aH];simp[dR,mV,hz],aA⟩
   ·simp[go_sem,ht,gQ,fC,jV,tN,aW,yJ,bj,aw,ap,gm,gn,bW cE,pc,bQ,gZ,xk,dW cE,oz,xl,AA,hz];refine(AB x.J _ ok.J (bH.ch aA id)).mono ?_;rintro _ aC ⟨rfl,aE⟩;have cm:=aE.ah cC id;have gq:=(aG cm 0).trans Cl;have cK:=(aG cm 1).trans Ef
    cases AF:iX x.J
    ·simp[go_sem];exact Z _ _ ⟨by rw[aH];simp[mV,hz,AF],aA.trans aE⟩
    ·by_cases af:x.J.k=3
     ·have cj:=yI af;by_cases I:x.J.l=2
      ·have cb:=yI I;simp[go_sem,gq,cK,gQ,dk,cj,cb];exact Z _ _ ⟨by rw[aH];simp[dR,mV,AF,af,I],aA.trans aE⟩
      ·have cb:=xm I;simp[go_sem,gq,cK,gQ,dk,cj,cb];exact Z _ _ ⟨by rw[aH];simp[mV,hz,I],aA.trans aE⟩
     ·have cj:=xm af;simp[go_sem,gq,gQ,cj];exact Z _ _ ⟨by rw[aH];simp[mV,hz,af],aA.trans aE⟩
  ·have gZ:¬(x.s:Int)<=128:=by omega
   simp[go_sem,ht,gQ,fC,jV,tN,aW,yJ,bj,aw,ap,gm,gn,bW cE,pc,bQ,gZ];exact Z _ _ ⟨by rw[aH];simp[dR],aA⟩
 have jV:=xm bq;by_cases a':x.k=1
 ·have ig:=yI a';have aH:fI x=(decide (x.s<=32768)&&mV x.J):=by simp[fI,a']
  have aA:=aI.alloc (.cells (Y x.J) 44);have yJ:=λo=>((D.refl ak ab).alloc o).cell aW id;have cC:=cl ab (.cells (Y x.J) 44);by_cases dR:x.s<=32768
  ·have gZ:(x.s:Int)<=32768:=by omega
   by_cases hz:x.J=ad
   ·simp[go_sem,ht,db,gQ,fC,ig,jV,aW,yJ,bj,aw,ap,gm,gn,bW cE,pc,bQ,gZ,xk,dW cE,oz,xl,AA,hz]
    try rw[hz]at aA
    exact Z _ _ ⟨by rw[aH];simp[dR,mV,hz],aA⟩
   ·simp[go_sem,ht,db,gQ,fC,ig,jV,aW,yJ,bj,aw,ap,gm,gn,bW cE,pc,bQ,gZ,xk,dW cE,oz,xl,AA,hz];refine(AB x.J _ ok.J (bH.ch aA id)).mono ?_;rintro _ aC ⟨rfl,aE⟩;have cm:=aE.ah cC id;have gq:=(aG cm 0).trans Cl;have cK:=(aG cm 1).trans Ef
    cases AF:iX x.J
    ·simp[go_sem];exact Z _ _ ⟨by rw[aH];simp[mV,hz,AF],aA.trans aE⟩
    ·by_cases af:x.J.k=3
     ·have cj:=yI af;by_cases I:x.J.l=2
      ·have cb:=yI I;simp[go_sem,gq,cK,gQ,dk,cj,cb];exact Z _ _ ⟨by rw[aH];simp[dR,mV,AF,af,I],aA.trans aE⟩
      ·have cb:=xm I;simp[go_sem,gq,cK,gQ,dk,cj,cb];exact Z _ _ ⟨by rw[aH];simp[mV,hz,I],aA.trans aE⟩
     ·have cj:=xm af;simp[go_sem,gq,gQ,cj];exact Z _ _ ⟨by rw[aH];simp[mV,hz,af],aA.trans aE⟩
  ·have gZ:¬(x.s:Int)<=32768:=by omega
   simp[go_sem,ht,db,gQ,fC,ig,jV,aW,yJ,bj,aw,ap,gm,gn,bW cE,pc,bQ,gZ];exact Z _ _ ⟨by rw[aH];simp[dR],aA⟩
 have ig:=xm a';by_cases aX:x.k=2
 ·have fX:=yI aX;have aH:fI x=(decide (x.s<=32768)&&mV x.J):=by simp[fI,aX]
  have aA:=aI.alloc (.cells (Y x.J) 44);have yJ:=λo=>((D.refl ak ab).alloc o).cell aW id;have cC:=cl ab (.cells (Y x.J) 44);by_cases dR:x.s<=32768
  ·have gZ:(x.s:Int)<=32768:=by omega
   by_cases hz:x.J=ad
   ·simp[go_sem,ht,db,dk,gQ,fC,ig,fX,jV,aW,yJ,bj,aw,ap,gm,gn,bW cE,pc,bQ,gZ,xk,dW cE,oz,xl,AA,hz]
    try rw[hz]at aA
    exact Z _ _ ⟨by rw[aH];simp[dR,mV,hz],aA⟩
   ·simp[go_sem,ht,db,dk,gQ,fC,ig,fX,jV,aW,yJ,bj,aw,ap,gm,gn,bW cE,pc,bQ,gZ,xk,dW cE,oz,xl,AA,hz];refine(AB x.J _ ok.J (bH.ch aA id)).mono ?_;rintro _ aC ⟨rfl,aE⟩;have cm:=aE.ah cC id;have gq:=(aG cm 0).trans Cl;have cK:=(aG cm 1).trans Ef
    cases AF:iX x.J
    ·simp[go_sem];exact Z _ _ ⟨by rw[aH];simp[mV,hz,AF],aA.trans aE⟩
    ·by_cases af:x.J.k=3
     ·have cj:=yI af;by_cases I:x.J.l=2
      ·have cb:=yI I;simp[go_sem,gq,cK,gQ,dk,cj,cb];exact Z _ _ ⟨by rw[aH];simp[dR,mV,AF,af,I],aA.trans aE⟩
      ·have cb:=xm I;simp[go_sem,gq,cK,gQ,dk,cj,cb];exact Z _ _ ⟨by rw[aH];simp[mV,hz,I],aA.trans aE⟩
     ·have cj:=xm af;simp[go_sem,gq,gQ,cj];exact Z _ _ ⟨by rw[aH];simp[mV,hz,af],aA.trans aE⟩
  ·have gZ:¬(x.s:Int)<=32768:=by omega
   simp[go_sem,ht,db,dk,gQ,fC,ig,fX,jV,aW,yJ,bj,aw,ap,gm,gn,bW cE,pc,bQ,gZ];exact Z _ _ ⟨by rw[aH];simp[dR],aA⟩
 have fX:=xm aX;simp[go_sem,ht,db,dk,gQ,fC,ig,fX,jV];exact Z _ _ ⟨by simp[fI,pd,a',aX,bq],aI⟩
def rY(x:br):List UInt8:=[UInt8.ofNat x.k,0]++(bX x.n 2++(bX x.s 4++(jq x.J++cV 56)))
theorem aef(x:br):rY x=bX x.k 1++(cV 1++(bX x.n 2++(bX x.s 4++(jq x.J++cV 56)))):=rfl
theorem aeg{x:br}(ok:gR x):(rY x).length=128:=by
 rw[aef];simp[jC,Ax ok.J,lM]
theorem aoR(x:br)(v:Value)(n:Nat)(l:List UInt8)(w:World)(ok:gR x)(av:n<=900000)(al:l.length=n)(eT:w.ownsRow 0 5 1 v n (bm l)):
  aP Tryz.prog 247 #[.agg (bk x),v] w (hZ w v n l 128 (rY x)):=by
 have ij:=WH eT;have cI:=bD.len (bD.fp eT) Tryz.underlying101 3;have de:IntKind.i64.wrap ((n:Int)+128)=((n+128:Nat):Int):=by simp[IntKind.wrap_i64];omega
 have aw:=jr ok;have ap:=Jp ok;refine bn Tryz.func247 Tryz.ntmps247 λaZ Z=> ?_;simp[go_sem,cI,de];have V:=cl w (.cells (bk x) 113);have T:=(D.refl ak w).alloc (.cells (bk x) 113);have GE:=eT.alloc (.cells (bk x) 113);revert V T GE;generalize w.alloc (.cells (bk x) 113)=ab;generalize aF:w.1.size=g;intro V T GE;have qr:=(aG V 0).trans Rn;have uS:=(aG V 1).trans Ro;refine cD [A 0,A 1,A 2,A 5,A 6,(3,some [0,5,6]),(4,some [5,6]),(7,some []),A 8] ?_;have ki:=((D.refl ak ab).alloc (.cells #[.int .u8 x.k,.int .u8 0] 5)).drew;have aoS:=ki.cell uS id;simp[go_sem,qr,uS,aoS];have aq:(ab.alloc (.cells #[.int .u8 x.k,.int .u8 0] 5)).drew.1[ab.1.size]? =some (.cells #[.int .u8 x.k,.int .u8 0] 5 (0,0)):=by simp
 have GF:(ab.alloc (.cells #[.int .u8 x.k,.int .u8 0] 5)).drew.ownsRow 0 5 1 v n (bm l):=GE.alloc _;have dk:=ki.ah V id;have GG:=T.trans ki;revert aq GF dk GG;generalize(ab.alloc (.cells #[.int .u8 x.k,.int .u8 0] 5)).drew=ai;intro aq GF dk GG;have AG:[Value.int .u8 x.k,.int .u8 0]=bm [UInt8.ofNat x.k,0]:=by
  have H:=ok.k;simp[bm,WI,ca];omega
 refine Jj kB GF (y:=.slice (some ⟨ab.1.size,0,none⟩) 2 2) (m:=2) (ys:=bm [UInt8.ofNat x.k,0]) (bD.GA aq (Nat.le_refl _) (by decide) (by rw[<-AG];rfl)) rfl (xf _) (by unfold maxLen;omega) (by omega) λv3 aC ec ft iI=> ?_;have kC:hZ ai v n l 2 [UInt8.ofNat x.k,0] v3 aC:=⟨by rw[Cs];exact ec,ft,iI⟩;have fH:∀{W w' m ys},hZ ai v n l m ys W w'->w'.1[g]? =some (.cells (bk x) 113 (0,0)):=λh=>h.2.1.ah dk λe=>by have:=ij _ e;omega
 have aoT:=(aG (fH kC) 1).trans Ro;simp[go_sem,aoT];refine(Rj v3 (n+2) (l++[UInt8.ofNat x.k,0]) x.n aC ok.n (by omega) kC.1).mono ?_;intro v4 be eQ;have mv:=kC.trans eQ;have ci:=fH mv;simp[go_sem];refine cD [A 0,A 1,A 2,A 4,A 5,A 7,(3,some [4,5,7]),(6,some [7]),(8,some []),A 9] ?_;have WJ:=(aG ci 2).trans Rp;simp[go_sem,WJ,ci,aw,ap];refine(aeh v4 _ _ x.s be.drew ok.s (by omega) mv.1).mono ?_;intro v5 bw gS;have GH:=mv.trans (hZ.from (D.refl ak be).drew gS);have dj:=fH GH;simp[go_sem,dj,aw,ap];have Ru:(l++([UInt8.ofNat x.k,0]++bX x.n 2++bX x.s 4)).length=n+(2+2+4):=by simp[al,jC]
 refine(Rv v5 _ _ x.J bw ok.J (by omega) Ru GH.1).mono ?_;intro kD cd uT;have Jq:=GH.trans uT;simp[go_sem];have oD:(l++([UInt8.ofNat x.k,0]++bX x.n 2++bX x.s 4++jq x.J)).length=n+(2+2+4+64):=by simp[al,jC,Ax ok.J]
 refine(Rk kD _ _ ((n:Int)+128) cd (by omega) (by omega) oD Jq.1).mono ?_;intro v9 dC Mt;have GI:=Jq.trans Mt;have lu:((n:Int)+128).toNat -(n+(2+2+4+64))=56:=by omega
 rw[lu]at GI;simp[go_sem];refine Z _ _ (hZ.from GG ?_);have ah:[UInt8.ofNat x.k,0]++bX x.n 2++bX x.s 4++jq x.J++List.replicate 56 0=rY x:=by
  simp only[rY,List.append_assoc];rfl
 rw[ah]at GI;exact GI
def lv(xs:List br):List UInt8:=xs.flatMap rY
theorem Mu:∀(xs:List br),(∀x∈xs,gR x)->(lv xs).length=128*xs.length
 |[],_=>rfl
 |p::ps,h=>by
  have:=Mu ps λq aq=>h q (by simp[aq]);have ah:=aeg (h p (by simp));simp only[lv,List.flatMap_cons,List.length_append,List.length_cons]at*;rw[this,ah];omega
theorem aoU(n:Nat):madeCells (Value.int .u8 0).cells (n*1)=(bm (cV n)).toArray:=by
 apply Array.ext';apply List.ext_getElem?;intro i;simp[madeCells,cV,bm,ca,Value.cells]
 grind
theorem aoV(n:Nat)(w:World)(av:n<=1000000):(Instr.makeSlice 101 (.int .i64 n) (.int .i64 n)).run Tryz.prog w=.ok (.slice (some ⟨w.1.size,0,none⟩) n n) (w.alloc (.cells (bm (cV n)).toArray 5)):=by
 have H:(Tryz.prog.info? 5).isSome=true:=by kernel_rfl
 obtain⟨i,aa⟩:=Option.isSome_iff_exists.1 H;have I:(Tryz.prog.info? 5).map (·.size)=some 1:=by kernel_rfl
 have af:(Tryz.prog.info? 5).map (·.bytes)=some 1:=by kernel_rfl
 have aU:(Tryz.prog.info? 5).bind (·.zero)=some (.int .u8 0):=by kernel_rfl
 rw[aa]at I af aU;simp at I af aU;have:=run_makeSlice (P:=Tryz.prog) w 101 5 i _ Tryz.underlying101 aa aU .i64 .i64 n n (by omega) (Int.le_refl _) (by rw[I];omega) (by rw[af];omega) (by omega);rw[this,I];simp only[Int.toNat_natCast,aoU]
theorem aoW:lv fO=cV 512:=by decide+kernel
theorem aei:fO.all fI=true:=by decide
def qs(w:World):Prop:=∀i z,([0,1,2,2]:List Int)[i]? =some z->w.cell? ⟨1,i,none⟩=some (.int .u8 z)
theorem qs.ch{S:Nat->Prop}{w w':World}(h:qs w)(T:D S w w')(av:¬S 1):qs w':=λi z hz=>T.cell (h i z hz) av
def js(k:Nat):Nat:=if k=1 then 1 else if k=2\/k=3 then 2 else 0
theorem aoX(k:Nat)(w:World)(r:k<256)(al:qs w):aP Tryz.prog 141 #[.int .u8 k] w λW w'=>W=.int .u8 (js k)/\w'=w:=by
 refine bn Tryz.func141 Tryz.ntmps141 λaZ Z=> ?_;have bH:IntKind.i64.wrap (k:Int)=k:=by simp[IntKind.wrap_i64];omega
 by_cases aU:4<=k
 ·have GJ:(4:Int)<=k:=by omega
  simp[go_sem,bH,GJ];exact Z _ _ ⟨by simp[js,show¬k=1 by omega,show¬k=2 by omega,show¬k=3 by omega],rfl⟩
 ·have GJ:¬(4:Int)<=k:=by omega
  have uO:=al 0 _ rfl;have lm:=al 1 _ rfl;have jD:=al 2 _ rfl;have nT:=al 3 _ rfl;have ea:(k:Int)<4:=by omega
  have ew:w.cell? ⟨1,k,none⟩=some (.int .u8 (js k)):=by
   obtain rfl|rfl|rfl|rfl:k=0\/k=1\/k=2\/k=3:=by omega
   ·exact uO
   ·exact lm
   ·exact jD
   ·exact nT
  simp[go_sem,bH,GJ,ea,ew];exact Z _ _ ⟨rfl,rfl⟩
end Go.Proofs.YtoohkhcpboldjaaGreatDoor
namespace Go.Kin
open Go Go.RowKit
theorem Rw{P:Program}{t e size:Nat}{cs:Array Value}{z:Value}(bd:P.underlying t=some (.slice e))(aw:∀w,(sizeOf e).run P w=.ok size w)(hz:(P.info? e).bind (·.zero)=some z)(T:cs.size=size)(bf:0<size)(aGK:size<=16777216)(w:World):
  (Instr.buildSlice t 1 #[(0,.agg cs)]).run P w=.ok (.slice (some ⟨w.1.size,0,none⟩) 1 1) (w.alloc (.cells cs e)):=by
 cases aa:P.info? e with
 |none=>simp[aa]at hz
 |some i=>
  simp[aa]at hz;have bU:iH (λi=>some (i*size,size)) ((Array.range size).map λx=>z.cells[x%z.cells.size]!) [(0,.agg cs)]=some cs:=by
   simp[iH,Value.cells,T];unfold d';apply Array.ext';simp[T]
  rw[<-Rm]at bU;simp[Instr.buildSlice,run_underlying bd,aw,zeroValue,typeInfo,aa,hz,show¬size=0 by omega,show¬16777216<size by omega,newRow];simp only[bU];simp
def Rx(P:Program)(t:TypeId)(v:Value)(w:World)(K:Value->World->Prop):Prop:=fN ((Instr.buildSlice t 1 #[(0,v)]).run P w) K
theorem yK(P:Program)(cc:Operand->Value)(w:World)(K:Value->World->Prop)(d:Option Tmp)(bO:TypeId)(pos:String)(eC:Array Edge)(g:Option (Nat×Bool))(t:TypeId)(x:Operand):
  dG P cc ⟨d,.buildSlice t 1 [(0,x)].toArray,bO,pos,eC,g⟩ w K=Rx P t (cc x) w K:=by
 rw[aoY];rfl
theorem AH{P:Program}{t:TypeId}{v W:Value}{w w':World}{K:Value->World->Prop}(h:(Instr.buildSlice t 1 #[(0,v)]).run P w=.ok W w')(r:K W w'):Rx P t v w K:=by
 unfold Rx fN;rw[h];exact r
attribute [irreducible] Rx
end Go.Kin
