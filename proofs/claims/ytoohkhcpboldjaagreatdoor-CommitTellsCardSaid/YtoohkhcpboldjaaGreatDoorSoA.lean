/- Rows of cells that are sorted in place. They speak of no program. No condition. -/
import Derived.Test.YtoohkhcpboldjaaGreatDoorVee
import Derived.Laws.Cover3
import Derived.Laws.StructEq
import Derived.ChangeMaps4
import Derived.Sort.LotA
import Derived.Sort.LotB
import Derived.Sort.LotC
import Derived.Sort.LotD3
set_option linter.unusedSimpArgs false
set_option linter.unusedVariables false
namespace Go.Kin
open Go Go.RowKit
section
variable {w w':M}{g k i:Nat}{cs:Array N}{bv:TypeId}{fr:Nat×Nat}{S:Nat->Prop}
@[simp↓high] theorem cr(w:M)(o:Obj):(w.alloc o).1[w.1.size]? =some o:=heap_alloc_new w o
@[simp↓high] theorem asX(w:M)(o:Obj)(g:Nat)(h:g=w.1.size):(w.alloc o).1[g]? =some o:=by subst h;exact heap_alloc_new w o
@[simp↓high] theorem rQ(w:M)(o:Obj)(g:Nat)(h:g<w.1.size):(w.alloc o).1[g]? =w.1[g]? :=Below.heap_alloc _ o g h
@[simp↓high] theorem xd(w:M)(g:Nat):w.drew.1[g]? =w.1[g]? :=f_ rfl
def asY(c:Array N):Option Obj->Option Obj
 |some (.cells _ bv fr)=>some (.cells c bv fr)
 |o=>o
@[simp] theorem azL(c dA:Array N)(bv:TypeId)(fr:Nat×Nat):asY c (some (.cells dA bv fr))=some (.cells c bv fr):=f_ rfl
def Yu(i:Nat)(v:N):Option Obj->Option Obj
 |some (.cells c bv fr)=>some (.cells (c.setIfInBounds i v) bv fr)
 |o=>o
@[simp] theorem fU(i:Nat)(v:N)(c:Array N)(bv:TypeId)(fr:Nat×Nat):Yu i v (some (.cells c bv fr))=some (.cells (c.setIfInBounds i v) bv fr):=f_ rfl
@[simp↓high] theorem gh(w:M)(g:Nat)(c:Array N):(w.setRow g c).1[g]? =asY c (w.1[g]?):=by
 simp[World.setRow,IK]
 cases w.1[g]? with
 |none=>rfl
 |some o=>cases o<;>rfl
@[simp↓high] theorem adk(w:M)(g k:Nat)(c:Array N)(h:k≠g):(w.setRow g c).1[k]? =w.1[k]? :=by
 simp[World.setRow,IK,Ne.symm h]
@[simp↓high] theorem eU(w:M)(g i:Nat)(v:N):(w.setCell ⟨g,i,none⟩ v).1[g]? =Yu i v (w.1[g]?):=by
 simp[World.setCell,IK]
 cases w.1[g]? with
 |none=>rfl
 |some o=>cases o<;>rfl
@[simp↓high] theorem wH(w:M)(a:Addr)(k:Nat)(v:N)(h:k≠a.block):(w.setCell a v).1[k]? =w.1[k]? :=by
 simp[World.setCell,IK,Ne.symm h]
theorem aG(ab:w.1[g]? =some (.cells cs bv fr))(i:Nat):w.cell? (bl g i)=cs[i]? :=cell_of_row w g i cs bv fr ab
theorem dJ(ab:w.1[g]? =some (.cells cs bv (0,0)))(i:Nat):w.frozen? (bl g i)=false:=frozen_of_row w g i cs bv ab
theorem H.setRow(h:H S w w')(am:S g\/w.1.size<=g)(c:Array N):H S w (w'.setRow g c):=
 ⟨h.os,h.tape,h.output,by simpa using h.size,λk r aq=>(adk _ _ _ _ (by
  grind)).trans (h.block k r aq)⟩
theorem H.am(h:H S w w')(ab:w.1[g]? =some (.cells cs bv fr))(aq:¬S g):w'.1[g]? =some (.cells cs bv fr):=h.obj ab aq
theorem bC.Gb(ab:w.1[g]? =some (.cells cs bv fr)){n c off:Nat}{xs:List N}(Cf:n<=c)(Z:c<=maxLen)(W:xs=(cs.toList.drop off).take n):bC w (.slice (some ⟨g,off,none⟩) n c) n xs:=by
 refine⟨_,c,rfl,Cf,Z,λ_=>⟨_,rfl,λj u ap=> ?_⟩⟩;rw[Ge,cell_of_row w g _ cs bv fr ab]
 grind
theorem RQ{e n:Nat}{v:N}{xs:List N}(h:w.ownsRow 0 e 1 v n xs)(aq:0<n):∃g cap dF,v=.slice (some ⟨g,0,none⟩) n cap/\w.1[g]? =some (.cells dF e (0,0))/\n<=cap/\cap<=maxLen/\n<=dF.size/\dF.extract 0 n=xs.toArray:=by
 rcases h.2 with⟨_,bi⟩|⟨g,cap,dF,aM,_,ab,J,T,ag,aP⟩
 ·omega
 grind
end
theorem asZ{P:Program}(w:M)(d:Nat)(t e len:Nat)(k:IntKind)(bj:P.underlying t=some (.array len e))(aV:P.underlying e=some (.int k))(aA:∀w,(sizeOf e).run P w=.ok 1 w)(ao:∀w,(isAgg e).run P w=.ok false w)
  (xs ys:List Int)(W:xs.length=len)(ar:ys.length=len):
  (Op.equalIn (d+2) t (.agg (xs.map (Value.int k)).toArray) (.agg (ys.map (Value.int k)).toArray)).run P w=.ok (decide (xs=ys)) w:=by
 rw[Op.equalIn];simp only[Sem.run_bind,run_underlying bj,Result.andThen_ok,aA];rw[Std.Legacy.Range.forIn_eq_forIn_range'];have key:∀(m s:Nat),s+m=len->(forIn (List.range' s m 1) ((none,()):Option Bool×Unit) (λi _=>do
     let a<-part e (xs.map (Value.int k)).toArray (i*1);let b<-part e (ys.map (Value.int k)).toArray (i*1);let V<-Op.equalIn (d+1) e a b
     if(!V)=true then pure (ForInStep.done (some false,()))else pure (ForInStep.yield (none,()))):Sem (Option Bool×Unit)).run P w=.ok (if xs.drop s=ys.drop s then(none,())else(some false,())) w:=by
  intro m
  induction m with
  |zero=>
   intro s adf;have J:xs.drop s=[]:=Xn.2 (by omega);have T:ys.drop s=[]:=Xn.2 (by omega);simp[J,T]
  |succ m bL=>
   intro s adf;have LH:s<xs.length:=by omega
   have Gm:s<ys.length:=by omega
   rw[List.range'_succ];have oY:(part e (xs.map (Value.int k)).toArray (s*1)).run P w=.ok (.int k xs[s]) w:=by simp[part,ao,LH]
   have jH:(part e (ys.map (Value.int k)).toArray (s*1)).run P w=.ok (.int k ys[s]) w:=by simp[part,ao,Gm]
   simp only[List.forIn_cons,Sem.run_bind,oY,jH,Result.andThen_ok,run_equalIn_int w d e k k _ _ aV];have aL:=xD LH;have aR:=xD Gm;rw[aL,aR];by_cases au:xs[s]=ys[s]
   ·have:=bL (s+1) (by omega);simp only[au,beq_self_eq_true,Sb,wk,if_false,Sem.run_pure,Result.andThen_ok,this,List.cons.injEq,true_and]
   ·have dn:¬(xs[s]::xs.drop (s+1)=ys[s]::ys.drop (s+1)):=λh=>au (List.cons.inj h).1
    simp_all
 rw[show List.range' (Std.Legacy.Range.start [:len]) (Std.Legacy.Range.size [:len]) (Std.Legacy.Range.step [:len])=List.range' 0 len 1 by simp[Std.Legacy.Range.size]];rw[key len 0 (by omega)];by_cases au:xs=ys<;>simp[au]
theorem as0(l:List UInt8):br l=(l.map λc=>(c.toNat:Int)).map (Value.int .u8):=by simp[br,ce,Function.comp_def]
theorem WX{P:Program}(w:M)(d:Nat)(t e len:Nat)(bj:P.underlying t=some (.array len e))(aV:P.underlying e=some (.int .u8))(aA:∀w,(sizeOf e).run P w=.ok 1 w)(ao:∀w,(isAgg e).run P w=.ok false w)
  (xs ys:List UInt8)(W:xs.length=len)(ar:ys.length=len):
  (Op.equalIn (d+2) t (.agg (br xs).toArray) (.agg (br ys).toArray)).run P w=.ok (decide (xs=ys)) w:=by
 rw[as0,as0,asZ w d t e len .u8 bj aV aA ao _ _ (by simpa using W) (by simpa using ar)];congr 1;rw[decide_eq_decide];constructor
 ·intro h;have:∀(a b:List UInt8),(a.map λc=>(c.toNat:Int))=(b.map λc=>(c.toNat:Int))->a=b:=by
   intro a
   induction a with
   |nil=>simp_all
   |cons x a bL=>
    intro b h
    cases b with
    |nil=>simp at h
    |cons y b=>
     simp at h;rw[UInt8.toNat_inj.1 (by omega:x.toNat=y.toNat),bL b (by simpa using h.2)]
  exact this _ _ h
 ·rintro rfl;rfl
def DT(n:Nat):N:=.int .u16 n
def hg(l:List Nat):List N:=l.map DT
theorem DS(l:List Nat):(hg l).length=l.length:=oV ..
theorem as1(l:List Nat):hg l=(l.map λc:Nat=>(c:Int)).map (Value.int .u16):=by simp[hg,DT,Function.comp_def]
theorem acD(l:List Nat):∀u∈hg l,u.oneCell'=true:=by
 intro u ap;obtain⟨c,_,rfl⟩:=lF.1 ap;rfl
theorem acq{P:Program}(w:M)(d:Nat)(t e len:Nat)(bj:P.underlying t=some (.array len e))(aV:P.underlying e=some (.int .u16))(aA:∀w,(sizeOf e).run P w=.ok 1 w)(ao:∀w,(isAgg e).run P w=.ok false w)
  (xs ys:List Nat)(W:xs.length=len)(ar:ys.length=len):
  (Op.equalIn (d+2) t (.agg (hg xs).toArray) (.agg (hg ys).toArray)).run P w=.ok (decide (xs=ys)) w:=by
 rw[as1,as1,asZ w d t e len .u16 bj aV aA ao _ _ (by simpa using W) (by simpa using ar)];congr 1;rw[decide_eq_decide];constructor
 ·intro h;have:∀(a b:List Nat),(a.map λc:Nat=>(c:Int))=(b.map λc:Nat=>(c:Int))->a=b:=by
   intro a
   induction a with
   |nil=>simp_all
   |cons x a bL=>
    intro b h
    cases b with
    |nil=>simp at h
    |cons y b=>
     grind
  exact this _ _ h
 ·rintro rfl;rfl
theorem IF{P:Program}{t e len:Nat}{cs:Array N}{kd:IntKind}{k:Nat}{u:N}(bj:P.underlying t=some (.array len e))(aA:∀w,(sizeOf e).run P w=.ok 1 w)(ao:∀w,(isAgg e).run P w=.ok false w)(r:k<len)(W:cs[k]? =some u)(w:M):
  (Instr.index t (.agg cs) (.int kd k)).run P w=.ok u w:=by
 simp[Instr.index,asIntOf,run_underlying bj,part,aA,ao,r,W]
theorem aJL{P:Program}{t:Nat}{Jh:Array Field}{i:Nat}{f:Field}{cs:Array N}{u:N}(bj:P.underlying t=some (.struct Jh))(bP:Jh[i]? =some f)(ao:∀w,(isAgg f.type).run P w=.ok false w)(W:cs[f.offset]? =some u)(w:M):
  (Instr.field t (.agg cs) i).run P w=.ok u w:=by
 simp[Instr.field,run_underlying bj,bP,asAgg,part,ao,W]
@[simp] theorem aSN(l:List UInt8)(n:Nat)(h:l.length<=n):(br l).take n=br l:=mP (by rw[eO];exact h)
def aj(g:Nat):Nat->Prop:=λk=>k=g
structure kD(e:Nat)(w0:M)(v:N)(n:Nat)(xs:List N)(w:M):Prop where
 own:w.ownsRow 0 e 1 v n xs
 ch:H al w0 w
 pF:gr w0.1.size v
section
variable {e:Nat}{w0 w w':M}{v v':N}{n fB:Nat}{xs jn:List N}
theorem kD.nil(e:Nat)(h:H al w0 w):kD e w0 (.slice none 0 0) 0 [] w:=⟨pA _ _ _ _,h,λk r=>by simp[Value.ownBlock]at r⟩
theorem kD.grow(h:kD e w0 v n xs w)(J:w'.ownsRow 0 e 1 v' fB jn)(T:H (λk=>v.ownBlock=some k) w w')(ag:v'.ownBlock=v.ownBlock\/gr w.1.size v'):kD e w0 v' fB jn w':=by
 refine⟨J,h.ch.bZ T λj I e=> ?_,?_⟩
 ·have:=h.pF j e;omega
 ·rcases ag with ag|ag
  ·intro k r;exact h.pF k (by rw[<-ag];exact r)
  ·exact ag.mono h.ch.size
theorem kD.drew(h:kD e w0 v n xs w):kD e w0 v n xs w.drew:=⟨h.own,h.ch.drew,h.pF⟩
theorem kD.step(h:kD e w0 v n xs w)(Z:H al w w'):kD e w0 v n xs w':=⟨gu h.own Z λ_ _ e=>e,h.ch.trans Z,h.pF⟩
theorem kD.dR(h:kD e w0 v n xs w):bC w v n xs:=bC.fF h.own
end
theorem aJb(l:List UInt8)(k:Nat)(c:UInt8):(br l).toArray.setIfInBounds k (ce c)=(br (l.set k c)).toArray:=by
 apply ip;simp[br,Ou]
theorem ar7{l:List UInt8}{k:Nat}{c:UInt8}(h:l[k]? =some c):(br l)[k]? =some (ce c):=by simp[br,h]
theorem uf{cs us:Array N}{off:Nat}(h:off+us.size<=cs.size):(dT cs off us).size=cs.size:=by
 unfold dT;simp;omega
theorem aJM(cs:Array N)(off:Nat)(u:N)(us:List N)(h:off+1+us.length<=cs.size):dT (cs.setIfInBounds off u) (off+1) us.toArray=dT cs off (u::us).toArray:=by
 unfold dT;apply ip;have J:off<cs.toList.length:=by simp;omega
 have aL:(cs.toList.set off u).take (off+1)=cs.toList.take off++[u]:=by
  rw[nA,So,ac6 (by simp;omega),Sh J];rfl
 have aR:(cs.toList.set off u).drop (off+1+us.length)=cs.toList.drop (off+(us.length+1)):=by
  rw[Sp,be (by omega),show off+1+us.length=off+(us.length+1)by omega]
 grind
theorem as2:∀(us:List N) (cs:Array N) (off:Nat) (s:Nat),off+s+us.length<=cs.size->((us.zipIdx s).foldl (λcs x=>cs.setIfInBounds (off+x.2) x.1) cs)=dT cs (off+s) us.toArray
 |[],cs,off,s,h=>by
  simp[dT]
 |u::us,cs,off,s,h=>by
  rw[List.zipIdx_cons,yO,as2 us _ off (s+1) (by simp at h⊢;omega)];exact aJM cs (off+s) u us (by simp at h;omega)
def jw(NJ:Nat->Option (Nat×Nat))(cells:Array N):List (Nat×N)->Option (Array N)
 |[]=>some cells
 |(i,v)::cP=>match NJ i with
  |none=>none
  |some (off,size)=>if v.cells.size=size/\off+size<=cells.size then jw NJ (dT cells off v.cells) cP else none
theorem XR(NJ:Nat->Option (Nat×Nat)):∀(yS:List (Nat×N)) (cells:Array N),Instr.fill NJ cells yS=jw NJ cells yS
 |[],_=>rfl
 |(i,v)::cP,cells=>by
  unfold Instr.fill jw
  cases NJ i with
  |none=>rfl
  |some x=>
   obtain⟨off,size⟩:=x;simp only;by_cases h:v.cells.size=size/\off+size<=cells.size
   ·rw[be h,aQ (by
     grind)]
    rw[<-XR NJ cP];congr 1;have:=as2 v.cells.toList cells off 0 (by simp;omega);simp only[Ec,Array.toArray_toList]at this;rw[<-this,<-Array.foldl_toList];simp[Array.toList_zipIdx]
   grind
theorem ma{P:Program}{t:TypeId}{Jh:Array Field}{places:Array (Nat×Nat)}{yS:List (Nat×N)}{w:M}{K:N->M->Prop}{cs:Array N}(bj:P.underlying t=some (.struct Jh))(hz:(P.info? t).map (λi=>i.zero.isSome)=some true)
  (am:(Jh.mapM (λf=>do pure (f.offset,<-sizeOf f.type)):Sem (Array (Nat×Nat))).run P w=.ok places w)(bP:jw (places[·]?) (kN P t) yS=some cs):jb P t yS w K=K (.agg cs) w:=by
 unfold jb gH
 cases au:P.info? t with
 |none=>simp[au]at hz
 |some i=>
  cases ad:i.zero with
  |none=>simp[au,ad]at hz
  |some v=>
   have Ch:kN P t=v.cells:=by unfold kN;simp[au,ad]
   simp only[Ch,<-XR]at bP;simp only[Instr.build,zeroValue,typeInfo,Sem.run_bind,run_program,Result.andThen_ok,au,ad,Sem.run_pure,run_underlying bj,am,bP]
@[simp↓high] theorem aSO(w:M)(cs yU:Array N)(bv:TypeId)(fr:Nat×Nat):(w.alloc (.cells cs bv fr)).setRow w.1.size yU=w.alloc (.cells yU bv fr):=by
 unfold World.setRow World.alloc;congr 1;apply OQ;intro i;simp[IK];split
 ·rename_i h;subst h;simp
 ·rw[Array.getElem?_push,Array.getElem?_push];split
  ·rename_i J T;exact absurd T.symm J
  ·rfl
@[simp↓high] theorem aSP(w:M)(g:Nat)(cs:Array N):w.drew.setRow g cs=(w.setRow g cs).drew:=f_ rfl
theorem oF(w:M)(A B:Obj):((w.alloc A).alloc B).1[w.1.size]? =some A:=by simp_all
theorem nM(w:M)(A B:Obj):((w.alloc A).alloc B).1[w.1.size+1]? =some B:=asX _ _ _ (by simp)
theorem alf(w:M)(A B C:Obj):(((w.alloc A).alloc B).alloc C).1[w.1.size]? =some A:=by rw[rQ _ _ _ (by simp;omega),oF]
theorem alg(w:M)(A B C:Obj):(((w.alloc A).alloc B).alloc C).1[w.1.size+1]? =some B:=by simp_all
theorem alh(w:M)(A B C:Obj):(((w.alloc A).alloc B).alloc C).1[w.1.size+2]? =some C:=asX _ _ _ (by simp)
structure Bc(P:Program)(t e:TypeId)(z:N)(size bytes:Nat):Prop where
 oX:P.underlying t=some (.slice e)
 yR:(P.info? e).map (λi=>(i.zero,i.size,i.bytes))=some (some z,size,bytes)
 cells:z.cells.size=size
 pos:0<size
section
variable {P:Program}{w:M}{t e bV:TypeId}{z:N}{size bytes:Nat}{K:N->M->Prop}
theorem aJN(bv:Bc P t e z size bytes){v:N}{n m c:Nat}{xs news:List N}{bx:Addr}(fG:w.ownsRow 0 e size v n xs)(ak:news.length=m*size)(aeb:∀j u,news[j]? =some u->w.cell? (bx.add j)=some u)(J:∀u∈news,u.oneCell'=true)
  (th:n+m<=maxLen)(ti:(n+m)*bytes<=140737488355328)
  (h:∀v' w',w'.ownsRow 0 e size v' (n+m) (xs++news)->H (λk=>v.ownBlock=some k) w w'->(v'.ownBlock=v.ownBlock\/gr w.1.size v')->K v' w'):
  pN P .append #[t,t] bV #[v,.slice (some bx) m c] w K:=by
 obtain⟨i,ad,hz,cU,AF⟩:=info_parts bv.yR;obtain⟨v',w',ax,bn,bh,_,ex⟩:=run_append_own_at (P:=P) w 0 t bV e i z size bytes bv.oX ad hz cU AF bv.cells bv.pos v n xs fG bx m c news ak aeb J th ti (gG _);refine KR ax (h v' w' bn (H.yQ bh) (ex.imp id λe k r=> ?_))
 grind
theorem wJ(bv:Bc P t e z size bytes){v:N}{n:Nat}{xs us:List N}(fG:w.ownsRow 0 e size v n xs)(ak:us.length=size)(J:∀u∈us,u.oneCell'=true)(th:n+1<=maxLen)(ti:(n+1)*bytes<=140737488355328)
  (h:∀v' w',w'.ownsRow 0 e size v' (n+1) (xs++us)->H (λk=>v.ownBlock=some k) w w'->(v'.ownBlock=v.ownBlock\/gr w.1.size v')->K v' w'):
  pN P .append #[t,t] bV #[v,.slice (some ⟨w.1.size,0,none⟩) 1 1] (w.alloc (.cells us.toArray e)) K:=by
 refine aJN bv (fG.alloc _) (news:=us) (by omega) (λj u ap=> ?_) J th ti λv' w' bn bh bA=>h v' w' bn (((H.refl _ w).alloc _).trans bh) (bA.imp id λh=>h.mono (by simp));rw[Ge,cell_of_row _ _ _ _ _ _ (heap_alloc_new w _)];simpa using ap
end
structure vS(e size:Nat)(w0:M)(v:N)(n:Nat)(xs:List N)(w:M):Prop where
 own:w.ownsRow 0 e size v n xs
 ch:H al w0 w
 pF:gr w0.1.size v
section
variable {e size:Nat}{w0 w w':M}{v v':N}{n fB:Nat}{xs jn:List N}
theorem vS.nil(e size:Nat)(h:H al w0 w):vS e size w0 (.slice none 0 0) 0 [] w:=⟨pA _ _ _ _,h,λk r=>by simp[Value.ownBlock]at r⟩
theorem vS.grow(h:vS e size w0 v n xs w)(J:w'.ownsRow 0 e size v' fB jn)(T:H (λk=>v.ownBlock=some k) w w')(ag:v'.ownBlock=v.ownBlock\/gr w.1.size v'):vS e size w0 v' fB jn w':=by
 refine⟨J,h.ch.bZ T λj I e=> ?_,?_⟩
 ·have:=h.pF j e;omega
 ·rcases ag with ag|ag
  ·intro k r;exact h.pF k (by rw[<-ag];exact r)
  ·exact ag.mono h.ch.size
theorem vS.step(h:vS e size w0 v n xs w)(Z:H al w w'):vS e size w0 v n xs w':=⟨gu h.own Z λ_ _ e=>e,h.ch.trans Z,h.pF⟩
end
theorem A'{w:M}{e size n:Nat}{v:N}{xs:List N}(h:w.ownsRow 0 e size v n xs)(aq:0<n):∃g cap dF,v=.slice (some ⟨g,0,none⟩) n cap/\n<=cap/\cap<=maxLen/\w.1[g]? =some (.cells dF e (0,0))/\n*size<=dF.size/\∀(j:Nat) (u:N),xs[j]? =some u->w.cell? (bl g j)=some u:=by
 rcases h.2 with⟨_,bi⟩|⟨g,cap,dF,aM,_,ab,J,T,ag,aP⟩
 ·omega
 ·refine⟨g,cap,dF,aM,J,T,ab,by rw[ag];exact Sn _ J,λj u ap=> ?_⟩;have:=h.cells (g:=g) (by rw[aM];rfl) j u ap;rwa[Ge,xB]at this
open Go.MapKept Go.ChangeMaps
def qI:List MapEntry->Nat->Option N
 |[],_=>none
 |e::ha,a=>if intOf e.key=(a:Int)then some e.val else qI ha a
structure aJO(ha:List MapEntry):Prop where
 DB:∀e∈ha,∃k:Nat,e.key=.int .u16 k
 FM:ha.Pairwise λx y=>intOf x.key≠intOf y.key
def o'(w:M)(b:Nat)(a':Nat->Option N):Prop:=∃ha mD,w.1[b]? =some (.map ha mD)/\aJO ha.toList/\∀a,qI ha.toList a=a' a
theorem VR{a:Nat}:∀{l:List MapEntry},(∀e∈l,intOf e.key≠(a:Int))->qI l a=none
 |[],_=>rfl
 |e::l,h=>by rw[qI,aQ (h e (by simp))];exact VR λx W=>h x (by simp[W])
theorem air{a:Nat}{e:MapEntry}:∀{l:List MapEntry} {j:Nat},l.Pairwise (λx y=>intOf x.key≠intOf y.key)->l[j]? =some e->intOf e.key=(a:Int)->qI l a=some e.val
 |[],_,_,h,_=>by simp at h
 |x::l,0,_,h,r=>by
  simp at h;subst h;rw[qI,be r]
 |x::l,j+1,am,h,r=>by
  simp at h;have W:=(oW.1 am).1 e (ib h);rw[qI,aQ (by rw[<-r];exact W)];exact air (oW.1 am).2 h r
theorem as3{a c:Nat}{e:MapEntry}(r:intOf e.key=(c:Int)):∀{l:List MapEntry},(∀x∈l,intOf x.key≠(c:Int))->qI (l++[e]) a=if a=c then some e.val else qI l a
 |[],_=>by
  simp only[xu,qI,r]
  grind
 |x::l,h=>by
  have W:=h x (by simp);rw[acT,qI,as3 r λy ar=>h y (by simp[ar])];by_cases mf:a=c
  ·grind
  ·rw[aQ mf,qI,aQ mf]
theorem as4{a c:Nat}{e:MapEntry}(g:MapEntry->MapEntry)(aH:∀x,intOf x.key=(c:Int)->intOf (g x).key=(c:Int))(r:intOf e.key=(c:Int)):
  ∀{l:List MapEntry} {j:Nat},l.Pairwise (λx y=>intOf x.key≠intOf y.key)->l[j]? =some e->qI (l.modify j g) a=if a=c then some (g e).val else qI l a
 |[],_,_,h=>by simp at h
 |x::l,0,am,h=>by
  simp at h;subst h;simp only[List.modify_zero_cons,qI,aH x r,r]
  grind
 |x::l,j+1,am,h=>by
  simp at h;have W:=(oW.1 am).1 e (ib h);rw[r]at W;rw[List.modify_succ_cons,qI,as4 g aH r (oW.1 am).2 h];by_cases mf:a=c
  ·grind
  ·rw[aQ mf,aQ mf,qI]
theorem as5{a c:Nat}{e:MapEntry}(r:intOf e.key=(c:Int)):
  ∀{l:List MapEntry} {j:Nat},l.Pairwise (λx y=>intOf x.key≠intOf y.key)->l[j]? =some e->qI (l.eraseIdx j) a=if a=c then none else qI l a
 |[],_,_,h=>by simp at h
 |x::l,0,am,h=>by
  simp at h;subst h;rw[List.eraseIdx_cons_zero];by_cases mf:a=c
  ·subst mf;rw[be rfl];exact VR λy ar=>by
    have:=(oW.1 am).1 y ar;omega
  ·have:¬(c:Int)=(a:Int):=by omega
   rw[aQ mf,qI,r,aQ this]
 |x::l,j+1,am,h=>by
  simp at h;have W:=(oW.1 am).1 e (ib h);rw[r]at W;rw[List.eraseIdx_cons_succ,qI,as5 r (oW.1 am).2 h];by_cases mf:a=c
  ·grind
  ·rw[aQ mf,aQ mf,qI]
theorem abj{w:M}{b:Nat}(h:b<w.1.size)(o:Obj):(setBlock w b o).1[b]? =some o:=by simp[ChangeMaps.setBlock,h]
def isMap(b:Nat):Nat->Prop:=λk=>k=b
theorem H.setBlock{S:Nat->Prop}{w w':M}(h:H S w w'){b:Nat}(ab:S b\/w.1.size<=b)(o:Obj):H S w (setBlock w' b o):=
 ⟨h.os,h.tape,h.output,by simpa[ChangeMaps.setBlock]using h.size,λk r aq=>by
  have dn:b≠k:=by
   rintro rfl;rcases ab with ab|ab
   ·exact aq ab
   ·omega
  simp only[ChangeMaps.setBlock];rw[XC dn];exact h.block k r aq⟩
section
variable {P:Program}{w:M}{t k e:TypeId}{b:Nat}{a':Nat->Option N}
theorem o'.lt(h:o' w b a'):b<w.1.size:=by
 obtain⟨ha,mD,ab,_⟩:=h;exact lt_of_block ab
theorem o'.ch{S:Nat->Prop}{w':M}(h:o' w b a')(Z:H S w w')(aq:¬S b):o' w' b a':=by
 obtain⟨ha,mD,ab,J,T⟩:=h;exact⟨ha,mD,Z.obj ab aq,J,T⟩
theorem o'.bX(w:M):o' (w.alloc (.map #[] 0)) w.1.size (λ_=>none):=⟨#[],0,heap_alloc_new w _,⟨by simp,by simp⟩,λa=>rfl⟩
theorem uW(a:Int):IsKey (.int .u16) (.int .u16 a):=rfl
theorem o'.look_ok(h:o' w b a')(bj:P.underlying t=some (.map k e))(r:P.underlying k=some (.int .u16)){z:N}(hz:(zeroValue e).run P w=.ok z w)(a:Nat):
  (Instr.lookup t (.map (some b)) (.int .u16 a) true).run P w=.ok (.tuple #[(a' a).getD z,.bool (a' a).isSome]) w:=by
 obtain⟨ha,mD,ab,J,T⟩:=h;have qG:∀x∈ha.toList,IsKey (.int .u16) x.key:=λx W=>by obtain⟨q,au⟩:=J.DB x W;rw[au];exact uW _
 rcases findNow_spec (uW a) ha.toList 0 qG with⟨cC,cj⟩|⟨j,dk,cC,cj,cp⟩
 ·have aq:a' a=none:=by
   rw[<-T a];exact VR λx W fN=>cj x W (by
    obtain⟨q,au⟩:=J.DB x W;rw[au]at fN⊢;simp only[intOf]at fN;rw[fN])
  rw[aq];simp[Instr.lookup,run_underlying bj,MapKept.run_getObj_map ab,run_checkKey r (uW a),run_findKey r cC,hz,Result.andThen]
 ·have aA:a' a=some dk.val:=by
   rw[<-T a];exact air J.FM cj (by rw[cp];rfl)
  rw[aA];simp[Instr.lookup,run_underlying bj,MapKept.run_getObj_map ab,run_checkKey r (uW a),run_findKey r cC,Result.andThen]
theorem o'.oI(h:o' w b a')(bj:P.underlying t=some (.map k e))(r:P.underlying k=some (.int .u16)){z:N}(hz:(zeroValue e).run P w=.ok z w)(a:Nat):
  (Instr.lookup t (.map (some b)) (.int .u16 a) false).run P w=.ok ((a' a).getD z) w:=by
 obtain⟨ha,mD,ab,J,T⟩:=h;have qG:∀x∈ha.toList,IsKey (.int .u16) x.key:=λx W=>by obtain⟨q,au⟩:=J.DB x W;rw[au];exact uW _
 rcases findNow_spec (uW a) ha.toList 0 qG with⟨cC,cj⟩|⟨j,dk,cC,cj,cp⟩
 ·have aq:a' a=none:=by
   rw[<-T a];exact VR λx W fN=>cj x W (by
    obtain⟨q,au⟩:=J.DB x W;rw[au]at fN⊢;simp only[intOf]at fN;rw[fN])
  rw[aq];simp[Instr.lookup,run_underlying bj,MapKept.run_getObj_map ab,run_checkKey r (uW a),run_findKey r cC,hz,Result.andThen]
 ·have aA:a' a=some dk.val:=by
   rw[<-T a];exact air J.FM cj (by rw[cp];rfl)
  rw[aA];simp[Instr.lookup,run_underlying bj,MapKept.run_getObj_map ab,run_checkKey r (uW a),run_findKey r cC,Result.andThen]
theorem o'.hW(h:o' w b a')(bj:P.underlying t=some (.map k e))(r:P.underlying k=some (.int .u16))(a:Nat)(v:N):
  ∃w',(Instr.mapUpdate t (.map (some b)) (.int .u16 a) v).run P w=.ok () w'/\o' w' b (λx=>if x=a then some v else a' x)/\H (isMap b) w w'/\w'.1.size=w.1.size:=by
 obtain⟨ha,mD,ab,J,T⟩:=h;have aO:=lt_of_block ab;have qG:∀x∈ha.toList,IsKey (.int .u16) x.key:=λx W=>by obtain⟨q,au⟩:=J.DB x W;rw[au];exact uW _
 rcases findNow_spec (uW a) ha.toList 0 qG with⟨cC,cj⟩|⟨j,dk,cC,cj,cp⟩
 ·have dn:∀x∈ha.toList,intOf x.key≠(a:Int):=λx W fN=>cj x W (by
    obtain⟨q,au⟩:=J.DB x W;rw[au]at fN⊢;simp only[intOf]at fN;rw[fN])
  refine⟨setBlock w b (.map (ha.push ⟨.int .u16 a,v,mD⟩) (mD+1)),?_,⟨_,_,abj aO _,⟨λx W=> ?_,?_⟩,λx=> ?_⟩,(H.refl (isMap b) w).setBlock (.inl rfl) _,by simp[ChangeMaps.setBlock]⟩
  ·simp[Instr.mapUpdate,run_underlying bj,MapKept.run_getObj_map ab,run_checkKey r (uW a),run_findKey r cC,MapKept.run_setObj_map _ ab,Result.andThen,ChangeMaps.setBlock]
  ·simp only[ac7,hP,sc]at W;rcases W with W|rfl
   ·exact J.DB x W
   ·exact⟨a,rfl⟩
  ·rw[ac7,List.pairwise_append];refine⟨J.FM,by simp,λx W y ar=> ?_⟩;simp only[sc]at ar;subst ar;exact dn x W
  ·rw[ac7,as3 (c:=a) rfl dn,T x]
 ·have I:ha[j]? =some dk:=by simpa using cj
  refine⟨setBlock w b (.map (ha.modify j (λek=>{ek with key:=.int .u16 a,val:=v})) mD),?_,⟨_,_,abj aO _,⟨λx W=> ?_,?_⟩,λx=> ?_⟩,(H.refl (isMap b) w).setBlock (.inl rfl) _,by simp[ChangeMaps.setBlock]⟩
  ·simp[Instr.mapUpdate,run_underlying bj,MapKept.run_getObj_map ab,run_checkKey r (uW a),run_findKey r cC,I,cp,run_keyThatStays (uW a),MapKept.run_setObj_map _ ab,Result.andThen,ChangeMaps.setBlock]
  ·rcases MapFrom.mem_modify W with W|⟨ek,_,rfl⟩
   ·exact J.DB x W
   ·exact⟨a,rfl⟩
  ·rw[Array.toList_modify];have aC:(ha.toList.modify j (λek=>{ek with key:=.int .u16 a,val:=v})).map (λx=>intOf x.key)=ha.toList.map (λx=>intOf x.key):=by
    rw[modify_eq_set _ _ _ _ cj,Ou];apply yM;intro i;by_cases iT:j=i
    ·grind
    ·rw[List.getElem?_set_ne iT]
   have:=J.FM;rw[<-Sl (f:=λx:MapEntry=>intOf x.key) (R:=λa b=>a≠b)]at this⊢;rw[aC];exact this
  ·rw[Array.toList_modify,as4 (c:=a) _ (λy _=>rfl) (by rw[cp];rfl) J.FM cj,T x]
theorem o'.del(h:o' w b a')(bj:P.underlying t=some (.map k e))(r:P.underlying k=some (.int .u16))(a:Nat)(bV:TypeId):
  ∃w',(Builtin.delete_ #[t,k] bV #[.map (some b),.int .u16 a]).run P w=.ok (.tuple #[]) w'/\o' w' b (λx=>if x=a then none else a' x)/\H (isMap b) w w'/\w'.1.size=w.1.size:=by
 obtain⟨ha,mD,ab,J,T⟩:=h;have aO:=lt_of_block ab;have qG:∀x∈ha.toList,IsKey (.int .u16) x.key:=λx W=>by obtain⟨q,au⟩:=J.DB x W;rw[au];exact uW _
 rcases findNow_spec (uW a) ha.toList 0 qG with⟨cC,cj⟩|⟨j,dk,cC,cj,cp⟩
 ·have dn:∀x∈ha.toList,intOf x.key≠(a:Int):=λx W fN=>cj x W (by
    obtain⟨q,au⟩:=J.DB x W;rw[au]at fN⊢;simp only[intOf]at fN;rw[fN])
  refine⟨setBlock w b (.map ha mD),?_,⟨_,_,abj aO _,J,λx=> ?_⟩,(H.refl (isMap b) w).setBlock (.inl rfl) _,by simp[ChangeMaps.setBlock]⟩
  ·simp[Builtin.delete_,run_underlying bj,MapKept.run_getObj_map ab,run_checkKey r (uW a),run_findKey r cC,MapKept.run_setObj_map _ ab,Result.andThen,ChangeMaps.setBlock]
  ·show _=if x=a then none else a' x
   by_cases W:x=a
   ·subst W;rw[be rfl];exact VR dn
   ·rw[aQ W];exact T x
 ·have iP:j<ha.toList.length:=(jG.1 cj).1;have aJP:j<ha.size:=by simpa using iP
  have H':(ha.eraseIdxIfInBounds j).toList=ha.toList.eraseIdx j:=by
   unfold Array.eraseIdxIfInBounds;rw[dif_pos aJP];simp
  refine⟨setBlock w b (.map (ha.eraseIdxIfInBounds j) mD),?_,⟨_,_,abj aO _,⟨λx W=> ?_,?_⟩,λx=> ?_⟩,(H.refl (isMap b) w).setBlock (.inl rfl) _,by simp[ChangeMaps.setBlock]⟩
  ·simp[Builtin.delete_,run_underlying bj,MapKept.run_getObj_map ab,run_checkKey r (uW a),run_findKey r cC,MapKept.run_setObj_map _ ab,Result.andThen,ChangeMaps.setBlock]
  ·rw[H']at W;exact J.DB x ((List.eraseIdx_sublist _ _).subset W)
  ·rw[H'];exact J.FM.sublist (List.eraseIdx_sublist _ _)
  ·rw[H',as5 (c:=a) (by rw[cp];rfl) J.FM cj,T x]
end
end Go.Kin
namespace Go.Kin
open Go Go.RowKit Go.Sort
theorem zR{P:Program}{n id:Nat}{Q:hM}{K:ut}{c:Code}{ms:List Nat}{f:Nat->N}{w:M}(bq:(Nat->N)->M->Prop)(h:Jj P n (yx id (j' (ki ms bq) Q)) c ms f w)(bW:∀f w,bq f w->K ms f w):Jj P n (yx id (j' K Q)) c ms f w:=by
 rw[<-aJQ]at h⊢;exact eu.mono _ (ais (VS (ki.go bW) λ_ _ _ _ h=>h)) ms f w h
section
variable {α:Type}[Inhabited α](enc:α->N)
def dM(w:M)(b:Nat)(d:Array α):Prop:=∃dF bv,w.1[b]? =some (.cells dF bv (0,0))/\∀i,i<d.size->dF[i]? =some (enc d[i]!)
variable {enc}{w w':M}{b:Nat}{d:Array α}{S:Nat->Prop}
theorem dM.lt(h:dM enc w b d):b<w.1.size:=by
 obtain⟨dF,bv,h,_⟩:=h;exact lt_of_block h
theorem dM.cell(h:dM enc w b d){i:Nat}(ad:i<d.size):w.cell? (bl b i)=some (enc d[i]!):=by
 obtain⟨dF,bv,h,T⟩:=h;rw[aG h];exact T i ad
theorem dM.aJR(h:dM enc w b d)(i:Nat):w.frozen? (bl b i)=false:=by
 obtain⟨dF,bv,h,T⟩:=h;exact dJ h i
theorem dM.ch(h:dM enc w b d)(Z:H S w w')(aq:¬S b):dM enc w' b d:=by
 obtain⟨dF,bv,h,T⟩:=h;exact⟨dF,bv,Z.obj h aq,T⟩
theorem dM.drew(h:dM enc w b d):dM enc w.drew b d:=h
theorem dM.swp(h:dM enc w b d){i j:Nat}(ad:i<d.size)(I:j<d.size):dM enc ((w.setCell ⟨b,i,none⟩ (enc d[j]!)).setCell ⟨b,j,none⟩ (enc d[i]!)) b (swp d i j):=by
 obtain⟨dF,bv,h,T⟩:=h;refine⟨(dF.setIfInBounds i (enc d[j]!)).setIfInBounds j (enc d[i]!),bv,by simp_all,λk r=> ?_⟩;rw[size_swp]at r;have aJS:=T i ad;have aad:=T j I;have mq:=T k r;have hJ:=(B'.1 aJS).1;have iF:=(B'.1 aad).1;by_cases aL:j=k
 ·subst aL;rw[Array.getElem?_setIfInBounds_self_of_lt (by simpa using iF),swp_right d i j I]
 ·rw[XC aL];by_cases aR:i=k
  ·subst aR;rw[Array.getElem?_setIfInBounds_self_of_lt hJ,swp_left d i j ad (Ne.symm aL)]
  ·rw[XC aR,mq,swp_other d i j k (Ne.symm aR) (Ne.symm aL)]
theorem H.swp(i j:Nat)(x y:N):H (aj b) w ((w.setCell ⟨b,i,none⟩ x).setCell ⟨b,j,none⟩ y):=
 ((H.refl (aj b) w).setCell (p:=bl b i) (.inl rfl) _).setCell (p:=bl b j) (.inl rfl) _
theorem dM.fF{e n:Nat}{g cap:Nat}{xs:List N}(h:w.ownsRow 0 e 1 (.slice (some ⟨g,0,none⟩) n cap) n xs)(W:xs=d.toList.map enc)(aq:n=d.size):dM enc w g d:=by
 rcases h.2 with⟨aM,_⟩|⟨nE,aio,dF,aM,_,ab,J,T,ag,aP⟩
 ·cases aM
 ·cases aM
  refine⟨dF,e,ab,λi ad=> ?_⟩;have bH:xs[i]? =some (enc d[i]!):=by
   rw[W,oo,acW,yP ad];simp[ad]
  grind
end
section
variable {α:Type}[Inhabited α]{lt:α->α->Bool}
theorem aJT(a j:Nat)(d:Array α)(I:a<j)(ak:lt d[j]! d[j - 1]! =true):insInner lt a j d=insInner lt a (j - 1) (swp d j (j - 1)):=by
 obtain⟨q,rfl⟩:∃q,j=q+1:=⟨j - 1,by omega⟩;have J:q+1>a:=I;have T:lt d[q+1]! d[q]! =true:=ak;rw[insInner];simp[J,T]
theorem aJU(a j:Nat)(d:Array α)(h:j<=a\/lt d[j]! d[j - 1]! =false):insInner lt a j d=d:=by
 cases j with
 |zero=>rfl
 |succ q=>
  rw[insInner]
  grind
theorem aJV(a b i:Nat)(d:Array α)(h:i<b):insOuter lt a b i d=insOuter lt a b (i+1) (insInner lt a i d):=by rw[insOuter,be h]
theorem aJW(a b i:Nat)(d:Array α)(h:¬i<b):insOuter lt a b i d=d:=by rw[insOuter,aQ h]
theorem ait(ad first bO:Nat)(d:Array α):siftDown lt ad first bO d=if 2*bO+1>=ad then d else
  if(decide (2*bO+2<ad)&&lt d[first+(2*bO+1)]! d[first+(2*bO+2)]!)=true then(if(!lt d[first+bO]! d[first+(2*bO+2)]!)=true then d else siftDown lt ad first (2*bO+2) (swp d (first+bO) (first+(2*bO+2))))
  else(if(!lt d[first+bO]! d[first+(2*bO+1)]!)=true then d else siftDown lt ad first (2*bO+1) (swp d (first+bO) (first+(2*bO+1)))):=by
 conv=>lhs;rw[siftDown]
 grind
theorem abk(ad first:Nat):∀(n bO:Nat) (d:Array α),ad - bO<=n->(siftDown lt ad first bO d).size=d.size
 |0,bO,d,h=>by rw[ait,be (by omega)]
 |n+1,bO,d,h=>by
  rw[ait];split
  ·rfl
  split
  ·split
   ·rfl
   ·rw[abk ad first n _ _ (by omega),size_swp]
  ·split
   ·rfl
   ·rw[abk ad first n _ _ (by omega),size_swp]
theorem as6:∀(j:Nat) (d:Array α),(shiftDown lt j d).size=d.size
 |0,d=>rfl
 |j+1,d=>by
  rw[shiftDown];split
  ·rfl
  ·rw[as6 j,size_swp]
theorem as7(b:Nat):∀(n j:Nat) (d:Array α),b - j<=n->(shiftUp lt b j d).size=d.size
 |0,j,d,h=>by rw[shiftUp,aQ (by omega)]
 |n+1,j,d,h=>by
  rw[shiftUp];split
  ·split
   ·rfl
   ·rw[as7 b n _ _ (by omega),size_swp]
  ·rfl
theorem aJX(a b s i:Nat)(d:Array α):partialIns lt a b (s+1) i d=if scanSorted lt d b i=b then(d,true)else if b - a<50 then(d,false)else
  partialIns lt a b s (scanSorted lt d b i) (if b - scanSorted lt d b i>=2 then shiftUp lt b (scanSorted lt d b i+1) (if scanSorted lt d b i - a>=2 then shiftDown lt (scanSorted lt d b i - 1) (swp d (scanSorted lt d b i) (scanSorted lt d b i - 1))else swp d (scanSorted lt d b i) (scanSorted lt d b i - 1))else(if scanSorted lt d b i - a>=2 then shiftDown lt (scanSorted lt d b i - 1) (swp d (scanSorted lt d b i) (scanSorted lt d b i - 1))else swp d (scanSorted lt d b i) (scanSorted lt d b i - 1))):=rfl
end
end Go.Kin
