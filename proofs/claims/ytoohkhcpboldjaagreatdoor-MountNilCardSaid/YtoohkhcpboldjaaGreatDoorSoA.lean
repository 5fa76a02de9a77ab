/- Rows of cells that are sorted in place. They speak of no program. No condition. -/
import Derived.Test.YtoohkhcpboldjaaGreatDoorVee
import Derived.Laws.Cover3
import Derived.Laws.StructEq
import Derived.Sort.LotA
import Derived.Sort.LotB
import Derived.Sort.LotC
import Derived.Sort.LotD3
set_option linter.unusedSimpArgs false
set_option linter.unusedVariables false
namespace Go.Kin
open Go Go.RowKit
section
variable{w w':World}{g k i:Nat}{cs:Array Value}{bl:TypeId}{fr:Nat×Nat}{S:Nat->Prop}
@[simp↓high] theorem cl(w:World)(o:Obj):(w.alloc o).1[w.1.size]? =some o:=heap_alloc_new w o
@[simp↓high] theorem akY(w:World)(o:Obj)(g:Nat)(h:g=w.1.size):(w.alloc o).1[g]? =some o:=by subst h;exact heap_alloc_new w o
@[simp↓high] theorem pY(w:World)(o:Obj)(g:Nat)(h:g<w.1.size):(w.alloc o).1[g]? =w.1[g]? :=Below.heap_alloc _ o g h
@[simp↓high] theorem ye(w:World)(g:Nat):w.drew.1[g]? =w.1[g]? :=fj rfl
def akZ(c:Array Value):Option Obj->Option Obj
 |some (.cells _ bl fr)=>some (.cells c bl fr)
 |o=>o
@[simp] theorem ap7(c dg:Array Value)(bl:TypeId)(fr:Nat×Nat):akZ c (some (.cells dg bl fr))=some (.cells c bl fr):=fj rfl
def OW(i:Nat)(v:Value):Option Obj->Option Obj
 |some (.cells c bl fr)=>some (.cells (c.setIfInBounds i v) bl fr)
 |o=>o
@[simp] theorem gp(i:Nat)(v:Value)(c:Array Value)(bl:TypeId)(fr:Nat×Nat):OW i v (some (.cells c bl fr))=some (.cells (c.setIfInBounds i v) bl fr):=fj rfl
@[simp↓high] theorem gk(w:World)(g:Nat)(c:Array Value):(w.setRow g c).1[g]? =akZ c (w.1[g]?):=by
 simp[World.setRow,Array.getElem?_modify]
 cases w.1[g]? with
 |none=>rfl
 |some o=>cases o<;>rfl
@[simp↓high] theorem WD(w:World)(g k:Nat)(c:Array Value)(h:k≠g):(w.setRow g c).1[k]? =w.1[k]? :=by
 simp[World.setRow,Array.getElem?_modify,Ne.symm h]
@[simp↓high] theorem eY(w:World)(g i:Nat)(v:Value):(w.setCell ⟨g,i,none⟩ v).1[g]? =OW i v (w.1[g]?):=by
 simp[World.setCell,Array.getElem?_modify]
 cases w.1[g]? with
 |none=>rfl
 |some o=>cases o<;>rfl
@[simp↓high] theorem t_(w:World)(a:Addr)(k:Nat)(v:Value)(h:k≠a.block):(w.setCell a v).1[k]? =w.1[k]? :=by
 simp[World.setCell,Array.getElem?_modify,Ne.symm h]
theorem aG(V:w.1[g]? =some (.cells cs bl fr))(i:Nat):w.cell? ⟨g,i,none⟩=cs[i]? :=cell_of_row w g i cs bl fr V
theorem dD(V:w.1[g]? =some (.cells cs bl (0,0)))(i:Nat):w.frozen? ⟨g,i,none⟩=false:=frozen_of_row w g i cs bl V
theorem D.setRow(h:D S w w')(ah:S g\/w.1.size<=g)(c:Array Value):D S w (w'.setRow g c):=
 ⟨h.os,h.tape,h.output,by simpa using h.size,λk r av=>(WD _ _ _ _ (by
  grind)).trans (h.block k r av)⟩
theorem D.ah(h:D S w w')(V:w.1[g]? =some (.cells cs bl fr))(av:¬S g):w'.1[g]? =some (.cells cs bl fr):=h.obj V av
theorem bD.GA(V:w.1[g]? =some (.cells cs bl fr)){n c off:Nat}{xs:List Value}(GC:n<=c)(T:c<=maxLen)(M:xs=(cs.toList.drop off).take n):bD w (.slice (some ⟨g,off,none⟩) n c) n xs:=by
 refine⟨_,c,rfl,GC,T,λ_=>⟨_,rfl,λj u an=> ?_⟩⟩;rw[Addr.add_lit,cell_of_row w g _ cs bl fr V]
 grind
theorem Me{e n:Nat}{v:Value}{xs:List Value}(h:w.ownsRow 0 e 1 v n xs)(av:0<n):∃g cap di,v=.slice (some ⟨g,0,none⟩) n cap/\w.1[g]? =some (.cells di e (0,0))/\n<=cap/\cap<=maxLen/\n<=di.size/\di.extract 0 n=xs.toArray:=by
 rcases h.2 with⟨_,bf⟩|⟨g,cap,di,aS,_,V,H,I,af,aU⟩
 ·omega
 grind
end
theorem ak0{P:Program}(w:World)(d:Nat)(t e len:Nat)(k:IntKind)(bd:P.underlying t=some (.array len e))(aV:P.underlying e=some (.int k))(aw:∀w,(sizeOf e).run P w=.ok 1 w)(am:∀w,(isAgg e).run P w=.ok false w)
  (xs ys:List Int)(M:xs.length=len)(ar:ys.length=len):
  (Op.equalIn (d+2) t (.agg (xs.map (Value.int k)).toArray) (.agg (ys.map (Value.int k)).toArray)).run P w=.ok (decide (xs=ys)) w:=by
 rw[Op.equalIn];simp only[Sem.run_bind,run_underlying bd,Result.andThen_ok,aw];rw[Std.Legacy.Range.forIn_eq_forIn_range'];have key:∀(m s:Nat),s+m=len->(forIn (List.range' s m 1) ((none,()):Option Bool×Unit) (λi _=>do
     let a<-part e (xs.map (Value.int k)).toArray (i*1);let b<-part e (ys.map (Value.int k)).toArray (i*1);let J<-Op.equalIn (d+1) e a b
     if(!J)=true then pure (ForInStep.done (some false,()))else pure (ForInStep.yield (none,()))):Sem (Option Bool×Unit)).run P w=.ok (if xs.drop s=ys.drop s then(none,())else(some false,())) w:=by
  intro m
  induction m with
  |zero=>
   intro s Wx;have H:xs.drop s=[]:=List.drop_eq_nil_iff.2 (by omega);have I:ys.drop s=[]:=List.drop_eq_nil_iff.2 (by omega);simp[H,I]
  |succ m bG=>
   intro s Wx;have GD:s<xs.length:=by omega
   have Cu:s<ys.length:=by omega
   rw[List.range'_succ];have nZ:(part e (xs.map (Value.int k)).toArray (s*1)).run P w=.ok (.int k xs[s]) w:=by simp[part,am,GD]
   have n_:(part e (ys.map (Value.int k)).toArray (s*1)).run P w=.ok (.int k ys[s]) w:=by simp[part,am,Cu]
   simp only[List.forIn_cons,Sem.run_bind,nZ,n_,Result.andThen_ok,run_equalIn_int w d e k k _ _ aV];have aK:=List.drop_eq_getElem_cons GD;have aW:=List.drop_eq_getElem_cons Cu;rw[aK,aW];by_cases aq:xs[s]=ys[s]
   ·have:=bG (s+1) (by omega);simp only[aq,beq_self_eq_true,Bool.not_true,Bool.false_eq_true,if_false,Sem.run_pure,Result.andThen_ok,this,List.cons.injEq,true_and]
   ·have da:¬(xs[s]::xs.drop (s+1)=ys[s]::ys.drop (s+1)):=λh=>aq (List.cons.inj h).1
    simp_all
 rw[show List.range' (Std.Legacy.Range.start [:len]) (Std.Legacy.Range.size [:len]) (Std.Legacy.Range.step [:len])=List.range' 0 len 1 by simp[Std.Legacy.Range.size]];rw[key len 0 (by omega)];by_cases aq:xs=ys<;>simp[aq]
theorem ak1(l:List UInt8):bm l=(l.map λc=>(c.toNat:Int)).map (Value.int .u8):=by simp[bm,ca,Function.comp_def]
theorem QU{P:Program}(w:World)(d:Nat)(t e len:Nat)(bd:P.underlying t=some (.array len e))(aV:P.underlying e=some (.int .u8))(aw:∀w,(sizeOf e).run P w=.ok 1 w)(am:∀w,(isAgg e).run P w=.ok false w)
  (xs ys:List UInt8)(M:xs.length=len)(ar:ys.length=len):
  (Op.equalIn (d+2) t (.agg (bm xs).toArray) (.agg (bm ys).toArray)).run P w=.ok (decide (xs=ys)) w:=by
 rw[ak1,ak1,ak0 w d t e len .u8 bd aV aw am _ _ (by simpa using M) (by simpa using ar)];congr 1;rw[decide_eq_decide];constructor
 ·intro h;have:∀(a b:List UInt8),(a.map λc=>(c.toNat:Int))=(b.map λc=>(c.toNat:Int))->a=b:=by
   intro a
   induction a with
   |nil=>simp_all
   |cons x a bG=>
    intro b h
    cases b with
    |nil=>simp at h
    |cons y b=>
     simp at h;rw[UInt8.toNat_inj.1 (by omega:x.toNat=y.toNat),bG b (by simpa using h.2)]
  exact this _ _ h
 ·rintro rfl;rfl
def Cm(n:Nat):Value:=.int .u16 n
def ky(l:List Nat):List Value:=l.map Cm
theorem Gx(l:List Nat):(ky l).length=l.length:=List.length_map ..
theorem ak2(l:List Nat):ky l=(l.map λc:Nat=>(c:Int)).map (Value.int .u16):=by simp[ky,Cm,Function.comp_def]
theorem adW(l:List Nat):∀u∈ky l,u.oneCell'=true:=by
 intro u an;obtain⟨c,_,rfl⟩:=List.mem_map.1 an;rfl
theorem Wa{P:Program}(w:World)(d:Nat)(t e len:Nat)(bd:P.underlying t=some (.array len e))(aV:P.underlying e=some (.int .u16))(aw:∀w,(sizeOf e).run P w=.ok 1 w)(am:∀w,(isAgg e).run P w=.ok false w)
  (xs ys:List Nat)(M:xs.length=len)(ar:ys.length=len):
  (Op.equalIn (d+2) t (.agg (ky xs).toArray) (.agg (ky ys).toArray)).run P w=.ok (decide (xs=ys)) w:=by
 rw[ak2,ak2,ak0 w d t e len .u16 bd aV aw am _ _ (by simpa using M) (by simpa using ar)];congr 1;rw[decide_eq_decide];constructor
 ·intro h;have:∀(a b:List Nat),(a.map λc:Nat=>(c:Int))=(b.map λc:Nat=>(c:Int))->a=b:=by
   intro a
   induction a with
   |nil=>simp_all
   |cons x a bG=>
    intro b h
    cases b with
    |nil=>simp at h
    |cons y b=>
     grind
  exact this _ _ h
 ·rintro rfl;rfl
theorem Eo{P:Program}{t e len:Nat}{cs:Array Value}{kd:IntKind}{k:Nat}{u:Value}(bd:P.underlying t=some (.array len e))(aw:∀w,(sizeOf e).run P w=.ok 1 w)(am:∀w,(isAgg e).run P w=.ok false w)(r:k<len)(M:cs[k]? =some u)(w:World):
  (Instr.index t (.agg cs) (.int kd k)).run P w=.ok u w:=by
 simp[Instr.index,asIntOf,run_underlying bd,part,aw,am,r,M]
theorem aAD{P:Program}{t:Nat}{Eu:Array Field}{i:Nat}{f:Field}{cs:Array Value}{u:Value}(bd:P.underlying t=some (.struct Eu))(bU:Eu[i]? =some f)(am:∀w,(isAgg f.type).run P w=.ok false w)(M:cs[f.offset]? =some u)(w:World):
  (Instr.field t (.agg cs) i).run P w=.ok u w:=by
 simp[Instr.field,run_underlying bd,bU,asAgg,part,am,M]
@[simp] theorem aI7(l:List UInt8)(n:Nat)(h:l.length<=n):(bm l).take n=bm l:=List.take_of_length_le (by rw[eB];exact h)
def aj(g:Nat):Nat->Prop:=λk=>k=g
structure nf(e:Nat)(w0:World)(v:Value)(n:Nat)(xs:List Value)(w:World):Prop where
 own:w.ownsRow 0 e 1 v n xs
 ch:D ak w0 w
 up:fZ w0.1.size v
section
variable{e:Nat}{w0 w w':World}{v W:Value}{n fi:Nat}{xs il:List Value}
theorem nf.nil(e:Nat)(h:D ak w0 w):nf e w0 (.slice none 0 0) 0 [] w:=⟨World.ownsRow_nil _ _ _ _,h,λk r=>by simp[Value.ownBlock]at r⟩
theorem nf.grow(h:nf e w0 v n xs w)(H:w'.ownsRow 0 e 1 W fi il)(I:D (λk=>v.ownBlock=some k) w w')(af:W.ownBlock=v.ownBlock\/fZ w.1.size W):nf e w0 W fi il w':=by
 refine⟨H,h.ch.bJ I λj F e=> ?_,?_⟩
 ·have:=h.up j e;omega
 ·rcases af with af|af
  ·intro k r;exact h.up k (by rw[<-af];exact r)
  ·exact af.mono h.ch.size
theorem nf.step(h:nf e w0 v n xs w)(T:D ak w w'):nf e w0 v n xs w':=⟨ej h.own T λ_ _ e=>e,h.ch.trans T,h.up⟩
theorem nf.dI(h:nf e w0 v n xs w):bD w v n xs:=bD.fp h.own
end
theorem aAa(l:List UInt8)(k:Nat)(c:UInt8):(bm l).toArray.setIfInBounds k (ca c)=(bm (l.set k c)).toArray:=by
 apply Array.ext';simp[bm,List.map_set]
theorem akc{l:List UInt8}{k:Nat}{c:UInt8}(h:l[k]? =some c):(bm l)[k]? =some (ca c):=by simp[bm,h]
theorem tI{cs us:Array Value}{off:Nat}(h:off+us.size<=cs.size):(d' cs off us).size=cs.size:=by
 unfold d';simp;omega
theorem aAE(cs:Array Value)(off:Nat)(u:Value)(us:List Value)(h:off+1+us.length<=cs.size):d' (cs.setIfInBounds off u) (off+1) us.toArray=d' cs off (u::us).toArray:=by
 unfold d';apply Array.ext';have H:off<cs.toList.length:=by simp;omega
 have aK:(cs.toList.set off u).take (off+1)=cs.toList.take off++[u]:=by
  rw[List.take_add_one,List.take_set,List.set_eq_of_length_le (by simp;omega),List.getElem?_set_self H];rfl
 have aW:(cs.toList.set off u).drop (off+1+us.length)=cs.toList.drop (off+(us.length+1)):=by
  rw[List.drop_set,if_pos (by omega),show off+1+us.length=off+(us.length+1)by omega]
 grind
theorem ak3:∀(us:List Value) (cs:Array Value) (off:Nat) (s:Nat),off+s+us.length<=cs.size->((us.zipIdx s).foldl (λcs x=>cs.setIfInBounds (off+x.2) x.1) cs)=d' cs (off+s) us.toArray
 |[],cs,off,s,h=>by
  simp[d']
 |u::us,cs,off,s,h=>by
  rw[List.zipIdx_cons,List.foldl_cons,ak3 us _ off (s+1) (by simp at h⊢;omega)];exact aAE cs (off+s) u us (by simp at h;omega)
def iH(Iu:Nat->Option (Nat×Nat))(cells:Array Value):List (Nat×Value)->Option (Array Value)
 |[]=>some cells
 |(i,v)::cA=>match Iu i with
  |none=>none
  |some (off,size)=>if v.cells.size=size/\off+size<=cells.size then iH Iu (d' cells off v.cells) cA else none
theorem Rm(Iu:Nat->Option (Nat×Nat)):∀(vS:List (Nat×Value)) (cells:Array Value),Instr.fill Iu cells vS=iH Iu cells vS
 |[],_=>rfl
 |(i,v)::cA,cells=>by
  unfold Instr.fill iH
  cases Iu i with
  |none=>rfl
  |some x=>
   obtain⟨off,size⟩:=x;simp only;by_cases h:v.cells.size=size/\off+size<=cells.size
   ·rw[if_pos h,if_neg (by
     grind)]
    rw[<-Rm Iu cA];congr 1;have:=ak3 v.cells.toList cells off 0 (by simp;omega);simp only[Nat.add_zero,Array.toArray_toList]at this;rw[<-this,<-Array.foldl_toList];simp[Array.toList_zipIdx]
   grind
theorem lp{P:Program}{t:TypeId}{Eu:Array Field}{places:Array (Nat×Nat)}{vS:List (Nat×Value)}{w:World}{K:Value->World->Prop}{cs:Array Value}(bd:P.underlying t=some (.struct Eu))(hz:(P.info? t).map (λi=>i.zero.isSome)=some true)
  (ah:(Eu.mapM (λf=>do pure (f.offset,<-sizeOf f.type)):Sem (Array (Nat×Nat))).run P w=.ok places w)(bU:iH (places[·]?) (ln P t) vS=some cs):hX P t vS w K=K (.agg cs) w:=by
 unfold hX fN
 cases aq:P.info? t with
 |none=>simp[aq]at hz
 |some i=>
  cases aa:i.zero with
  |none=>simp[aq,aa]at hz
  |some v=>
   have yF:ln P t=v.cells:=by unfold ln;simp[aq,aa]
   simp only[yF,<-Rm]at bU;simp only[Instr.build,zeroValue,typeInfo,Sem.run_bind,run_program,Result.andThen_ok,aq,aa,Sem.run_pure,run_underlying bd,ah,bU]
@[simp↓high] theorem aI8(w:World)(cs Po:Array Value)(bl:TypeId)(fr:Nat×Nat):(w.alloc (.cells cs bl fr)).setRow w.1.size Po=w.alloc (.cells Po bl fr):=by
 unfold World.setRow World.alloc;congr 1;apply Array.ext_getElem?;intro i;simp[Array.getElem?_modify];split
 ·rename_i h;subst h;simp
 ·rw[Array.getElem?_push,Array.getElem?_push];split
  ·rename_i H I;exact absurd I.symm H
  ·rfl
@[simp↓high] theorem aI9(w:World)(g:Nat)(cs:Array Value):w.drew.setRow g cs=(w.setRow g cs).drew:=fj rfl
theorem oa(w:World)(ag B:Obj):((w.alloc ag).alloc B).1[w.1.size]? =some ag:=by simp_all
theorem ny(w:World)(ag B:Obj):((w.alloc ag).alloc B).1[w.1.size+1]? =some B:=akY _ _ _ (by simp)
theorem aeb(w:World)(ag B C:Obj):(((w.alloc ag).alloc B).alloc C).1[w.1.size]? =some ag:=by rw[pY _ _ _ (by simp;omega),oa]
theorem WB(w:World)(ag B C:Obj):(((w.alloc ag).alloc B).alloc C).1[w.1.size+1]? =some B:=by simp_all
theorem aec(w:World)(ag B C:Obj):(((w.alloc ag).alloc B).alloc C).1[w.1.size+2]? =some C:=akY _ _ _ (by simp)
structure Bg(P:Program)(t e:TypeId)(z:Value)(size bytes:Nat):Prop where
 nx:P.underlying t=some (.slice e)
 vR:(P.info? e).map (λi=>(i.zero,i.size,i.bytes))=some (some z,size,bytes)
 cells:z.cells.size=size
 pos:0<size
section
variable{P:Program}{w:World}{t e bO:TypeId}{z:Value}{size bytes:Nat}{K:Value->World->Prop}
theorem aAF(bl:Bg P t e z size bytes){v:Value}{n m c:Nat}{xs news:List Value}{bp:Addr}(eT:w.ownsRow 0 e size v n xs)(al:news.length=m*size)(Xc:∀j u,news[j]? =some u->w.cell? (bp.add j)=some u)(H:∀u∈news,u.oneCell'=true)
  (rU:n+m<=maxLen)(rV:(n+m)*bytes<=140737488355328)
  (h:∀W w',w'.ownsRow 0 e size W (n+m) (xs++news)->D (λk=>v.ownBlock=some k) w w'->(W.ownBlock=v.ownBlock\/fZ w.1.size W)->K W w'):
  pQ P .append #[t,t] bO #[v,.slice (some bp) m c] w K:=by
 obtain⟨i,aa,hz,cL,xh⟩:=info_parts bl.vR;obtain⟨W,w',ap,a',aX,_,ec⟩:=run_append_own_at (P:=P) w 0 t bO e i z size bytes bl.nx aa hz cL xh bl.cells bl.pos v n xs eT bp m c news al Xc H rU rV (Nat.zero_le _);refine FW ap (h W w' a' (D.vQ aX) (ec.imp id λe k r=> ?_))
 grind
theorem va(bl:Bg P t e z size bytes){v:Value}{n:Nat}{xs us:List Value}(eT:w.ownsRow 0 e size v n xs)(al:us.length=size)(H:∀u∈us,u.oneCell'=true)(rU:n+1<=maxLen)(rV:(n+1)*bytes<=140737488355328)
  (h:∀W w',w'.ownsRow 0 e size W (n+1) (xs++us)->D (λk=>v.ownBlock=some k) w w'->(W.ownBlock=v.ownBlock\/fZ w.1.size W)->K W w'):
  pQ P .append #[t,t] bO #[v,.slice (some ⟨w.1.size,0,none⟩) 1 1] (w.alloc (.cells us.toArray e)) K:=by
 refine aAF bl (eT.alloc _) (news:=us) (by omega) (λj u an=> ?_) H rU rV λW w' a' aX bq=>h W w' a' (((D.refl _ w).alloc _).trans aX) (bq.imp id λh=>h.mono (by simp));rw[Addr.add_lit,cell_of_row _ _ _ _ _ _ (heap_alloc_new w _)];simpa using an
end
structure Pz(e size:Nat)(w0:World)(v:Value)(n:Nat)(xs:List Value)(w:World):Prop where
 own:w.ownsRow 0 e size v n xs
 ch:D ak w0 w
 up:fZ w0.1.size v
section
variable{e size:Nat}{w0 w w':World}{v W:Value}{n fi:Nat}{xs il:List Value}
theorem Pz.nil(e size:Nat)(h:D ak w0 w):Pz e size w0 (.slice none 0 0) 0 [] w:=⟨World.ownsRow_nil _ _ _ _,h,λk r=>by simp[Value.ownBlock]at r⟩
end
theorem zb{w:World}{e size n:Nat}{v:Value}{xs:List Value}(h:w.ownsRow 0 e size v n xs)(av:0<n):∃g cap di,v=.slice (some ⟨g,0,none⟩) n cap/\n<=cap/\cap<=maxLen/\w.1[g]? =some (.cells di e (0,0))/\n*size<=di.size/\∀(j:Nat) (u:Value),xs[j]? =some u->w.cell? ⟨g,j,none⟩=some u:=by
 rcases h.2 with⟨_,bf⟩|⟨g,cap,di,aS,_,V,H,I,af,aU⟩
 ·omega
 ·refine⟨g,cap,di,aS,H,I,V,by rw[af];exact Nat.mul_le_mul_right _ H,λj u an=> ?_⟩;have:=h.cells (g:=g) (by rw[aS];rfl) j u an;rwa[Addr.add_lit,Nat.zero_add]at this
open Go.Sort
theorem wq{P:Program}{n id:Nat}{Q:gr}{K:r_}{c:Code}{ms:List Nat}{f:Nat->Value}{w:World}(bg:(Nat->Value)->World->Prop)(h:Ew P n (vC id (jj (pN ms bg) Q)) c ms f w)(bP:∀f w,bg f w->K ms f w):Ew P n (vC id (jj K Q)) c ms f w:=by
 rw[<-aAG]at h⊢;exact dH.mono _ (abD (PU (pN.go bP) λ_ _ _ _ h=>h)) ms f w h
section
variable{ct:Type}[Inhabited ct](enc:ct->Value)
def dm(w:World)(b:Nat)(d:Array ct):Prop:=∃di bl,w.1[b]? =some (.cells di bl (0,0))/\∀i,i<d.size->di[i]? =some (enc d[i]!)
variable{enc}{w w':World}{b:Nat}{d:Array ct}{S:Nat->Prop}
theorem dm.lt(h:dm enc w b d):b<w.1.size:=by
 obtain⟨di,bl,h,_⟩:=h;exact lt_of_block h
theorem dm.cell(h:dm enc w b d){i:Nat}(aa:i<d.size):w.cell? ⟨b,i,none⟩=some (enc d[i]!):=by
 obtain⟨di,bl,h,I⟩:=h;rw[aG h];exact I i aa
theorem dm.aAH(h:dm enc w b d)(i:Nat):w.frozen? ⟨b,i,none⟩=false:=by
 obtain⟨di,bl,h,I⟩:=h;exact dD h i
theorem dm.ch(h:dm enc w b d)(T:D S w w')(av:¬S b):dm enc w' b d:=by
 obtain⟨di,bl,h,I⟩:=h;exact⟨di,bl,T.obj h av,I⟩
theorem dm.drew(h:dm enc w b d):dm enc w.drew b d:=h
theorem dm.swp(h:dm enc w b d){i j:Nat}(aa:i<d.size)(F:j<d.size):dm enc ((w.setCell ⟨b,i,none⟩ (enc d[j]!)).setCell ⟨b,j,none⟩ (enc d[i]!)) b (swp d i j):=by
 obtain⟨di,bl,h,I⟩:=h;refine⟨(di.setIfInBounds i (enc d[j]!)).setIfInBounds j (enc d[i]!),bl,by simp_all,λk r=> ?_⟩;rw[size_swp]at r;have aAI:=I i aa;have Tu:=I j F;have NL:=I k r;have iG:=(Array.getElem?_eq_some_iff.1 aAI).1;have hB:=(Array.getElem?_eq_some_iff.1 Tu).1;by_cases aK:j=k
 ·subst aK;rw[Array.getElem?_setIfInBounds_self_of_lt (by simpa using hB),swp_right d i j F]
 ·rw[Array.getElem?_setIfInBounds_ne aK];by_cases aW:i=k
  ·subst aW;rw[Array.getElem?_setIfInBounds_self_of_lt iG,swp_left d i j aa (Ne.symm aK)]
  ·rw[Array.getElem?_setIfInBounds_ne aW,NL,swp_other d i j k (Ne.symm aW) (Ne.symm aK)]
theorem D.swp(i j:Nat)(x y:Value):D (aj b) w ((w.setCell ⟨b,i,none⟩ x).setCell ⟨b,j,none⟩ y):=
 ((D.refl (aj b) w).setCell (p:=⟨b,i,none⟩) (.inl rfl) _).setCell (p:=⟨b,j,none⟩) (.inl rfl) _
theorem dm.fp{e n:Nat}{g cap:Nat}{xs:List Value}(h:w.ownsRow 0 e 1 (.slice (some ⟨g,0,none⟩) n cap) n xs)(M:xs=d.toList.map enc)(av:n=d.size):dm enc w g d:=by
 rcases h.2 with⟨aS,_⟩|⟨l_,UR,di,aS,_,V,H,I,af,aU⟩
 ·cases aS
 ·cases aS
  refine⟨di,e,V,λi aa=> ?_⟩;have bC:xs[i]? =some (enc d[i]!):=by
   rw[M,List.getElem?_map,Array.getElem?_toList,Array.getElem?_eq_getElem aa];simp[aa]
  grind
end
section
variable{ct:Type}[Inhabited ct]{lt:ct->ct->Bool}
theorem aAJ(a j:Nat)(d:Array ct)(F:a<j)(al:lt d[j]! d[j - 1]! =true):insInner lt a j d=insInner lt a (j - 1) (swp d j (j - 1)):=by
 obtain⟨q,rfl⟩:∃q,j=q+1:=⟨j - 1,by omega⟩;have H:q+1>a:=F;have I:lt d[q+1]! d[q]! =true:=al;rw[insInner];simp[H,I]
theorem aAK(a j:Nat)(d:Array ct)(h:j<=a\/lt d[j]! d[j - 1]! =false):insInner lt a j d=d:=by
 cases j with
 |zero=>rfl
 |succ q=>
  rw[insInner]
  grind
theorem aAL(a b i:Nat)(d:Array ct)(h:i<b):insOuter lt a b i d=insOuter lt a b (i+1) (insInner lt a i d):=by rw[insOuter,if_pos h]
theorem aAM(a b i:Nat)(d:Array ct)(h:¬i<b):insOuter lt a b i d=d:=by rw[insOuter,if_neg h]
theorem abE(aa first bu:Nat)(d:Array ct):siftDown lt aa first bu d=if 2*bu+1>=aa then d else
  if(decide (2*bu+2<aa)&&lt d[first+(2*bu+1)]! d[first+(2*bu+2)]!)=true then(if(!lt d[first+bu]! d[first+(2*bu+2)]!)=true then d else siftDown lt aa first (2*bu+2) (swp d (first+bu) (first+(2*bu+2))))
  else(if(!lt d[first+bu]! d[first+(2*bu+1)]!)=true then d else siftDown lt aa first (2*bu+1) (swp d (first+bu) (first+(2*bu+1)))):=by
 conv=>lhs;rw[siftDown]
 grind
theorem UT(aa first:Nat):∀(n bu:Nat) (d:Array ct),aa - bu<=n->(siftDown lt aa first bu d).size=d.size
 |0,bu,d,h=>by rw[abE,if_pos (by omega)]
 |n+1,bu,d,h=>by
  rw[abE];split
  ·rfl
  split
  ·split
   ·rfl
   ·rw[UT aa first n _ _ (by omega),size_swp]
  ·split
   ·rfl
   ·rw[UT aa first n _ _ (by omega),size_swp]
theorem ak4:∀(j:Nat) (d:Array ct),(shiftDown lt j d).size=d.size
 |0,d=>rfl
 |j+1,d=>by
  rw[shiftDown];split
  ·rfl
  ·rw[ak4 j,size_swp]
theorem ak5(b:Nat):∀(n j:Nat) (d:Array ct),b - j<=n->(shiftUp lt b j d).size=d.size
 |0,j,d,h=>by rw[shiftUp,if_neg (by omega)]
 |n+1,j,d,h=>by
  rw[shiftUp];split
  ·split
   ·rfl
   ·rw[ak5 b n _ _ (by omega),size_swp]
  ·rfl
theorem aAN(a b s i:Nat)(d:Array ct):partialIns lt a b (s+1) i d=if scanSorted lt d b i=b then(d,true)else if b - a<50 then(d,false)else
  partialIns lt a b s (scanSorted lt d b i) (if b - scanSorted lt d b i>=2 then shiftUp lt b (scanSorted lt d b i+1) (if scanSorted lt d b i - a>=2 then shiftDown lt (scanSorted lt d b i - 1) (swp d (scanSorted lt d b i) (scanSorted lt d b i - 1))else swp d (scanSorted lt d b i) (scanSorted lt d b i - 1))else(if scanSorted lt d b i - a>=2 then shiftDown lt (scanSorted lt d b i - 1) (swp d (scanSorted lt d b i) (scanSorted lt d b i - 1))else swp d (scanSorted lt d b i) (scanSorted lt d b i - 1))):=rfl
end
end Go.Kin
