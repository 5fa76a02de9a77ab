/- Words and laws on memory that every walk of this family uses: what a call changed, a slice that reads as a list, append onto a row of the call's own. They speak of no program. No condition. -/
import Derived.WalkKit
import Derived.WalkSpells
import Derived.WalkLawsBesides
import Derived.Lib.Hide
import Derived.Maps.AppendAt
import Derived.Deep.AppendLies
import Derived.Deep.Draws
set_option linter.unusedSimpArgs false
set_option linter.unusedVariables false
namespace Go.Kin
abbrev A(i:Nat):Nat×Option (List Nat):=(i,none)
theorem az{ct:Sort _}(a:ct):∃x,a=x:=⟨a,rfl⟩
open Go Go.RowKit
def ca(c:UInt8):Value:=.int .u8 (c.toNat:Int)
def bm(l:List UInt8):List Value:=l.map ca
theorem Cs(a b:List UInt8):bm (a++b)=bm a++bm b:=List.map_append ..
theorem eB(a:List UInt8):(bm a).length=a.length:=List.length_map ..
theorem xf(l:List UInt8):∀u∈bm l,u.oneCell'=true:=by
 intro u an;obtain⟨c,_,rfl⟩:=List.mem_map.1 an;rfl
structure D(S:Nat->Prop)(w w':World):Prop where
 os:w'.os=w.os
 tape:w'.tape=w.tape
 output:w'.output=w.output
 size:w.1.size<=w'.1.size
 block:∀k,k<w.1.size->¬S k->w'.1[k]? =w.1[k]?
section
variable{S S':Nat->Prop}{w w' ab ai:World}
theorem D.refl(S:Nat->Prop)(w:World):D S w w:=⟨rfl,rfl,rfl,Nat.le_refl _,λ_ _ _=>rfl⟩
theorem D.bJ(h:D S w ab)(k:D S' ab ai)(aw:∀j,j<w.1.size->S' j->S j):D S w ai:=
 ⟨k.os.trans h.os,k.tape.trans h.tape,k.output.trans h.output,Nat.le_trans h.size k.size,
  λj F av=>(k.block j (Nat.lt_of_lt_of_le F h.size) (λe=>av (aw j F e))).trans (h.block j F av)⟩
theorem D.trans(h:D S w ab)(k:D S ab ai):D S w ai:=h.bJ k λ_ _ e=>e
theorem D.mono(h:D S w w')(aw:∀j,j<w.1.size->S j->S' j):D S' w w':=
 ⟨h.os,h.tape,h.output,h.size,λj F av=>h.block j F (λe=>av (aw j F e))⟩
theorem D.drew(h:D S w w'):D S w w'.drew:=⟨h.os,h.tape,h.output,h.size,h.block⟩
theorem D.iy(h:D S w.drew w'):D S w w':=⟨h.os,h.tape,h.output,h.size,h.block⟩
theorem D.alloc(h:D S w w')(o:Obj):D S w (w'.alloc o):=
 h.trans ⟨rfl,rfl,rfl,by simp,λk r _=>Below.heap_alloc _ o k r⟩
theorem D.setCell(h:D S w w'){p:Addr}(ah:S p.block\/w.1.size<=p.block)(u:Value):D S w (w'.setCell p u):=
 ⟨h.os,h.tape,h.output,by simpa[World.setCell]using h.size,λk r av=>(Below.heap_setCell _ _ _ _ (by
  grind)).trans (h.block k r av)⟩
theorem D.vQ{fc:Option Nat}(h:w.grownBy w' fc):D (λk=>fc=some k) w w':=
 ⟨h.os,h.tape,h.output,h.size,λk r av=>h.block k r (λe=>av e.symm)⟩
theorem D.below(h:D (λ_=>False) w w'):Below w.1.size w w':=⟨h.os,h.tape,h.output,h.size,λk r=>h.block k r (λe=>e)⟩
theorem D.cell(h:D S w w'){p:Addr}{v:Value}(T:w.cell? p=some v)(av:¬S p.block):w'.cell? p=some v:=
 (World.cell?_of_block (h.block p.block (World.block_lt_of_cell? w p T) av)).trans T
theorem D.obj(h:D S w w'){k:Nat}{o:Obj}(T:w.1[k]? =some o)(av:¬S k):w'.1[k]? =some o:=
 (h.block k (lt_of_block T) av).trans T
end
def ak:Nat->Prop:=λ_=>False
def fZ(B:Nat)(v:Value):Prop:=∀k,v.ownBlock=some k->B<=k
theorem fZ.mono{B Mo:Nat}{v:Value}(h:fZ B v)(V:Mo<=B):fZ Mo v:=λk r=>Nat.le_trans V (h k r)
theorem Mp(a:Addr)(n:Nat):(a.add n).block=a.block:=by unfold Addr.add;split<;>rfl
theorem aoB(a:Addr)(i j:Nat):(a.add i).add j=a.add (i+j):=by
 unfold Addr.add
 grind
def bD(w:World)(v:Value)(n:Nat)(xs:List Value):Prop:=
 ∃ag c,v=.slice ag n c/\n<=c/\c<=maxLen/\(0<xs.length->∃bp,ag=some bp/\∀j u,xs[j]? =some u->w.cell? (bp.add j)=some u)
section
variable{S:Nat->Prop}{w w':World}{v:Value}{n:Nat}{xs:List Value}
theorem bD.nil(w:World):bD w (.slice none 0 0) 0 []:=⟨none,0,rfl,Nat.le_refl _,Nat.zero_le _,λh=>absurd h (by simp)⟩
theorem bD.ch(h:bD w v n xs)(T:D S w w')(av:∀k,v.ownBlock=some k->¬S k):bD w' v n xs:=by
 obtain⟨ag,c,rfl,H,I,af⟩:=h;refine⟨ag,c,rfl,H,I,λah=> ?_⟩;obtain⟨bp,rfl,ap⟩:=af ah;exact⟨bp,rfl,λj u an=>T.cell (ap j u an) (by rw[Mp];exact av _ rfl)⟩
theorem bD.fH(h:bD w v n xs)(r:∀p u,w.cell? p=some u->w'.cell? p=some u):bD w' v n xs:=by
 obtain⟨ag,c,rfl,H,I,af⟩:=h;refine⟨ag,c,rfl,H,I,λah=> ?_⟩
 grind
theorem bD.drew(h:bD w v n xs):bD w.drew v n xs:=h
theorem bD.alloc(h:bD w v n xs)(o:Obj):bD (w.alloc o) v n xs:=h.ch ((D.refl ak w).alloc o) λ_ _ e=>e
theorem bD.fp{base:Nat}{e:TypeId}{size:Nat}(h:w.ownsRow base e size v n xs):bD w v n xs:=by
 rcases h.2 with⟨rfl,rfl⟩|⟨g,cap,di,rfl,_,_,H,I,_⟩
 ·exact⟨none,0,rfl,Nat.le_refl _,Nat.zero_le _,λah=>by have:=h.1;omega⟩
 ·exact⟨_,cap,rfl,H,I,λ_=>⟨_,rfl,h.cells (g:=g) rfl⟩⟩
theorem ej{e size:Nat}(h:w.ownsRow 0 e size v n xs)(T:D S w w')(av:∀k,v.ownBlock=some k->¬S k):w'.ownsRow 0 e size v n xs:=by
 refine⟨h.1,h.2.imp id ?_⟩;rintro⟨g,cap,di,rfl,I,af,aU⟩;exact⟨g,cap,di,rfl,I,T.obj af (av g rfl),aU⟩
end
structure tM(P:Program)(t e:TypeId)(z:Value)(bytes:Nat):Prop where
 nx:P.underlying t=some (.slice e)
 vR:(P.info? e).map (λi=>(i.zero,i.size,i.bytes))=some (some z,1,bytes)
 one:z.cells.size=1
section
variable{P:Program}{w:World}{t e:TypeId}{z:Value}{bytes:Nat}
theorem aoC(bl:tM P t e z bytes)(bO:TypeId){v:Value}{n:Nat}{xs:List Value}{u:Value}
  (eT:w.ownsRow 0 e 1 v n xs)(H:u.oneCell'=true)(rU:n+1<=maxLen)(rV:(n+1)*bytes<=140737488355328):
  ∃W w',(Builtin.append_ #[t,t] bO #[v,.slice (some ⟨w.1.size,0,none⟩) 1 1]).run P (w.alloc (.cells #[u] e))=.ok W w'/\
   w'.ownsRow 0 e 1 W (n+1) (xs++[u])/\D (λk=>v.ownBlock=some k) w w'/\(W.ownBlock=v.ownBlock\/fZ w.1.size W):=by
 obtain⟨i,aa,hz,cL,xh⟩:=info_parts bl.vR;obtain⟨W,w',ap,a',aX,_,ec⟩:=run_append_own_at (P:=P) (w.alloc (.cells #[u] e)) 0 t bO e i z 1 bytes bl.nx aa hz cL xh bl.one (by decide) v n xs (eT.alloc _) ⟨w.1.size,0,none⟩ 1 1 [u] rfl (cell_one_new w u e)
  (λcS GB=>by grind) rU rV (Nat.zero_le _)
 refine⟨W,w',ap,a',((D.refl _ w).alloc _).trans (D.vQ aX),ec.imp id λe k r=> ?_⟩
 simp_all
theorem Wu(bl:tM P t e z bytes)(bO:TypeId){v:Value}{n:Nat}{xs:List Value}{y:Value}{m:Nat}{ys:List Value}
  (eT:w.ownsRow 0 e 1 v n xs)(ar:bD w y m ys)(aH:ys.length=m)(H:∀u∈ys,u.oneCell'=true)(rU:n+m<=maxLen)(rV:(n+m)*bytes<=140737488355328):
  ∃W w',(Builtin.append_ #[t,t] bO #[v,y]).run P w=.ok W w'/\
   w'.ownsRow 0 e 1 W (n+m) (xs++ys)/\D (λk=>v.ownBlock=some k) w w'/\(W.ownBlock=v.ownBlock\/fZ w.1.size W):=by
 obtain⟨i,aa,hz,cL,xh⟩:=info_parts bl.vR;obtain⟨ag,c,rfl,dR,nX,ap⟩:=ar;have go:∀bp,(∀j u,ys[j]? =some u->w.cell? (bp.add j)=some u)->∃W w',(Builtin.append_ #[t,t] bO #[v,.slice (some bp) m c]).run P w=.ok W w'/\
   w'.ownsRow 0 e 1 W (n+m) (xs++ys)/\D (λk=>v.ownBlock=some k) w w'/\(W.ownBlock=v.ownBlock\/fZ w.1.size W):=by
  intro bp T;obtain⟨W,w',ap,a',aX,_,ec⟩:=run_append_own_at (P:=P) w 0 t bO e i z 1 bytes bl.nx aa hz cL xh bl.one (by decide) v n xs eT bp m c ys (by omega) T H rU rV (Nat.zero_le _);refine⟨W,w',ap,a',D.vQ aX,ec.imp id λe k r=> ?_⟩;rw[e]at r;simp at r;omega
 by_cases bf:0<ys.length
 ·obtain⟨bp,rfl,T⟩:=ap bf;exact go bp T
 ·have Mq:m=0:=by omega
  subst Mq;obtain rfl:ys=[]:=List.eq_nil_of_length_eq_zero (by omega)
  cases ag with
  |none=>
   refine⟨v,w,?_,by simpa using eT,D.refl _ _,.inl rfl⟩;rcases eT.2 with⟨rfl,rfl⟩|⟨g,cap,di,rfl,_,_,GC,_⟩
   ·simp[Builtin.append_,run_underlying bl.nx,sizeOf,typeInfo,aa,Builtin.lenOf,Builtin.firstCells]
   ·simp[Builtin.append_,run_underlying bl.nx,sizeOf,typeInfo,aa,Builtin.lenOf,Builtin.firstCells,GC,storeCells]
  |some bp=>exact go bp (by simp)
end
section
variable{P:Program}{w w':World}{v:Value}{n:Nat}{xs:List Value}
theorem bD.len(h:bD w v n xs){t e:TypeId}(bd:P.underlying t=some (.slice e))(bO:TypeId)(w':World):(Builtin.len_ #[t] bO #[v]).run P w'=.ok (.int .i64 n) w':=by
 obtain⟨ag,c,rfl,_⟩:=h;simp[Builtin.len_,run_underlying bd,goInt]
theorem bD.qo(h:bD w v n xs){t e:TypeId}{z:Value}{bytes:Nat}(bl:tM P t e z bytes)(av:xs.length=n)(l:Nat)(aD:Nat)(al:l<=aD)(aoD:aD<=n):
  ∃W,bD w W (aD - l) ((xs.take aD).drop l)/\W.ownBlock=v.ownBlock/\(∀w',(Instr.sliceAt t v (some (.int .i64 l)) (some (.int .i64 aD)) none).run P w'=.ok W w')/\
   (l=0->∀w',(Instr.sliceAt t v none (some (.int .i64 aD)) none).run P w'=.ok W w')/\(aD=n->∀w',(Instr.sliceAt t v (some (.int .i64 l)) none none).run P w'=.ok W w'):=by
 obtain⟨ag,c,rfl,H,I,af⟩:=h;obtain⟨i,aa,_,cL,_⟩:=info_parts bl.vR;have key:∃W,W=Value.slice (if c=l then ag else ag.map (·.add (l*1))) (aD - l) (c - l)/\bD w W (aD - l) ((xs.take aD).drop l)/\W.ownBlock=(Value.slice ag n c).ownBlock:=by
  refine⟨_,rfl,⟨_,_,rfl,by omega,by omega,λah=> ?_⟩,?_⟩
  ·have cI:((xs.take aD).drop l).length=aD - l:=by simp;omega
   obtain⟨bp,rfl,T⟩:=af (by omega);rw[if_neg (by omega)];refine⟨bp.add (l*1),rfl,λj u an=> ?_⟩;rw[aoB]
   grind
  ·cases ag with
   |none=>simp[Value.ownBlock]
   |some bp=>
    split
    ·rfl
    ·simp[Value.ownBlock,Mp]
 obtain⟨W,aS,aU,bC⟩:=key;have fY:aD<=c:=by omega
 have Jl:¬c<aD:=by omega
 refine⟨W,aU,bC,λw'=> ?_,λnY w'=> ?_,λaoE w'=> ?_⟩
 ·simp[Instr.sliceAt,Instr.slice,Instr.sliceBounds,Instr.sliceBound,asIntOf,run_underlying bl.nx,sizeOf,typeInfo,aa,cL,fY,al,aS]
 ·subst nY;simp[Instr.sliceAt,Instr.slice,Instr.sliceBounds,Instr.sliceBound,asIntOf,run_underlying bl.nx,sizeOf,typeInfo,aa,fY,aS]
 ·subst aoE;simp[Instr.sliceAt,Instr.slice,Instr.sliceBounds,Instr.sliceBound,asIntOf,run_underlying bl.nx,sizeOf,typeInfo,aa,cL,al,aS]
theorem bD.ad5(h:bD w v n xs){t e:TypeId}{z:Value}{bytes:Nat}(bl:tM P t e z bytes)(av:xs.length=n)(aD:Nat)(aoD:aD<=n):
  ∃W,bD w W aD (xs.take aD)/\W.ownBlock=v.ownBlock/\(∀w',(Instr.sliceAt t v none (some (.int .i64 aD)) (some (.int .i64 aD))).run P w'=.ok W w'):=by
 obtain⟨ag,c,rfl,H,I,af⟩:=h;obtain⟨i,aa,_,cL,_⟩:=info_parts bl.vR;have Jl:¬c<aD:=by omega
 refine⟨.slice (if aD=0 then ag else ag.map (·.add (0*1))) aD aD,⟨_,_,rfl,Nat.le_refl _,by omega,λah=> ?_⟩,?_,λw'=> ?_⟩
 ·obtain⟨bp,rfl,T⟩:=af (by simp at ah;omega);refine⟨bp,by split<;>simp[Addr.add],λj u an=>T j u ?_⟩
  grind
 ·cases ag with
  |none=>simp[Value.ownBlock]
  |some bp=>split<;>rfl
 ·simp[Instr.sliceAt,Instr.slice,Instr.sliceBounds,Instr.sliceBound,asIntOf,run_underlying bl.nx,sizeOf,typeInfo,aa,Jl]
theorem bD.at(h:bD w v n xs){t e:TypeId}{z:Value}{bytes:Nat}(bl:tM P t e z bytes)(av:xs.length=n){i:Nat}{u:Value}(aa:xs[i]? =some u):
  ∃a,(∀w',(Instr.indexAt t v (.int .i64 i)).run P w'=.ok (.pointer (some a)) w')/\w.cell? a=some u/\v.ownBlock=some a.block:=by
 obtain⟨ag,c,rfl,H,I,af⟩:=h;obtain⟨aoF,Wv,_,cL,_⟩:=info_parts bl.vR;have aO:i<xs.length:=(List.getElem?_eq_some_iff.1 aa).1;obtain⟨bp,rfl,T⟩:=af (by omega);refine⟨bp.add i,λw'=> ?_,T i u aa,by simp[Value.ownBlock,Mp]⟩;have aU:¬n<=i:=by omega
 simp[Instr.indexAt,asIntOf,run_underlying bl.nx,sizeOf,typeInfo,Wv,cL,aU]
end
section
variable{P:Program}{w:World}{v:Value}{n:Nat}{l:List UInt8}
theorem bD.lit(w:World)(e:TypeId)(l:List UInt8)(n:Nat)(av:l.length=n)(aH:n<=maxLen):(w.alloc (.cells (bm l).toArray e)).ownsRow 0 e 1 (.slice (some ⟨w.1.size,0,none⟩) n n) n (bm l):=by
 subst av;have:=World.ownsRow_lit (size:=1) (e:=e) w (bm l).toArray l.length (base:=0) (Nat.zero_le _) aH (by simp[eB]);simpa using this
end
end Go.Kin
