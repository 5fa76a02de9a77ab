/- Words and laws on memory that every walk of this family uses: what a call changed, a slice that reads as a list, append onto a row of the call's own. They speak of no program. No condition. -/
import Derived.WalkKit
import Derived.WalkSpells
import Derived.WalkLawsBesides
import Derived.Lib.Hide
import Derived.Maps.AppendAt
import Derived.Deep.AppendLies
import Derived.Deep.Draws
set_option linter.unusedSimpArgs false
set_option linter.unusedVariables false
namespace Go.Kin
abbrev yC:=@List.length_replicate
abbrev qK:=@List.length_cons
abbrev acn:=@UInt8.toNat_ofNat'
abbrev io:=@List.mem_cons
abbrev yD:=@List.not_mem_nil
abbrev ru:=@List.drop_drop
abbrev Au:=@List.flatMap_cons
abbrev WS:=@List.flatMap_nil
abbrev nv:=@List.append_assoc
abbrev va:=@List.append_nil
abbrev xu:=@List.nil_append
abbrev WT:=@List.drop_left'
abbrev WU:=@List.take_left'
abbrev WV:=@List.eq_replicate_iff
abbrev xv:=@List.length_drop
abbrev FV:=@List.take_append_drop
abbrev ip:=@Array.ext'
abbrev mP:=@List.take_of_length_le
abbrev Lq:=@List.set_append_right
abbrev Ou:=@List.map_set
abbrev be:=@if_pos
abbrev yE:=@Classical.byContradiction
abbrev FX:=@Nat.lt_irrefl
abbrev gQ:=@Nat.lt_of_lt_of_le
abbrev BY:=@Nat.mul_add
abbrev yH:=@Nat.add_assoc
abbrev hP:=@List.mem_append
abbrev DU:=@List.mem_of_mem_take
abbrev IB:=@List.mem_replicate
abbrev DV:=@List.getElem?_append_right
abbrev ol:=@List.length_take
abbrev DW:=@List.getElem?_replicate
abbrev cz:=@IntKind.wrap_i64
abbrev nA:=@List.take_add_one
abbrev Oz:=@List.replicate_succ
abbrev OA:=@List.set_cons_zero
abbrev aQ:=@if_neg
abbrev Ls:=@Nat.and_lt_two_pow
abbrev tg:=@IntKind.wrap_u64
abbrev ve:=@IntKind.wrap_u32
abbrev BZ:=@Nat.or_lt_two_pow
abbrev Lt:=@Nat.xor_lt_two_pow
abbrev IE:=@Nat.mod_lt
abbrev R_:=@Nat.lt_of_le_of_lt
abbrev R':=@Nat.div_le_self
abbrev Ea:=@List.extract_eq_take_drop
abbrev kR:=@List.length_append
abbrev pA:=@World.ownsRow_nil
abbrev c_:=@Nat.le_refl
abbrev xB:=@Nat.zero_add
abbrev d_:=@List.getElem?_eq_getElem
abbrev oo:=@List.getElem?_map
abbrev dK:=@Nat.le_trans
abbrev AC:=@List.map_append
abbrev oV:=@List.length_map
abbrev lF:=@List.mem_map
abbrev acI:=@World.cell?_of_block
abbrev xC:=@World.block_lt_of_cell?
abbrev gG:=@Nat.zero_le
abbrev wh:=@List.eq_nil_of_length_eq_zero
abbrev jG:=@List.getElem?_eq_some_iff
abbrev wi:=@Array.length_toList
abbrev xD:=@List.drop_eq_getElem_cons
abbrev Xm:=@Nat.min_eq_left
abbrev Ly:=@Nat.le_of_lt
abbrev Lz:=@Array.toList_extract
abbrev B':=@Array.getElem?_eq_some_iff
abbrev yL:=@List.getElem?_toArray
abbrev LA:=@List.getElem?_append_left
abbrev acJ:=@List.take_set_of_le
abbrev acK:=@List.drop_set_of_lt
abbrev ak6:=@List.take_append_of_le_length
abbrev ak7:=@List.drop_append_of_le_length
abbrev acL:=@List.mem_flatMap
abbrev AD:=@Array.all_eq_true'
abbrev Xn:=@List.drop_eq_nil_iff
abbrev wj:=@List.getElem_mem
abbrev Sb:=@Bool.not_true
abbrev wk:=@Bool.false_eq_true
abbrev Xo:=@List.mem_or_eq_of_mem_set
abbrev Xp:=@of_decide_eq_true
abbrev hv:=@beq_false_of_ne
abbrev yM:=@List.ext_getElem?
abbrev IG:=@Option.isSome_iff_exists
abbrev Xq:=@Int.le_refl
abbrev Ca:=@Int.toNat_natCast
abbrev Xr:=@DataW.trod_int
abbrev Sc:=@Nat.mul_one
abbrev yN:=@congrArg
abbrev Xs:=@DataW.trod_struct
abbrev oq:=@List.map_cons
abbrev OF:=@List.map_nil
abbrev Xt:=@List.drop_zero
abbrev sb:=@Option.some.inj
abbrev vf:=@List.mem_iff_getElem?
abbrev lk:=@List.getD_eq_getElem?_getD
abbrev Ge:=@Addr.add_lit
abbrev OG:=@List.map_map
abbrev xE:=@List.map_congr_left
abbrev Sd:=@Array.getElem?_extract
abbrev ot:=@Bool.and_eq_true
abbrev qf:=@decide_eq_true_eq
abbrev vg:=@List.all_eq_true
abbrev ib:=@List.mem_of_getElem?
abbrev ou:=@decide_eq_true
abbrev yO:=@List.foldl_cons
abbrev acM:=@List.zip_toArray
abbrev acN:=@List.foldl_toArray
abbrev IH:=@List.range_succ
abbrev acO:=@List.filter_append
abbrev wl:=@List.mem_range
abbrev vh:=@List.mem_filter
abbrev Xu:=@List.any_eq_true
abbrev OH:=@List.nodup_cons
abbrev acP:=@List.mem_cons_of_mem
abbrev Xv:=@List.drop_of_length_le
abbrev Cb:=@Nat.mod_eq_of_lt
abbrev LB:=@List.map_take
abbrev OI:=@List.map_drop
abbrev OJ:=@Option.some.injEq
abbrev yP:=@Array.getElem?_eq_getElem
abbrev Ec:=@Nat.add_zero
abbrev sc:=@List.mem_singleton
abbrev OK:=@List.length_nil
abbrev Se:=@List.getElem?_take
abbrev Xw:=@Nat.lt_or_ge
abbrev wm:=@List.take_length
abbrev Sf:=@Bool.and_self
abbrev acQ:=@Nat.lt_of_lt_of_eq
abbrev Sg:=@Nat.sub_self
abbrev LC:=@Nat.pow_le_pow_right
abbrev Sh:=@List.getElem?_set_self
abbrev Xx:=@Option.map_some
abbrev acR:=@Classical.axiomOfChoice
abbrev Cc:=@List.foldl_append
abbrev oW:=@List.pairwise_cons
abbrev Cd:=@Nat.le_add_right
abbrev Xy:=@List.drop_length
abbrev II:=@List.length_singleton
abbrev Gf:=@Bool.true_and
abbrev Xz:=@List.mem_filterMap
abbrev Si:=@Option.map_eq_some_iff
abbrev acS:=@List.length_filterMap_le
abbrev Gg:=@Fin.ext
abbrev OL:=@List.map_id
abbrev Ce:=@Array.getElem?_append
abbrev acT:=@List.cons_append
abbrev acU:=@List.getElem?_set
abbrev acV:=@List.flatMap_append
abbrev LD:=@decide_eq_true_iff
abbrev AE:=@List.count_append
abbrev vi:=@decide_eq_false
abbrev XA:=@List.count_pos_iff
abbrev acW:=@Array.getElem?_toList
abbrev acX:=@Option.isSome_some
abbrev Gh:=@IntKind.wrap_u8
abbrev Ed:=@List.getElem?_eq_none
abbrev acY:=@Bool.not_eq_true'
abbrev IJ:=@List.Pairwise.nil
abbrev acZ:=@List.filter_congr
abbrev OM:=@List.count_cons
abbrev ac0:=@List.filterMap_cons
abbrev XB:=@List.sum_cons
abbrev ac1:=@List.filter_filter
abbrev Gi:=@List.filter_cons
abbrev ON:=@IntKind.wrap_u16
abbrev OO:=@List.length_filter_le
abbrev ac2:=@Nat.le_succ_of_le
abbrev XC:=@Array.getElem?_setIfInBounds_ne
abbrev Sj:=@decide_eq_false_iff_not
abbrev XD:=@List.size_toArray
abbrev OP:=@List.pairwise_iff_getElem
abbrev Sk:=@Bool.or_eq_true
abbrev Sl:=@List.pairwise_map
abbrev XE:=@List.length_eq_zero_iff
abbrev Sm:=@Int.tmod_eq_emod_of_nonneg
abbrev ac3:=@List.replicate_succ'
abbrev ac4:=@Nat.eq_zero_or_pos
abbrev OQ:=@Array.ext_getElem?
abbrev ac5:=@Array.getElem?_eq_none
abbrev XF:=@List.takeWhile_cons
abbrev IK:=@Array.getElem?_modify
abbrev Sn:=@Nat.mul_le_mul_right
abbrev So:=@List.take_set
abbrev ac6:=@List.set_eq_of_length_le
abbrev Sp:=@List.drop_set
abbrev ac7:=@Array.toList_push
abbrev XG:=@Bool.not_false
abbrev LF:=@Int.tdiv_eq_ediv_of_nonneg
abbrev ac8:=@List.Pairwise.filter
abbrev XH:=@List.length_set
abbrev ac9:=@List.takeWhile_sublist
abbrev Sq:=@Nat.succ_mul
abbrev XI:=@List.mem_of_mem_drop
abbrev XJ:=@List.getElem?_drop
abbrev ak8:=@List.count_eq_zero_of_not_mem
abbrev XK:=@List.mapM_toArray
abbrev XL:=@List.mapM_cons
abbrev XM:=@List.mapM_nil
abbrev XN:=@Nat.le_succ
abbrev ac_:=@Array.getElem?_setIfInBounds
abbrev XO:=@Nat.div_div_eq_div_mul
abbrev Ee:=@Nat.pow_succ
abbrev Sr:=@Nat.pow_mul
abbrev XP:=@Nat.mul_lt_mul_of_pos_right
abbrev XQ:=@Nat.pos_of_ne_zero
abbrev M:Type:=World
abbrev N:Type:=Value
abbrev az(x:Nat):Value:=Value.pointer (some (Addr.mk x 0 none))
abbrev bl(x k:Nat):Addr:=⟨x,k,none⟩
abbrev aa(x:Int):Value:=Value.int IntKind.i64 x
abbrev F(i:Nat):Nat×Option (List Nat):=(i,none)
theorem aD{α:Sort _}(a:α):∃x,a=x:=⟨a,rfl⟩
open Go Go.RowKit
def ce(c:UInt8):N:=.int .u8 (c.toNat:Int)
def br(l:List UInt8):List N:=l.map ce
theorem Gc(a b:List UInt8):br (a++b)=br a++br b:=AC ..
theorem eO(a:List UInt8):(br a).length=a.length:=oV ..
theorem AB(l:List UInt8):∀u∈br l,u.oneCell'=true:=by
 intro u ap;obtain⟨c,_,rfl⟩:=lF.1 ap;rfl
structure H(S:Nat->Prop)(w w':M):Prop where
 os:w'.os=w.os
 tape:w'.tape=w.tape
 output:w'.output=w.output
 size:w.1.size<=w'.1.size
 block:∀k,k<w.1.size->¬S k->w'.1[k]? =w.1[k]?
section
variable {S S':Nat->Prop}{w w' ai an:M}
theorem H.refl(S:Nat->Prop)(w:M):H S w w:=⟨rfl,rfl,rfl,c_ _,λ_ _ _=>rfl⟩
theorem H.bZ(h:H S w ai)(k:H S' ai an)(aA:∀j,j<w.1.size->S' j->S j):H S w an:=
 ⟨k.os.trans h.os,k.tape.trans h.tape,k.output.trans h.output,dK h.size k.size,
  λj I aq=>(k.block j (gQ I h.size) (λe=>aq (aA j I e))).trans (h.block j I aq)⟩
theorem H.trans(h:H S w ai)(k:H S ai an):H S w an:=h.bZ k λ_ _ e=>e
theorem H.mono(h:H S w w')(aA:∀j,j<w.1.size->S j->S' j):H S' w w':=
 ⟨h.os,h.tape,h.output,h.size,λj I aq=>h.block j I (λe=>aq (aA j I e))⟩
theorem H.drew(h:H S w w'):H S w w'.drew:=⟨h.os,h.tape,h.output,h.size,h.block⟩
theorem H.hR(h:H S w.drew w'):H S w w':=⟨h.os,h.tape,h.output,h.size,h.block⟩
theorem H.alloc(h:H S w w')(o:Obj):H S w (w'.alloc o):=
 h.trans ⟨rfl,rfl,rfl,by simp,λk r _=>Below.heap_alloc _ o k r⟩
theorem H.setCell(h:H S w w'){p:Addr}(am:S p.block\/w.1.size<=p.block)(u:N):H S w (w'.setCell p u):=
 ⟨h.os,h.tape,h.output,by simpa[World.setCell]using h.size,λk r aq=>(Below.heap_setCell _ _ _ _ (by
  grind)).trans (h.block k r aq)⟩
theorem H.yQ{fS:Option Nat}(h:w.grownBy w' fS):H (λk=>fS=some k) w w':=
 ⟨h.os,h.tape,h.output,h.size,λk r aq=>h.block k r (λe=>aq e.symm)⟩
theorem H.below(h:H (λ_=>False) w w'):Below w.1.size w w':=⟨h.os,h.tape,h.output,h.size,λk r=>h.block k r (λe=>e)⟩
theorem H.cell(h:H S w w'){p:Addr}{v:N}(Z:w.cell? p=some v)(aq:¬S p.block):w'.cell? p=some v:=
 (acI (h.block p.block (xC w p Z) aq)).trans Z
theorem H.obj(h:H S w w'){k:Nat}{o:Obj}(Z:w.1[k]? =some o)(aq:¬S k):w'.1[k]? =some o:=
 (h.block k (lt_of_block Z) aq).trans Z
end
def al:Nat->Prop:=λ_=>False
def gr(B:Nat)(v:N):Prop:=∀k,v.ownBlock=some k->B<=k
theorem gr.mono{B Ss:Nat}{v:N}(h:gr B v)(ab:Ss<=B):gr Ss v:=λk r=>dK ab (h k r)
theorem IL(a:Addr)(n:Nat):(a.add n).block=a.block:=by unfold Addr.add;split<;>rfl
theorem ac'(a:Addr)(i j:Nat):(a.add i).add j=a.add (i+j):=by
 unfold Addr.add
 grind
def bC(w:M)(v:N)(n:Nat)(xs:List N):Prop:=
 ∃A c,v=.slice A n c/\n<=c/\c<=maxLen/\(0<xs.length->∃bx,A=some bx/\∀j u,xs[j]? =some u->w.cell? (bx.add j)=some u)
section
variable {S:Nat->Prop}{w w':M}{v:N}{n:Nat}{xs:List N}
theorem bC.nil(w:M):bC w (.slice none 0 0) 0 []:=⟨none,0,rfl,c_ _,gG _,λh=>absurd h (by simp)⟩
theorem bC.ch(h:bC w v n xs)(Z:H S w w')(aq:∀k,v.ownBlock=some k->¬S k):bC w' v n xs:=by
 obtain⟨A,c,rfl,J,T,ag⟩:=h;refine⟨A,c,rfl,J,T,λam=> ?_⟩;obtain⟨bx,rfl,ax⟩:=ag am;exact⟨bx,rfl,λj u ap=>Z.cell (ax j u ap) (by rw[IL];exact aq _ rfl)⟩
theorem bC.fK(h:bC w v n xs)(r:∀p u,w.cell? p=some u->w'.cell? p=some u):bC w' v n xs:=by
 obtain⟨A,c,rfl,J,T,ag⟩:=h;refine⟨A,c,rfl,J,T,λam=> ?_⟩
 grind
theorem bC.drew(h:bC w v n xs):bC w.drew v n xs:=h
theorem bC.alloc(h:bC w v n xs)(o:Obj):bC (w.alloc o) v n xs:=h.ch ((H.refl al w).alloc o) λ_ _ e=>e
theorem bC.fF{base:Nat}{e:TypeId}{size:Nat}(h:w.ownsRow base e size v n xs):bC w v n xs:=by
 rcases h.2 with⟨rfl,rfl⟩|⟨g,cap,dF,rfl,_,_,J,T,_⟩
 ·exact⟨none,0,rfl,c_ _,gG _,λam=>by have:=h.1;omega⟩
 ·exact⟨_,cap,rfl,J,T,λ_=>⟨_,rfl,h.cells (g:=g) rfl⟩⟩
theorem gu{e size:Nat}(h:w.ownsRow 0 e size v n xs)(Z:H S w w')(aq:∀k,v.ownBlock=some k->¬S k):w'.ownsRow 0 e size v n xs:=by
 refine⟨h.1,h.2.imp id ?_⟩;rintro⟨g,cap,dF,rfl,T,ag,aP⟩;exact⟨g,cap,dF,rfl,T,Z.obj ag (aq g rfl),aP⟩
end
structure sd(P:Program)(t e:TypeId)(z:N)(bytes:Nat):Prop where
 oX:P.underlying t=some (.slice e)
 yR:(P.info? e).map (λi=>(i.zero,i.size,i.bytes))=some (some z,1,bytes)
 one:z.cells.size=1
section
variable {P:Program}{w:M}{t e:TypeId}{z:N}{bytes:Nat}
theorem awF(bv:sd P t e z bytes)(bV:TypeId){v:N}{n:Nat}{xs:List N}{u:N}
  (fG:w.ownsRow 0 e 1 v n xs)(J:u.oneCell'=true)(th:n+1<=maxLen)(ti:(n+1)*bytes<=140737488355328):
  ∃v' w',(Builtin.append_ #[t,t] bV #[v,.slice (some ⟨w.1.size,0,none⟩) 1 1]).run P (w.alloc (.cells #[u] e))=.ok v' w'/\
   w'.ownsRow 0 e 1 v' (n+1) (xs++[u])/\H (λk=>v.ownBlock=some k) w w'/\(v'.ownBlock=v.ownBlock\/gr w.1.size v'):=by
 obtain⟨i,ad,hz,cU,AF⟩:=info_parts bv.yR;obtain⟨v',w',ax,bn,bh,_,ex⟩:=run_append_own_at (P:=P) (w.alloc (.cells #[u] e)) 0 t bV e i z 1 bytes bv.oX ad hz cU AF bv.one (by decide) v n xs (fG.alloc _) ⟨w.1.size,0,none⟩ 1 1 [u] rfl (cell_one_new w u e)
  (λcq Gj=>by grind) th ti (gG _)
 refine⟨v',w',ax,bn,((H.refl _ w).alloc _).trans (H.yQ bh),ex.imp id λe k r=> ?_⟩
 simp_all
theorem ada(bv:sd P t e z bytes)(bV:TypeId){v:N}{n:Nat}{xs:List N}{y:N}{m:Nat}{ys:List N}
  (fG:w.ownsRow 0 e 1 v n xs)(ar:bC w y m ys)(aC:ys.length=m)(J:∀u∈ys,u.oneCell'=true)(th:n+m<=maxLen)(ti:(n+m)*bytes<=140737488355328):
  ∃v' w',(Builtin.append_ #[t,t] bV #[v,y]).run P w=.ok v' w'/\
   w'.ownsRow 0 e 1 v' (n+m) (xs++ys)/\H (λk=>v.ownBlock=some k) w w'/\(v'.ownBlock=v.ownBlock\/gr w.1.size v'):=by
 obtain⟨i,ad,hz,cU,AF⟩:=info_parts bv.yR;obtain⟨A,c,rfl,eh,pC,ax⟩:=ar;have go:∀bx,(∀j u,ys[j]? =some u->w.cell? (bx.add j)=some u)->∃v' w',(Builtin.append_ #[t,t] bV #[v,.slice (some bx) m c]).run P w=.ok v' w'/\
   w'.ownsRow 0 e 1 v' (n+m) (xs++ys)/\H (λk=>v.ownBlock=some k) w w'/\(v'.ownBlock=v.ownBlock\/gr w.1.size v'):=by
  intro bx Z;obtain⟨v',w',ax,bn,bh,_,ex⟩:=run_append_own_at (P:=P) w 0 t bV e i z 1 bytes bv.oX ad hz cU AF bv.one (by decide) v n xs fG bx m c ys (by omega) Z J th ti (gG _);refine⟨v',w',ax,bn,H.yQ bh,ex.imp id λe k r=> ?_⟩;rw[e]at r;simp at r;omega
 by_cases bi:0<ys.length
 ·obtain⟨bx,rfl,Z⟩:=ax bi;exact go bx Z
 ·have LG:m=0:=by omega
  subst LG;obtain rfl:ys=[]:=wh (by omega)
  cases A with
  |none=>
   refine⟨v,w,?_,by simpa using fG,H.refl _ _,.inl rfl⟩;rcases fG.2 with⟨rfl,rfl⟩|⟨g,cap,dF,rfl,_,_,Cf,_⟩
   ·simp[Builtin.append_,run_underlying bv.oX,sizeOf,typeInfo,ad,Builtin.lenOf,Builtin.firstCells]
   ·simp[Builtin.append_,run_underlying bv.oX,sizeOf,typeInfo,ad,Builtin.lenOf,Builtin.firstCells,Cf,storeCells]
  |some bx=>exact go bx (by simp)
end
section
variable {P:Program}{w w':M}{v:N}{n:Nat}{xs:List N}
theorem bC.len(h:bC w v n xs){t e:TypeId}(bj:P.underlying t=some (.slice e))(bV:TypeId)(w':M):(Builtin.len_ #[t] bV #[v]).run P w'=.ok (aa n) w':=by
 obtain⟨A,c,rfl,_⟩:=h;simp[Builtin.len_,run_underlying bj,goInt]
theorem bC.rz(h:bC w v n xs){t e:TypeId}{z:N}{bytes:Nat}(bv:sd P t e z bytes)(aq:xs.length=n)(l:Nat)(aN:Nat)(ak:l<=aN)(awG:aN<=n):
  ∃v',bC w v' (aN - l) ((xs.take aN).drop l)/\v'.ownBlock=v.ownBlock/\(∀w',(Instr.sliceAt t v (some (aa l)) (some (aa aN)) none).run P w'=.ok v' w')/\
   (l=0->∀w',(Instr.sliceAt t v none (some (aa aN)) none).run P w'=.ok v' w')/\(aN=n->∀w',(Instr.sliceAt t v (some (aa l)) none none).run P w'=.ok v' w'):=by
 obtain⟨A,c,rfl,J,T,ag⟩:=h;obtain⟨i,ad,_,cU,_⟩:=info_parts bv.yR;have key:∃v',v'=Value.slice (if c=l then A else A.map (·.add (l*1))) (aN - l) (c - l)/\bC w v' (aN - l) ((xs.take aN).drop l)/\v'.ownBlock=(Value.slice A n c).ownBlock:=by
  refine⟨_,rfl,⟨_,_,rfl,by omega,by omega,λam=> ?_⟩,?_⟩
  ·have cu:((xs.take aN).drop l).length=aN - l:=by simp;omega
   obtain⟨bx,rfl,Z⟩:=ag (by omega);rw[aQ (by omega)];refine⟨bx.add (l*1),rfl,λj u ap=> ?_⟩;rw[ac']
   grind
  ·cases A with
   |none=>simp[Value.ownBlock]
   |some bx=>
    split
    ·rfl
    ·simp[Value.ownBlock,IL]
 obtain⟨v',aM,aP,bH⟩:=key;have fR:aN<=c:=by omega
 have OR:¬c<aN:=by omega
 refine⟨v',aP,bH,λw'=> ?_,λpD w'=> ?_,λawH w'=> ?_⟩
 ·simp[Instr.sliceAt,Instr.slice,Instr.sliceBounds,Instr.sliceBound,asIntOf,run_underlying bv.oX,sizeOf,typeInfo,ad,cU,fR,ak,aM]
 ·subst pD;simp[Instr.sliceAt,Instr.slice,Instr.sliceBounds,Instr.sliceBound,asIntOf,run_underlying bv.oX,sizeOf,typeInfo,ad,fR,aM]
 ·subst awH;simp[Instr.sliceAt,Instr.slice,Instr.sliceBounds,Instr.sliceBound,asIntOf,run_underlying bv.oX,sizeOf,typeInfo,ad,cU,ak,aM]
theorem bC.ak9(h:bC w v n xs){t e:TypeId}{z:N}{bytes:Nat}(bv:sd P t e z bytes)(aq:xs.length=n)(aN:Nat)(awG:aN<=n):
  ∃v',bC w v' aN (xs.take aN)/\v'.ownBlock=v.ownBlock/\(∀w',(Instr.sliceAt t v none (some (aa aN)) (some (aa aN))).run P w'=.ok v' w'):=by
 obtain⟨A,c,rfl,J,T,ag⟩:=h;obtain⟨i,ad,_,cU,_⟩:=info_parts bv.yR;have OR:¬c<aN:=by omega
 refine⟨.slice (if aN=0 then A else A.map (·.add (0*1))) aN aN,⟨_,_,rfl,c_ _,by omega,λam=> ?_⟩,?_,λw'=> ?_⟩
 ·obtain⟨bx,rfl,Z⟩:=ag (by simp at am;omega);refine⟨bx,by split<;>simp[Addr.add],λj u ap=>Z j u ?_⟩
  grind
 ·cases A with
  |none=>simp[Value.ownBlock]
  |some bx=>split<;>rfl
 ·simp[Instr.sliceAt,Instr.slice,Instr.sliceBounds,Instr.sliceBound,asIntOf,run_underlying bv.oX,sizeOf,typeInfo,ad,OR]
theorem bC.at(h:bC w v n xs){t e:TypeId}{z:N}{bytes:Nat}(bv:sd P t e z bytes)(aq:xs.length=n){i:Nat}{u:N}(ad:xs[i]? =some u):
  ∃a,(∀w',(Instr.indexAt t v (aa i)).run P w'=.ok (.pointer (some a)) w')/\w.cell? a=some u/\v.ownBlock=some a.block:=by
 obtain⟨A,c,rfl,J,T,ag⟩:=h;obtain⟨awI,adb,_,cU,_⟩:=info_parts bv.yR;have aO:i<xs.length:=(jG.1 ad).1;obtain⟨bx,rfl,Z⟩:=ag (by omega);refine⟨bx.add i,λw'=> ?_,Z i u ad,by simp[Value.ownBlock,IL]⟩;have aP:¬n<=i:=by omega
 simp[Instr.indexAt,asIntOf,run_underlying bv.oX,sizeOf,typeInfo,adb,cU,aP]
end
section
variable {P:Program}{w:M}{v:N}{n:Nat}{l:List UInt8}
theorem bC.adc(h:bC w v n (br l))(aq:l.length=n){t e:TypeId}(bj:P.underlying t=some (.slice e))(aV:P.underlying e=some (.int .u8)){d:TypeId}(bm:P.underlying d=some .string):
  (convert t d v).run P w=.ok (.string ⟨l.toArray⟩) w:=by
 subst aq;obtain⟨A,c,rfl,J,T,ag⟩:=h;by_cases am:0<l.length
 ·obtain⟨bx,rfl,Z⟩:=ag (by rw[eO];exact am);refine run_convert_bytes_back w t d e bx c l bj aV bm λj I=>Z j _ ?_;simp[br,I,ce]
 ·obtain rfl:l=[]:=wh (by omega)
  cases A with
  |none=>exact run_convert_bytes_nil w t e bj aV 0 c d bm
  |some bx=>exact run_convert_bytes_back w t d e bx c [] bj aV bm λj I=>absurd I (by simp)
theorem bC.lit(w:M)(e:TypeId)(l:List UInt8)(n:Nat)(aq:l.length=n)(aC:n<=maxLen):(w.alloc (.cells (br l).toArray e)).ownsRow 0 e 1 (.slice (some ⟨w.1.size,0,none⟩) n n) n (br l):=by
 subst aq;have:=World.ownsRow_lit (size:=1) (e:=e) w (br l).toArray l.length (base:=0) (gG _) aC (by simp[eO]);simpa using this
end
end Go.Kin
