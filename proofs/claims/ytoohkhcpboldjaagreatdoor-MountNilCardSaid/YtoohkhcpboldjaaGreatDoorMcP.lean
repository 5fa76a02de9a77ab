/- Commits, in plain Lean: the state behind a commit, or what there was. They speak of no memory. No condition. -/
import Derived.Test.YtoohkhcpboldjaaGreatDoorMcJ
set_option maxRecDepth 100000
set_option maxHeartbeats 1000000
set_option linter.unusedSimpArgs false
set_option linter.unusedVariables false
namespace Go.Proofs.YtoohkhcpboldjaaGreatDoor
open Go.RowKit Go.Kin
def KB(w:World):Prop:=w.cell? ⟨1,0,none⟩=some (.int .u8 0)/\w.cell? ⟨1,1,none⟩=some (.int .u8 1)/\w.cell? ⟨1,2,none⟩=some (.int .u8 2)/\w.cell? ⟨1,3,none⟩=some (.int .u8 2)
theorem KB.ch{S:Nat->Prop}{w w':World}(h:KB w)(T:D S w w')(av:¬S 1):KB w':=⟨T.cell h.1 av,T.cell h.2.1 av,T.cell h.2.2.1 av,T.cell h.2.2.2 av⟩
def BF(k:Nat):Nat:=if 4<=k then 0 else if k=0 then 0 else if k=1 then 1 else 2
theorem auy(k:Nat)(w:World)(r:k<256)(al:KB w):aP Tryz.prog 141 #[.int .u8 k] w λW w'=>W=.int .u8 (BF k)/\w'=w:=by
 obtain⟨uO,lm,jD,nT⟩:=al;refine bn Tryz.func141 Tryz.ntmps141 λaZ Z=> ?_;have bH:IntKind.i64.wrap (k:Int)=k:=by simp[IntKind.wrap_i64];omega
 by_cases aU:4<=k
 ·have GJ:(4:Int)<=k:=by omega
  simp[go_sem,bH,GJ];exact Z _ _ ⟨by simp[BF,aU],rfl⟩
 ·have fs:k=0\/k=1\/k=2\/k=3:=by omega
  rcases fs with rfl|rfl|rfl|rfl<;>simp[go_sem,IntKind.wrap_i64,uO,lm,jD,nT]<;>exact Z _ _ ⟨rfl,rfl⟩
def HM(f m o:Int):Value:=.agg #[.int .i64 f,.int .i64 m,.int .i64 o]
theorem auz(f m o:Int)(k:Nat)(l n:Int)(w:World)(r:k<256)(al:KB w):aP Tryz.prog 161 #[HM f m o,.int .u8 k,.int .i64 l,.int .i64 n] w λW w'=>
  W=HM (if BF k=1 then IntKind.i64.wrap (f+l)else f) (if BF k=2 then IntKind.i64.wrap (m+l)else m) (IntKind.i64.wrap (o+n))/\D ak w w':=by
 refine bn Tryz.func161 Tryz.ntmps161 λaZ Z=> ?_;unfold HM;simp[go_sem];have db:=oa w (.cells #[.int .i64 f,.int .i64 m,.int .i64 o] 204) (.cells #[.int .i64 0,.int .i64 0,.int .i64 0] 204);have dk:=ny w (.cells #[.int .i64 f,.int .i64 m,.int .i64 o] 204) (.cells #[.int .i64 0,.int .i64 0,.int .i64 0] 204);have T:=((D.refl ak w).alloc (.cells #[.int .i64 f,.int .i64 m,.int .i64 o] 204)).alloc (.cells #[.int .i64 0,.int .i64 0,.int .i64 0] 204);have eG:=al.ch T id;revert db dk T eG;generalize(w.alloc (.cells #[.int .i64 f,.int .i64 m,.int .i64 o] 204)).alloc (.cells #[.int .i64 0,.int .i64 0,.int .i64 0] 204)=ab;generalize aF:w.1.size=g;intro db dk T eG;refine(auy k ab r eG).mono ?_;rintro _ ab ⟨rfl,rfl⟩;have kz:=λi=>aG db i;have jS:=λi=>dD db i;have Oo:=λi=>aG dk i;have ZN:=λi=>dD dk i;by_cases H:BF k=1
 ·simp[go_sem,H,kz,jS,Oo,ZN];exact Z _ _ ⟨by simp[HM,H],by
   refine((((((T.setCell (.inr ?_) _).setCell (.inr ?_) _).setCell (.inr ?_) _).setCell (.inr ?_) _).setCell (.inr ?_) _))<;>simp<;>omega⟩
 ·have lT:((BF k:Int)==1)=false:=by simp;omega
  by_cases I:BF k=2
  ·simp[go_sem,I,kz,jS,Oo,ZN];exact Z _ _ ⟨by simp[HM,I],by
    refine((((((T.setCell (.inr ?_) _).setCell (.inr ?_) _).setCell (.inr ?_) _).setCell (.inr ?_) _).setCell (.inr ?_) _))<;>simp<;>omega⟩
  ·have je:((BF k:Int)==2)=false:=by simp;omega
   simp[go_sem,lT,je,kz,jS,Oo,ZN];exact Z _ _ ⟨by simp[HM,H,I],by
    refine((((((T.setCell (.inr ?_) _).setCell (.inr ?_) _).setCell (.inr ?_) _).setCell (.inr ?_) _)))<;>simp<;>omega⟩
def Oq(l:List Bool):List Value:=l.map Value.bool
theorem auA(l:List Bool):(Oq l).length=l.length:=List.length_map ..
theorem auB(l:List Bool):∀u∈Oq l,u.oneCell'=true:=by
 intro u an;obtain⟨c,_,rfl⟩:=List.mem_map.1 an;rfl
def HN(l:List Bool)(j:Nat):Nat:=(l.take j).count true
def zN(l:List Bool)(i:Nat):Bool:=((l.drop (8*i)).take 8).any id
def uu(l:List Bool):Nat->Nat
 |0=>0
 |k+1=>uu l k+(if zN l k then 1 else 0)
def Ot(n:Nat):List Bool:=List.replicate n false
theorem ah4(n:Nat):(Ot n).length=n:=List.length_replicate
abbrev BG:=Nat×Nat×List Bool
@[simp] theorem aH1(l:List Bool):jT (Oq l).toArray=true:=yC (auB l)
@[simp] theorem aH2(l:List Bool)(n:Nat)(h:l.length<=n):(Oq l).take n=Oq l:=List.take_of_length_le (by rw[auA];exact h)
def TA(x:BG):Nat:=2*uu x.2.2 8+HN x.2.2 64*(if BF x.2.1=1 then 1 else 2)+(if 0<uu x.2.2 8 then 2 else 0)
def Ou:List BG->Nat
 |[]=>0
 |x::l=>TA x+Ou l
def BH(l:List BG):List Bool:=l.foldl (λs x=>s.set (x.1 / 4) true) (Ot 64)
theorem ZO(l:List BG):(BH l).length=64:=by
 have key:∀(l:List BG) (s:List Bool),s.length=64->(l.foldl (λs x=>s.set (x.1 / 4) true) s).length=64:=by
  intro l
  induction l with
  |nil=>exact λs h=>h
  |cons x l bG=>grind
 exact key l _ (ah4 64)
def ah5(s:List BG):Nat:=2+Ou s+(if 0<uu (BH s) 8 then 2 else 0)+2*(uu (BH s) 8+HN (BH s) 64)
def tr(p:Pt):Nat:=if p=ad then 0 else fm p.k
def oo(l:List Pt):Nat:=(l.map tr).sum
theorem TB(a b:List Pt):oo (a++b)=oo a+oo b:=by simp[oo]
theorem KC(p:Pt)(l:List Pt):oo (p::l)=tr p+oo l:=by simp[oo]
theorem auC(l:List Pt):oo l=fU (l.filter λp=>decide (p≠ad)):=by
 induction l with
 |nil=>rfl
 |cons p l bG=>
  rw[KC,bG,List.filter_cons];unfold tr;by_cases h:p=ad
  ·simp[h]
  ·simp[h,fU]
theorem auD{a b:List Pt}(h:a.Perm b):fU a=fU b:=by
 induction h with
 |nil=>rfl
 |cons x _ bG=>
  unfold fU at bG⊢
  grind
 |swap x y l=>
  unfold fU
  grind
 |trans _ _ H I=>exact H.trans I
theorem auE{ae ag:List Pt}(hz:ad∉ae)(T:∀y,y≠ad->ae.count y=ag.count y):fU ae=oo ag:=by
 rw[auC];refine auD (List.perm_iff_count.2 λy=> ?_);by_cases ar:y=ad
 ·subst ar;rw[List.count_eq_zero_of_not_mem hz,List.count_eq_zero_of_not_mem (by simp)]
 simp_all
def x_(bu:Pt)(top h:List Pt):Nat:=tr bu+oo top+oo h
def fF(h:List Pt):List Bool:=h.map λp=>decide (p≠ad)
theorem auF{l:List Bool}:HN l l.length=l.count true:=by unfold HN;rw[List.take_length]
theorem auG{h:List Pt}{k:Nat}(r:∀p∈h,p≠ad->p.k=k):oo h=(fF h).count true*fm k:=by
 induction h with
 |nil=>simp[oo,fF]
 |cons p h bG=>
  rw[KC,bG λq aq=>r q (by simp[aq])];unfold tr fF
  grind
theorem ZP(f:Nat->Nat):((List.range 8).map f).sum=f 0+f 1+f 2+f 3+f 4+f 5+f 6+f 7:=by
 have:List.range 8=[0,1,2,3,4,5,6,7]:=rfl;rw[this];simp only[List.map_cons,List.map_nil,List.sum_cons,List.sum_nil];omega
theorem auH(l:List Bool):uu l 8=((List.range 8).map λg=>if zN l g then 1 else 0).sum:=by
 rw[ZP];simp only[uu,Nat.zero_add]
theorem ah6{h:List Pt}{g:Nat}:zN (fF h) g=true↔it g h≠List.replicate (it g h).length ad:=by
 unfold zN fF it;rw[<-List.map_drop,<-List.map_take,List.any_map];constructor
 ·grind
 ·intro e;rw[List.any_eq_true];refine Classical.byContradiction λav=>e (List.eq_replicate_iff.2 ⟨rfl,λx M=> ?_⟩)
  grind
section
variable{has:Pt->List UInt8->Prop}{bu table:Pt}{top h dp aD:List Pt}{k:Nat}{v:List br}
theorem hy.zN(t:hy has bu top h){g:Nat}(aF:g<8):Go.Proofs.YtoohkhcpboldjaaGreatDoor.zN (fF h) g=true↔top.getD g ad≠ad:=by
 rw[ah6,ah7 t.al aF];have e:=(t.cq g aF).iff;have hz:List.replicate 8 ad=dY:=rfl
 grind
theorem hy.KD(t:hy has bu top h)(r:∀p∈h,p≠ad->p.k=k):x_ bu top h=2*uu (fF h) 8+HN (fF h) 64*fm k+(if 0<uu (fF h) 8 then 2 else 0):=by
 have al:(fF h).length=64:=by unfold fF;rw[List.length_map,t.al]
 have H:oo h=HN (fF h) 64*fm k:=by rw[auG r,<-al,auF]
 have sw:top=(List.range 8).map λg=>top.getD g ad:=(TC t.ho.ez.len);have oA:∀g,g<8->tr (top.getD g ad)=2*if Go.Proofs.YtoohkhcpboldjaaGreatDoor.zN (fF h) g then 1 else 0:=λg aF=>by
  unfold tr;by_cases hz:top.getD g ad=ad
  ·rw[if_pos hz,if_neg (λe=>(t.zN aF).1 e hz)]
  ·rw[if_neg hz,if_pos ((t.zN aF).2 hz)];rcases(t.cq g aF).dn with⟨e,_⟩|⟨_,_,_,e⟩
   ·exact absurd e hz
   ·rw[e];rfl
 have I:oo top=2*uu (fF h) 8:=by
  rw[sw,auH,ZP];unfold oo;rw[List.map_map,ZP];simp only[Function.comp_apply,oA 0 (by omega),oA 1 (by omega),oA 2 (by omega),oA 3 (by omega),oA 4 (by omega),oA 5 (by omega),oA 6 (by omega),oA 7 (by omega)];omega
 have af:tr bu=if 0<uu (fF h) 8 then 2 else 0:=by
  unfold tr;by_cases hz:bu=ad
  ·have bd:=t.ho.iff.1 hz;have:uu (fF h) 8=0:=by
    have:oo top=0:=by rw[bd];decide
    omega
   grind
  ·have da:top≠dY:=λe=>hz (t.ho.iff.2 e);have:0<uu (fF h) 8:=by
    refine Classical.byContradiction λbf=>da ?_;have bf:oo top=0:=by omega
    rw[sw];have fq:∀g,g<8->top.getD g ad=ad:=λg aF=>by
     refine Classical.byContradiction λiu=> ?_;have e:=oA g aF;rw[if_pos ((t.zN aF).2 iu)]at e;have dR:∀(l:List Pt) (x:Pt),x∈l->tr x<=oo l:=λl x M=>by
      induction l with
      |nil=>cases M
      |cons y l bG=>
       rw[KC]
       grind
     have aH:top.getD g ad∈top:=by
      rw[List.getD_eq_getElem?_getD,List.getElem?_eq_getElem (by rw[t.ho.ez.len];exact aF)];exact List.getElem_mem _
     grind
    apply List.ext_getElem?;intro g;unfold dY;rw[List.getElem?_map,List.getElem?_replicate];by_cases aF:g<8
    ·grind
    ·grind
   rw[if_neg hz,if_pos this];rcases t.ho.dn with⟨e,_⟩|⟨_,_,_,e⟩
   ·exact absurd e hz
   ·rw[e];rfl
 unfold x_;omega
def wD(v:List br)(lf:Nat->Nat->Option (List UInt8)):List BG:=(lJ.filter λn=>decide (v.getD n bA≠bA)).map λn=>(n,(v.getD n bA).k,(List.range 64).map λo=>(lf n o).isSome)
theorem mL.fF{x:br}{lf:Nat->Option (List UInt8)}(b:mL has x top h lf):Go.Proofs.YtoohkhcpboldjaaGreatDoor.fF h=(List.range 64).map λo=>(lf o).isSome:=by
 apply List.ext_getElem?;intro o;unfold Go.Proofs.YtoohkhcpboldjaaGreatDoor.fF;rw[List.getElem?_map,List.getElem?_map];by_cases aB:o<64
 ·rw[List.getElem?_range aB,List.getElem?_eq_getElem (by rw[b.oq.al];exact aB)];simp only[Option.map_some,Option.some.injEq];have e:h.getD o ad=h[o]'(by rw[b.oq.al];exact aB):=by rw[List.getD_eq_getElem?_getD,List.getElem?_eq_getElem (by rw[b.oq.al];exact aB)];rfl
  rcases b.jO o aB with⟨H,I⟩|⟨H,_,c,_,I⟩
  ·rw[<-e,H,I];rfl
  grind
 ·rw[List.getElem?_eq_none (by rw[b.oq.al];omega),List.getElem?_eq_none (by simpa using aB)];rfl
theorem mL.auI{x:br}{lf:Nat->Option (List UInt8)}(b:mL has x top h lf):∀p∈h,p≠ad->p.k=js x.k:=λp ah hz=>by
 obtain⟨o,aB⟩:=List.mem_iff_getElem?.1 ah;have aO:=(List.getElem?_eq_some_iff.1 aB).1;rw[b.oq.al]at aO;have e:h.getD o ad=p:=by rw[List.getD_eq_getElem?_getD,aB];rfl
 rcases b.jO o aO with⟨H,_⟩|⟨_,I,_⟩
 ·grind
 ·rw[<-e];exact I
theorem mL.KD{x:br}{lf:Nat->Option (List UInt8)}(b:mL has x top h lf)(M:x≠bA)(aH:fI x=true)(n:Nat):x_ x.J top h=TA (n,x.k,(List.range 64).map λo=>(lf o).isSome):=by
 rw[b.oq.KD b.auI,<-b.fF];unfold TA;have e:fm (js x.k)=if BF x.k=1 then 1 else 2:=by
  rcases ZQ aH M with e|e|e<;>rw[e]<;>rfl
 rw[e]
theorem mL.zero{x:br}{lf:Nat->Option (List UInt8)}(b:mL has x top h lf)(M:x=bA):x_ x.J top h=0:=by
 subst M;have bf:∀o,o<64->h.getD o ad=ad:=λo aB=>b.oq.ah8 rfl aB;have bd:=b.oq.ho.iff.1 rfl;have e:h=List.replicate 64 ad:=by
  refine List.eq_replicate_iff.2 ⟨b.oq.al,λp ah=> ?_⟩;obtain⟨o,aB⟩:=List.mem_iff_getElem?.1 ah;have aO:=(List.getElem?_eq_some_iff.1 aB).1;rw[b.oq.al]at aO;have:=bf o aO;rw[List.getD_eq_getElem?_getD,aB]at this;exact this
 unfold x_;rw[bd,e];decide
end
section
variable{has:Pt->List UInt8->Prop}{top table:Pt}{dp aD:List Pt}{v:List br}{O:lh}{lf:Nat->Nat->Option (List UInt8)}
def x'(top table:Pt)(dp aD:List Pt)(O:lh):List Pt:=top::table::(dp++aD)++lJ.flatMap λn=>(O.x n).J::(O.sx n++O.sy n)
theorem ah9(f:Nat->List Pt)(y:Pt):∀l:List Nat,(l.flatMap f).count y=hN l λn=>(f n).count y
 |[]=>rfl
 |n::l=>by rw[List.flatMap_cons,List.count_append,ah9 f y l,vs]
theorem TD(y:Pt):(x' top table dp aD O).count y=uv top table dp aD O y:=by
 unfold x' uv;rw[List.count_append,ah9];have e:hN lJ (λn=>((O.x n).J::(O.sx n++O.sy n)).count y)=hN lJ (O.eN y):=Ov λn _=>by
  rw[List.count_cons,List.count_append];unfold lh.eN mM
  grind
 rw[e,List.count_cons,List.count_cons,List.count_append];unfold mM
 grind
theorem ah_(f:Nat->List Pt):∀l:List Nat,oo (l.flatMap f)=hN l λn=>oo (f n)
 |[]=>rfl
 |n::l=>by rw[List.flatMap_cons,TB,ah_ f l,vs]
theorem auJ:oo (x' top table dp aD O)=tr top+x_ table dp aD+hN lJ λn=>x_ (O.x n).J (O.sx n) (O.sy n):=by
 unfold x';rw[TB,ah_,KC,KC,TB];have e:hN lJ (λn=>oo ((O.x n).J::(O.sx n++O.sy n)))=hN lJ λn=>x_ (O.x n).J (O.sx n) (O.sy n):=Ov λn _=>by
  rw[KC,TB];unfold x_;omega
 rw[e];unfold x_;omega
theorem ah'(P:Nat->Bool)(f:Nat->Nat):∀l:List Nat,(∀n∈l,P n=false->f n=0)->hN l f=hN (l.filter P) f
 |[],_=>rfl
 |n::l,h=>by
  rw[vs,List.filter_cons,ah' P f l λk r=>h k (by simp[r])]
  cases ah:P n
  ·grind
  ·simp[vs]
theorem aia(f:Nat->BG):∀l:List Nat,Ou (l.map f)=hN l λn=>TA (f n)
 |[]=>rfl
 |n::l=>by rw[List.map_cons,Ou,aia f l,vs]
theorem auK:∀(l:List BG) (o:Nat),(∀x∈l,x.1<256)->o<64->((BH l)[o]? =some true↔∃x∈l,x.1 / 4=o):=by
 have key:∀(l:List BG) (s:List Bool) (o:Nat),s.length=64->(∀x∈l,x.1<256)->o<64->((l.foldl (λs x=>s.set (x.1 / 4) true) s)[o]? =some true↔s[o]? =some true\/∃x∈l,x.1 / 4=o):=by
  intro l
  induction l with
  |nil=>intro s o _ _ _;simp
  |cons x l bG=>
   intro s o aw al aB;have M:=al x (by simp);rw[List.foldl_cons,bG _ o (by rw[List.length_set,aw]) (λy ar=>al y (by simp[ar])) aB,List.getElem?_set]
   grind
 intro l o al aB;unfold BH;rw[key l (Ot 64) o (ah4 64) al aB];have:(Ot 64)[o]?≠some true:=by
  unfold Ot;rw[List.getElem?_replicate,if_pos aB];simp
 simp[this]
theorem qQ.fF(c:qQ has table dp aD v O lf):Go.Proofs.YtoohkhcpboldjaaGreatDoor.fF aD=BH (wD v lf):=by
 apply List.ext_getElem?;intro o;have eG:(Go.Proofs.YtoohkhcpboldjaaGreatDoor.fF aD).length=64:=by unfold Go.Proofs.YtoohkhcpboldjaaGreatDoor.fF;rw[List.length_map,c.kT.lK.al]
 by_cases aB:o<64
 ·have V:∀a b:Bool,(a=true↔b=true)->a=b:=λa b h=>by grind
  rw[List.getElem?_eq_getElem (by rw[eG];exact aB),List.getElem?_eq_getElem (by rw[ZO];exact aB)];refine congrArg some (V _ _ ?_);have auL:∀x∈wD v lf,x.1<256:=λx M=>by
   unfold wD at M;obtain⟨n,av,rfl⟩:=List.mem_map.1 M;have:=Fu.1 (List.mem_filter.1 av).1;show n<256;omega
  have H:=auK (wD v lf) o auL aB;rw[List.getElem?_eq_getElem (by rw[ZO];exact aB)]at H;simp only[Option.some.injEq]at H;rw[H];have e:(Go.Proofs.YtoohkhcpboldjaaGreatDoor.fF aD)[o]'(by rw[eG];exact aB)=decide (aD.getD o ad≠ad):=by
   unfold Go.Proofs.YtoohkhcpboldjaaGreatDoor.fF;rw[List.getElem_map,List.getD_eq_getElem?_getD,List.getElem?_eq_getElem (by rw[c.kT.lK.al];exact aB)];rfl
  rw[e,decide_eq_true_eq];refine(not_congr (c.kT.lf o aB).iff).trans ?_;constructor
  ·intro da;refine Classical.byContradiction λav=>da ?_;have nk:=aib c.kT.al aB;unfold fO;refine List.eq_replicate_iff.2 ⟨nk,λx M=> ?_⟩;obtain⟨i,aa⟩:=List.mem_iff_getElem?.1 M;have Ow:=(List.getElem?_eq_some_iff.1 aa).1;rw[nk]at Ow;have aF:=KE (o:=o) (v:=v) Ow;rw[List.getD_eq_getElem?_getD,aa]at aF;have aF:x=v.getD (4*o+i) bA:=aF;refine Classical.byContradiction λFv=>av ?_;have pe:4*o+i≠0:=λe=>Fv (by rw[aF,e,c.kT.v0]);refine⟨_,List.mem_map.2 ⟨4*o+i,List.mem_filter.2 ⟨Fu.2 ⟨by omega,by omega⟩,?_⟩,rfl⟩,?_⟩
   ·grind
   omega
  ·rintro⟨x,M,aic⟩ aW;unfold wD at M;obtain⟨n,av,rfl⟩:=List.mem_map.1 M;have aic:n / 4=o:=aic;have pn:=(List.mem_filter.1 av).2;rw[decide_eq_true_eq]at pn;have aF:=KE (o:=o) (k:=n%4) (v:=v) (by omega);rw[aW,show 4*o+n%4=n by omega]at aF;apply pn;rw[<-aF];unfold fO
   grind
 ·rw[List.getElem?_eq_none (by rw[eG];omega),List.getElem?_eq_none (by rw[ZO];omega)]
theorem qQ.KD(c:qQ has table dp aD v O lf){top:Pt}(bd:top≠ad)(r:top.k=5){ae:List Pt}(hz:ad∉ae)(T:∀y,y≠ad->ae.count y=uv top table dp aD O y):fU ae=ah5 (wD v lf):=by
 rw[auE hz λy ar=>(T y ar).trans (TD y).symm,auJ];have H:tr top=2:=by unfold tr;rw[if_neg bd,r];rfl
 have I:x_ table dp aD=2*uu (BH (wD v lf)) 8+HN (BH (wD v lf)) 64*2+(if 0<uu (BH (wD v lf)) 8 then 2 else 0):=by
  rw[<-c.fF];have:=c.kT.lK.KD (k:=4) λp ah hz=>by
   obtain⟨o,aB⟩:=List.mem_iff_getElem?.1 ah;have aO:=(List.getElem?_eq_some_iff.1 aB).1;rw[c.kT.lK.al]at aO;have e:aD.getD o ad=p:=by rw[List.getD_eq_getElem?_getD,aB];rfl
   rcases(c.kT.lf o aO).dn with⟨H,_⟩|⟨_,_,_,I⟩
   ·grind
   ·rw[<-e];exact I
  exact this
 have af:hN lJ (λn=>x_ (O.x n).J (O.sx n) (O.sy n))=Ou (wD v lf):=by
  unfold wD;rw[aia,ah' (λn=>decide (v.getD n bA≠bA)) _ lJ λn av ah=> ?_]
  ·refine Ov λn av=> ?_;obtain⟨am,aS⟩:=List.mem_filter.1 av;obtain⟨hY,kA⟩:=Fu.1 am;have aS:v.getD n bA≠bA:=by simpa using aS
   have M:=c.x n hY kA;have nK:=c.nK n hY kA;rw[nK.KD (by rw[M];exact aS) (by rw[M];exact(c.kT.ez n).2) n,M]
  ·obtain⟨hY,kA⟩:=Fu.1 av;exact(c.nK n hY kA).zero (by rw[c.x n hY kA];simpa using ah)
 rw[H,I,af];unfold ah5;omega
end
def oT:vm:=(0,List.replicate 32 0,[0,0,0,0])
theorem Dv:uq oT:=⟨by decide,by decide,by decide,λi x M=>by
 match i,M with
 |0,M=>cases M;decide
 |1,M=>cases M;decide
 |2,M=>cases M;decide
 |3,M=>cases M;decide⟩
theorem TE(w:World){x y:vm}(M:uq x)(ar:uq y):(Op.equalIn 10000 61 (.agg (ol x)) (.agg (ol y))).run Tryz.prog w=.ok (decide (x=y)) w:=by
 have aK:∀w,(Op.equalIn 9999 41 (.agg (bm x.2.1).toArray) (.agg (bm y.2.1).toArray)).run Tryz.prog w=.ok (decide (x.2.1=y.2.1)) w:=λw=>QU w 9997 _ _ 32 Tryz.underlying41 Tryz.underlying5 Tryz.sizeOf5 Tryz.isAgg5 _ _ M.aD ar.aD;have aW:∀w,(Op.equalIn 9999 42 (.agg (ky x.2.2).toArray) (.agg (ky y.2.2).toArray)).run Tryz.prog w=.ok (decide (x.2.2=y.2.2)) w:=λw=>Wa w 9997 _ _ 4 Tryz.underlying42 Tryz.underlying39 Tryz.sizeOf39 Tryz.isAgg39 _ _ M.am ar.am;have kv:=En x.1 x.2.1 x.2.2;have auM:=En y.1 y.2.1 y.2.2;have ah:decide (x=y)=(decide (x.1=y.1)&&(decide (x.2.1=y.2.1)&&decide (x.2.2=y.2.2))):=by
  obtain⟨a,b,c⟩:=x;obtain⟨ih,nV,dg⟩:=y;simp only[Prod.mk.injEq,Bool.decide_and]
 rw[ah];simp[go_sem,kv,auM,Wo M.aD,Wo ar.aD,adX M.aD M.am,adX ar.aD ar.am,aK,aW]
 grind
def pA(a:vm):Pt:=⟨5,0,0,0,a.1,a.2.1,a.2.2⟩
theorem aid{a:vm}(ok:uq a):bN (pA a):=⟨by show 5<256;decide,by show 0<256;decide,by show 0<65536;decide,by show 0<4294967296;decide,ok.av,ok.aD,ok.am,λx M=>by
 obtain⟨i,aa⟩:=List.mem_iff_getElem?.1 M;exact ok.lt i x aa⟩
def uw{ay:Type}(rd:Src ay)(s:ay)(a:vm):ay×e'×Int:=
 if a=oT then(s,dO,0)else
 if iX (pA a)=false then(s,dO,5)else
 let b:=rd s (pA a)
 if b.2.2≠0 then(b.1,dO,b.2.2)else
 if(sz b.2.1).2≠0\/(sz b.2.1).1.1≠a.1 then(b.1,dO,21)else(b.1,⟨a.1,pA a,(sz b.2.1).1.2⟩,0)
theorem KF{w:World}{K:Value->World->Prop}:hX Tryz.prog 61 [] w K=K (.agg (ol oT)) w:=aie
theorem Ox{w:World}{K:Value->World->Prop}:hX Tryz.prog 46 [] w K=K (.agg (cz dO)) w:=
 lp Tryz.underlying46 Hx (places:=#[(0,1),(1,41),(42,41)]) (by simp[go_sem]) (by simp[iH,Hy])
theorem auN{a:vm}(ok:uq a){a0 a1 a2 a3:Nat}(am:a.2.2=[a0,a1,a2,a3]){w:World}{K:Value->World->Prop}:hX Tryz.prog 44 [(0,.int .u8 5),(4,.int .u64 a.1),(5,.agg (bm a.2.1).toArray),(6,.agg #[.int .u16 a0,.int .u16 a1,.int .u16 a2,.int .u16 a3])] w K=K (.agg (Y (pA a))) w:=by
 refine lp Tryz.underlying44 gm (places:=#[(0,1),(1,1),(2,1),(3,1),(4,1),(5,32),(37,4)]) (by simp[go_sem]) ?_;have aD:=ok.aD;have hz:=bW cE;simp[iH,gn,Value.cells,tI,hz,eB,aD];unfold d';simp[Y,ad,pA,eB,aD,ky,Cm,am];simp[lM]
section
variable{ay:Type}{bc:ay->h_}{m:ay->Nat}{rd:Src ay}{dB:TypeId}{ca:Value}{s:ay}{w w':World}{O:Nat->Prop}
theorem auO(aw:qu bc m rd (.iface dB ca))(aH:16<=m s)(aN:∀s,kk (bc s))(h:bc s w O)(a:vm)(ok:uq a)(ck:hj w)(aF:ik bc O):
  aP Tryz.prog 26 #[.iface dB ca,.agg (ol a)] w λW w'=>W=.tuple #[.agg (cz (uw rd s a).2.1),.int .i64 (uw rd s a).2.2]/\gV (uw rd s a).2.1/\bc (uw rd s a).1 w' (ax O w w')/\D O w w':=by
 refine bn Tryz.func26 Tryz.ntmps26 λaZ Z=> ?_;have gc:=(aN s).lt h;have has:=rT (n:=a.1) ok.aD ok.am;have ya:=Em (n:=a.1) ok.aD ok.am;have dN:=iQ kR;have iz:=zr kR;have aY:=((D.refl ak w).alloc (.cells (ol a) 61)).alloc (.cells (cz dO) 46);have bj:=oa w (.cells (ol a) 61) (.cells (cz dO) 46);have ba:=ny w (.cells (ol a) 61) (.cells (cz dO) 46);have gd:((w.alloc (.cells (ol a) 61)).alloc (.cells (cz dO) 46)).1.size=w.1.size+2:=by simp
 obtain⟨ab,de⟩:=az ((w.alloc (.cells (ol a) 61)).alloc (.cells (cz dO) 46));rw[de]at aY bj ba gd;simp[go_sem,has,ya,Hx,Hy,de];obtain⟨g,mG⟩:=az (w.1.size);rw[mG]at bj ba gd⊢;clear de;have H:=(aN s).ch h aY λ_ _ e=>e;have eJ:=ck.ch aY λ_ _ e=>e;have gI:=λw=>TE w ok Dv;obtain⟨lZ,iT⟩:=az (uw rd s a);rw[iT]at Z;have bL:∀{u:World} {x:ay×e'×Int} {Q:Nat->Prop},lZ=x->gV x.2.1->bc x.1 u Q->(∀j,Q j->ax O ab u j)->D O w u->ab.1.size<=u.1.size->u.1[g+1]? =some (.cells (cz dO) 46 (0,0))->aZ (.tuple #[.agg (cz x.2.1),.int .i64 x.2.2]) (u.setRow (g+1) (cz x.2.1)):=λ{u x Q} e dh aD eP aJ He V=>by
  subst e;have kn:=(D.refl (aj (g+1)) u).setRow (g:=g+1) (.inl rfl) (cz lZ.2.1);have Yv:=kn.size;refine Z _ _ ⟨rfl,dh,(aN _).ex ((aN _).ch aD kn λj F e=> ?_) (λj F=>(eP j F).imp id λe=>⟨by omega,by omega⟩) (ax.lt gc (by omega)),aJ.bJ kn λj F e=>by simp only[aj]at e;omega⟩;simp only[aj]at e;rcases eP j F with dM|dM
  ·have:=gc j dM;omega
  ·omega
 clear Z;have qa:lZ=if a=oT then(s,dO,0)else if iX (pA a)=false then(s,dO,5)else if(rd s (pA a)).2.2≠0 then((rd s (pA a)).1,dO,(rd s (pA a)).2.2)else
  if(sz (rd s (pA a)).2.1).2≠0\/(sz (rd s (pA a)).2.1).1.1≠a.1 then((rd s (pA a)).1,dO,21)else((rd s (pA a)).1,⟨a.1,pA a,(sz (rd s (pA a)).2.1).1.2⟩,0):=iT.symm
 clear iT;by_cases hz:a=oT
 ·rw[if_pos hz]at qa;have qb:=λw=>(gI w).trans (by rw[decide_eq_true hz]);simp[go_sem,bj,ba,has,ya,KF,Ox,qb,dN,iz,qK,bQ];exact bL (x:=(s,dO,0)) qa kR H (λj F=>.inl F) (aY.mono λ_ _ e=>e.elim) (Nat.le_refl _) ba
 ·rw[if_neg hz]at qa;have auP:=λw=>(gI w).trans (by rw[decide_eq_false hz]);obtain⟨a0,a1,a2,a3,am,_⟩:∃a0 a1 a2 a3,a.2.2=[a0,a1,a2,a3]/\True:=by
   obtain⟨a0,a1,a2,a3,am,_⟩:=a4 (aid ok);exact⟨a0,a1,a2,a3,am,trivial⟩
  have T:∀(i x:Nat),a.2.2[i]? =some x->ab.cell? ⟨g,33+i,none⟩=some (.int .u16 x):=λi x M=>(aG bj _).trans (Jh ok.aD i x M);have gq:ab.cell? ⟨g,33,none⟩=some (.int .u16 a0):=T 0 a0 (by rw[am];rfl);have cK:ab.cell? ⟨g,34,none⟩=some (.int .u16 a1):=T 1 a1 (by rw[am];rfl);have hr:ab.cell? ⟨g,35,none⟩=some (.int .u16 a2):=T 2 a2 (by rw[am];rfl);have ei:ab.cell? ⟨g,36,none⟩=some (.int .u16 a3):=T 3 a3 (by rw[am];rfl);have auQ:ab.cell? ⟨g,0,none⟩=some (.int .u64 a.1):=(aG bj 0).trans (En _ _ _);have auR:=Wo (n:=a.1) (a:=a.2.2) ok.aD;have ji:=aid ok;obtain⟨q,aq⟩:=az (pA a);rw[aq]at ji qa;have cU:=bW ji;have cT:=dW ji;have so:=bW cE;have xd:=λ{w:World} {K:Value->World->Prop}=>auN ok am (w:=w) (K:=K);rw[aq]at xd;have aA:=(D.refl ak ab).alloc (.cells (Y q) 44);have cC:=cl ab (.cells (Y q) 44);have cw:(ab.alloc (.cells (Y q) 44)).1.size=ab.1.size+1:=by simp
  obtain⟨ai,hd⟩:=az (ab.alloc (.cells (Y q) 44));rw[hd]at aA cC cw;simp[go_sem,bj,has,ya,KF,auP,gq,cK,hr,ei,auQ,auR,xd,gm,gn,so,cU,cT,bQ,hd,cC];obtain⟨cb,oA⟩:=az (ab.1.size);rw[oA]at cC cw⊢;clear hd;have I:=(aN s).ch H aA λ_ _ e=>e;have mX:=eJ.ch aA λ_ _ e=>e;refine(AB q ai ji mX.qt).mono ?_;rintro _ aC ⟨rfl,aE⟩;have af:=(aN s).ch I aE λ_ _ e=>e;have ka:=mX.ch aE λ_ _ e=>e;have gL:=aE.size;have lq:=aA.trans aE;have si:=lq.obj bj id;have iL:=lq.obj ba id;have wh:=aE.obj cC id;have iU:D O w aC:=(aY.trans lq).mono λ_ _ e=>e.elim
  cases oc:iX q with
  |false=>
   rw[if_pos oc]at qa;simp[go_sem,iL,Ox,dN,iz,qK,bQ];exact bL (x:=(s,dO,5)) qa kR af (λj F=>.inl F) iU (by omega) iL
  |true=>
   rw[if_neg (by rw[oc];simp)]at qa;simp[go_sem,wh,cU,cT];refine aw.run s aC O q _ aH af ji ka aF λu be an Oy aU bv=> ?_;have hv:=bv.size;have eO:∀j,g<=j->¬O j:=λj F e=>by have:=gc j e;omega
   have oQ:=bv.obj si (eO g (by omega));have lU:=bv.obj iL (eO (g+1) (by omega));have HH:=bv.obj wh (eO cb (by omega));have ux:=aF.ck ka bv ⟨_,aU⟩ λ_ _ e=>e;have Di:∀j,ax O aC be j->ax O ab be j:=λj F=>F.imp id λe=>⟨by omega,e.2⟩;have Dw:D O w be:=iU.trans bv;obtain⟨⟨j_,bb,fD⟩,tL⟩:∃y,rd s q=y:=⟨_,rfl⟩;rw[tL]at qa an Oy aU⊢;simp only at qa an Oy aU⊢;by_cases EW:fD=0
   ·subst EW;have lA:((0:Int)!=0)=false:=by decide
    rw[if_neg (by simp)]at qa;simp[go_sem,lA];refine(auS u bb be Oy an ux.qt).mono ?_;have Fw:=auT bb;obtain⟨⟨lK,hw⟩,auU⟩:∃y,sz bb=y:=⟨_,rfl⟩;rw[auU]at qa Fw⊢;rintro _ bw ⟨rfl,bx⟩;simp only at qa Fw⊢;have aif:=bx.size;have zO:=BI Fw;have wE:=Oz Fw;have ZR:=BI KG;have co:=(D.refl ak bw).alloc (.cells (hO lK) 182);have gx:=cl bw (.cells (hO lK) 182);have oh:(bw.alloc (.cells (hO lK) 182)).1.size=bw.1.size+1:=by simp
    obtain⟨cd,pr⟩:=az (bw.alloc (.cells (hO lK) 182));rw[pr]at co gx oh;have qy:=bx.trans co;have Bx:=qy.obj oQ id;have qC:=qy.obj lU id;have Oe:=qy.obj HH id;have cG:=(aN j_).ch aU qy λ_ _ e=>e;have ZS:∀j,ax O aC be j->ax O ab cd j:=λj F=>(Di j F).imp id λe=>⟨e.1,by omega⟩;have Hk:D O w cd:=Dw.trans (qy.mono λ_ _ e=>e.elim);have aig:cd.cell? ⟨g,0,none⟩=some (.int .u64 a.1):=(aG Bx 0).trans (En _ _ _);obtain⟨cM,tb⟩:=az (bw.1.size);have aih:cd.cell? ⟨bw.1.size,0,none⟩=some (.int .u64 lK.1):=(aG gx 0).trans aii;have mD:=ZT Fw;by_cases Fg:hw=0
    ·subst Fg;by_cases zP:lK.1=a.1
     ·have da:((lK.1:Int)!=(a.1:Int))=false:=by simp[zP]
      rw[if_neg (by simp[zP])]at qa;have TF:gV ⟨a.1,q,lK.2⟩:=⟨ok.av,ji,Fw.p⟩;have auV:=iQ TF;have auW:=zr TF;have aH3:=bW Fw.p;have aH4:=dW Fw.p;have aij:=λ{w:World} {K:Value->World->Prop}=>ag8 TF (w:=w) (K:=K);simp only at aij;simp[go_sem,Fx,Fy,zO,wE,ZR,bQ,pr,aih,aig,da,Oe,cU,cT,gx,mD,qC,aij,auV,auW,dN,qK];exact bL (x:=(j_,⟨a.1,q,lK.2⟩,0)) qa TF cG ZS Hk (by omega) qC
     ·have da:((lK.1:Int)!=(a.1:Int))=true:=by
       have:¬(lK.1:Int)=a.1:=by omega
       simpa using this
      rw[if_pos (.inr zP)]at qa;simp[go_sem,Fx,Fy,zO,wE,ZR,bQ,pr,aih,aig,da,qC,Ox,dN,iz,qK];exact bL (x:=(j_,dO,21)) qa kR cG ZS Hk (by omega) qC
    ·have jR:(hw !=0)=true:=by simpa using Fg
     rw[if_pos (.inl Fg)]at qa;simp[go_sem,Fx,Fy,zO,wE,ZR,bQ,pr,jR,qC,Ox,dN,iz,qK];exact bL (x:=(j_,dO,21)) qa kR cG ZS Hk (by omega) qC
   ·have jR:(fD !=0)=true:=by simpa using EW
    rw[if_pos EW]at qa;simp[go_sem,jR,lU,Ox,dN,iz,qK,bQ];exact bL (x:=(j_,dO,fD)) qa kR aU Di Dw (by omega) lU
end
section
variable{has:Pt->List UInt8->Prop}{bu table top:Pt}{dp aD t h:List Pt}{x:br}{v:List br}{O:lh}{lf:Nat->Nat->Option (List UInt8)}
theorem ZU{l:List Pt}{i:Nat}(hz:l.getD i ad≠ad):l.getD i ad∈l:=by
 grind
theorem hy.aik(d:hy has bu t h){ot:Pt->List UInt8->Prop}(aH:∀q b,(q=bu\/q∈t)->has q b->ot q b):hy ot bu t h:=by
 refine⟨⟨d.ho.ez,d.ho.all,d.ho.dn.imp id λ⟨a,b,c,k⟩=>⟨a,b,aH _ _ (.inl rfl) c,k⟩⟩,d.BJ,λg aF=> ?_,d.al⟩;have J:=d.cq g aF;exact⟨J.ez,J.all,J.dn.imp id λ⟨a,b,c,k⟩=>⟨a,b,aH _ _ (.inr (ZU a)) c,k⟩⟩
theorem qQ.aik(c:qQ has table dp aD v O lf){ot:Pt->List UInt8->Prop}(top:Pt)(aH:∀q b,q≠ad->0<uv top table dp aD O q->has q b->ot q b):qQ ot table dp aD v O lf:=by
 have eN:∀q,q∈x' top table dp aD O->0<uv top table dp aD O q:=λq aq=>by
  rw[<-TD];exact List.count_pos_iff.2 aq
 have ail:∀q,(q=table\/q∈dp\/q∈aD)->q∈x' top table dp aD O:=λq aq=>by
  unfold x'
  grind
 have auX:∀n q,1<=n->n<=255->(q=(O.x n).J\/q∈O.sx n\/q∈O.sy n)->q∈x' top table dp aD O:=λn q H I aq=>by
  unfold x';rw[List.mem_append];right;rw[List.mem_flatMap];refine⟨n,Fu.2 ⟨H,I⟩,?_⟩
  grind
 have OA:∀{q:Pt} {b:List UInt8},q≠ad->q∈x' top table dp aD O->has q b->ot q b:=λhz aq V=>aH _ _ hz (eN _ aq) V;have oq:∀{J:Pt} {t h:List Pt},hy has J t h->(∀q,(q=J\/q∈t)->q∈x' top table dp aD O)->hy ot J t h:=λ{J t h} d aq=>by
  refine⟨⟨d.ho.ez,d.ho.all,d.ho.dn.imp id λ⟨a,b,c,k⟩=>⟨a,b,OA a (aq _ (.inl rfl)) c,k⟩⟩,d.BJ,λg aF=> ?_,d.al⟩;have J:=d.cq g aF;exact⟨J.ez,J.all,J.dn.imp id λ⟨a,b,c,k⟩=>⟨a,b,OA a (aq _ (.inr (ZU a))) c,k⟩⟩
 refine⟨⟨oq c.kT.lK λq aq=>ail q (aq.imp id .inl),λo aB=> ?_,c.kT.al,c.kT.v0⟩,c.x,λn H I=> ?_⟩
 ·have l:=c.kT.lf o aB;exact⟨l.ok,l.all,l.dn.imp id λ⟨a,b,d,k⟩=>⟨a,b,OA a (ail _ (.inr (.inr (ZU a)))) d,k⟩⟩
 ·have nK:=c.nK n H I;refine⟨oq nK.oq λq aq=>auX n q H I (aq.imp id .inl),λo aB=> ?_⟩;rcases nK.jO o aB with k|⟨a',aX,b,bq,ec⟩
  ·exact .inl k
  grind
end
structure iV(n:Nat)(bS:Nat->Bool)(x:hK)(st:e')(v:List br)(lf:Nat->Nat->Option (List UInt8))(c:hT)(dp aD:List Pt)(O:lh):Prop where
 n:c.n=n
 bS:c.bS=bS
 ok:rD c ⟨x.s,[],[]⟩
 uy:qQ (λp b=>p∈c.dP/\ku x.s p b) st.cO dp aD v O lf
 nU:ad∉c.dP
 eN:∀y,y≠ad->c.dP.count y=uv st.top st.cO dp aD O y
 top:(st=dO/\x.cy=oT/\c.dP=[])\/(0<st.gen/\st.top.k=5/\st.top∈c.dP/\ku x.s st.top (nH (st.gen,st.cO))/\st.top=pA x.cy/\x.cy.1=st.gen)
 pB:gV st
 me:uq x.cy
theorem aim{s:ao}{p:Pt}{b nV:cX}(am:p' s)(ah:wz p)(h:ku s p b)(h':ku s p nV):b=nV:=by
 obtain⟨a,cT⟩:=ahT ah;have key:∀i,i<2->(s.au i).bS=false->b=nV:=λi aa bi=>by rw[<-h.2 am i aa bi a cT,h'.2 am i aa bi a cT]
 cases bf:(s.au 0).bS with
 |false=>exact key 0 (by omega) bf
 |true=>
  cases H:(s.au 1).bS with
  |false=>exact key 1 (by omega) H
  |true=>exact absurd ⟨bf,H⟩ am.2
theorem rD.aT{c:hT}{t:dy}(h:rD c t)(b:Nat):rD {c with aT:=b} t:=by
 obtain⟨⟨a_,bh,bV,cr,cN,f6,cg,bz,ef,eE,gD,dA,eW,f14⟩,I,af⟩:=h;exact⟨⟨a_,bh,bV,cr,cN,f6,cg,bz,ef,eE,gD,dA,eW,f14⟩,I,af⟩
theorem lI.ain{c:hT}{s:ao}(h:lI c ⟨s,[],[]⟩):rD c ⟨s,[],[]⟩:=⟨h,by simp,λ_=>rfl⟩
theorem auY{c:hT}{g:Nat}{table top:Pt}{C:no}{nums:List Nat}{t:dy}(h:(lD (ms c) g table top C nums t).2.2=0):∃h a,(lD (ms c) g table top C nums t).2.1.1=pA (c.aT,h,a):=by
 unfold lD at h⊢;simp only at h⊢;split at h
 ·grind
 ·rename_i H;rw[if_neg H];split at h
  ·grind
  ·rename_i I;rw[if_neg I];split at h
   ·grind
   ·rename_i af;rw[if_neg af];have wk:(ms c).nw=hg c.n c.aT:=rfl;rw[wk]at af⊢;simp only;unfold hg at af⊢;simp only at af⊢;split at af
    ·simp at af
    ·rename_i bU;rw[if_neg bU];exact⟨_,_,rfl⟩
theorem auZ{a b:Nat}(h:a<b):tk a b ek.on.off ek.on.dq=0:=by
 unfold tk;rw[if_neg (by omega)];rfl
structure ZV(C:no)(v:List br)(nums:List Nat):Prop where
 ok:C.nB
 kd:C.ZW v
 TG:nums.Pairwise (·<·)
 su:∀n∈nums,1<=n/\n<=255
 cA:∀n,1<=n->n<=255->n∉nums->C.own n=none/\C.wiped n=false/\C.ch n=[]
def OB(C:no)(v:List br)(lf:Nat->Nat->Option (List UInt8))(nums:List Nat):Nat->Nat->Option (List UInt8):=λn=>if n∈nums then C.lf v lf n else lf n
section
variable{n:Nat}{bS:Nat->Bool}{x:hK}{st:e'}{v:List br}{lf:Nat->Nat->Option (List UInt8)}{c:hT}{dp aD:List Pt}{O:lh}{L:fM}{xs:List em}
theorem iV.ZX(h:iV n bS x st v lf c dp aD O)(jS:c.ip=false)(aF:st.gen+1<18446744073709551616)(av:n<=65536)(aR:ZV (hJ L) v (xs.map (·.val)))(M:xs≠[]){aI:hT}(fY:aI={c with aT:=st.gen+1}):
  (∃iC fT W wF qn O' dg,rz aI x st L xs=(iC,fT,0)/\fT.gen=st.gen+1/\dg.ip=false/\iV n bS iC fT W (OB (hJ L) v lf (xs.map (·.val))) dg wF qn O'/\¬(bS 0=true/\bS 1=true)/\
   (∀k,1<=k->k<=255->k∉xs.map (·.val)->W.getD k bA=v.getD k bA)/\(∀k∈xs.map (·.val),W.getD k bA=(if(hJ L).nj v k=bA then bA else{(hJ L).nj v k with J:=(W.getD k bA).J}))/\(∃t1:dy,lI aI t1/\fU t1.bI<=hN (xs.map (·.val)) ((hJ L).zQ v)+2*((xs.map (·.val)).length+10)/\∀p∈dg.dP,p∈c.dP\/p∈t1.bI))\/
  (∃iC e t1,rz aI x st L xs=(iC,st,e)/\e≠0/\iC.cy=x.cy/\iC.s=sp n t1/\lI aI t1/\iV n bS iC st v lf aI dp aD O/\((e=21/\bS 0=true/\bS 1=true)\/(e=30/\Ty aI t1/\(bS 0=true/\bS 1=true->t1.bI=[])))/\fU t1.bI<=hN (xs.map (·.val)) ((hJ L).zQ v)+2*((xs.map (·.val)).length+10)):=by
 obtain⟨Dx,Df,gg,nX,oC,zR,sw,pB,me⟩:=h;have rE:aI.n=n:=by rw[fY];exact Dx
 have db:aI.aT=st.gen+1:=by rw[fY]
 have wG:aI.dP=c.dP:=by rw[fY]
 have nd:aI.bS=bS:=by rw[fY];exact Df
 have CC:aI.ip=false:=by rw[fY];exact jS
 have HO:rD aI ⟨x.s,[],[]⟩:=by rw[fY];exact gg.aT _
 have ae:=ah3 (c:=aI) (by rw[db];exact aF);have qG:x.s.P=ek.on:=HO.bL.on CC;have TH:qQ ((ms aI).has ⟨x.s,[],[]⟩) st.cO dp aD v O lf:=nX.mono λq b aq=>⟨by grind,aq.2⟩;have ZY:st.top=ad\/∃b,(ms aI).has ⟨x.s,[],[]⟩ st.top b:=by
  rcases sw with⟨e,_,_⟩|⟨_,_,a',aX,_⟩
  ·exact .inl (by rw[e];rfl)
  ·exact .inr ⟨_,by grind,aX⟩
 have cA:∀{s':ao},lI aI ⟨s',[],[]⟩->(∀p b,p∈c.dP->ku x.s p b->ku s' p b)->iV n bS ⟨s',x.cy⟩ st v lf aI dp aD O:=λ{s'} gJ eR=>
  ⟨rE,nd,gJ.ain,nX.mono λq b aq=>⟨by rw[wG];exact aq.1,eR q b aq.1 aq.2⟩,by rw[wG];exact oC,by rw[wG];exact zR,sw.imp (λe=>⟨e.1,e.2.1,by rw[wG];exact e.2.2⟩) λ⟨a',aX,bq,ec,ft,iI⟩=>⟨a',aX,by rw[wG];exact bq,eR _ _ bq ec,ft,iI⟩,pB,me⟩
 have ZZ:∀{t1:dy},lI aI t1->iV n bS ⟨sp aI.n t1,x.cy⟩ st v lf aI dp aD O:=λ{t1} gJ=>by
  have wx:lI aI ⟨sp aI.n t1,[],[]⟩:=gJ.ZZ;refine cA wx λp b ah eR=> ?_;have bf:ku x.s p (aI.blk p):=HO.bL.Tz (p:=p) (by rw[wG];exact ah);have H:ku (sp aI.n t1) p (aI.blk p):=wx.Tz (p:=p) (by rw[wG];exact ah);have cR:∀i,i<2->((sp aI.n t1).au i).bS=(x.s.au i).bS:=λi aa=>(wx.bS i aa).trans (HO.bL.bS i aa).symm;have aw:=(HO.bL.vr p (by grind)).2.1;refine⟨eR.1,λam i aa bi a cT=> ?_⟩;have HL:p' x.s:=by
   refine⟨by rw[qG];rfl,λe=>am.2 ⟨?_,?_⟩⟩
   ·grind
   ·grind
  rw[H.2 am i aa bi a cT];exact(aim HL aw eR bf).symm
 rcases aio ae aR.ok aR.kd HO (top:=st.top) (gen:=aI.aT) (by rw[db];exact aF) TH ZY aR.TG aR.su aR.cA with⟨bt,oU,OC,wF,qn,W,O',m,g,aK,X,aip,Z_,Z',au0,out,KH,TI,bH,KI⟩|wH
 ·
  have au1:bt.bI=m:=by have:=X.bI;simpa[ms]using this
  have aH5:bt.fL=g:=by have:=X.fL;simpa[ms]using this
  have BK:rD aI bt:=X.ok;have jK:¬(bS 0=true/\bS 1=true):=λe=>by
   have:=BK.none (by rw[nd];exact e)
   grind
  have OD:rz aI x st L xs=if bt.s.d_.2≠0 then(⟨sp aI.n {bt with s:=bt.s.d_.1},x.cy⟩,st,bt.s.d_.2)else
    if tk x.cy.1 aI.aT bt.s.d_.1.P.off bt.s.d_.1.P.dq≠0 then(⟨sp aI.n {bt with s:={bt.s.d_.1 with P:=if aI.aT<=x.cy.1 then bt.s.d_.1.P else bt.s.d_.1.P.step}},x.cy⟩,st,tk x.cy.1 aI.aT bt.s.d_.1.P.off bt.s.d_.1.P.dq)else
    (⟨({bt.s.d_.1 with P:=if aI.aT<=x.cy.1 then bt.s.d_.1.P else bt.s.d_.1.P.step}:ao).all aI.n 0,(aI.aT,oU.h,oU.a)⟩,⟨aI.aT,oU,OC⟩,0):=by
   unfold rz;rw[if_neg M];simp only[aK,ne_eq,not_true_eq_false,if_false]
  have R:=TJ bt.s;have Dn:bt.s.P=ek.on:=BK.bL.on CC;have Do:bt.s.d_.1.P=ek.on:=R.on Dn;have aiq:¬((bt.s.au 0).bS=true/\(bt.s.au 1).bS=true):=λe=>jK (by rw[<-nd,<-BK.bL.bS 0 (by omega),<-BK.bL.bS 1 (by omega)];exact e);have HP:=R.ok Dn aiq;have aO:x.cy.1<aI.aT:=by
   rw[db];rcases sw with⟨_,e,_⟩|⟨_,_,_,_,_,e⟩
   ·rw[e];show 0<st.gen+1;omega
   ·omega
  have Wk:(if aI.aT<=x.cy.1 then bt.s.d_.1.P else bt.s.d_.1.P.step)=bt.s.d_.1.P:=by rw[if_neg (by omega),Do];rfl
  have au2:tk x.cy.1 aI.aT bt.s.d_.1.P.off bt.s.d_.1.P.dq=0:=by rw[Do];exact auZ aO
  rw[if_neg (by rw[HP];simp),if_neg (by rw[au2];simp),Wk]at OD;have au3:({bt.s.d_.1 with P:=bt.s.d_.1.P}:ao)=bt.s.d_.1:=rfl;rw[au3]at OD;have au4:∀q,q∈aI.dP++bt.bI->∃b,ku bt.s q b:=λq aq=>by
   rcases List.mem_append.1 aq with aq|aq
   ·exact⟨_,BK.bL.Tz aq⟩
   ·exact BK.fh q aq
  obtain⟨B,eR⟩:∃B:Pt->cX,∀q,q∈aI.dP++bt.bI->ku bt.s q (B q):=by
   refine⟨λq=>if aq:q∈aI.dP++bt.bI then Classical.choose (au4 q aq)else[],λq aq=> ?_⟩
   grind
  have air:ad∉aI.dP++bt.bI:=λe=>absurd (BK.bL.vr _ e).2.2 (by decide);obtain⟨ou,ais,ait,yb⟩:∃ou:List Pt,ad∉ou/\(∀y,y≠ad->ou.count y=uv oU OC wF qn O' y)/\∀y∈ou,y∈aI.dP++bt.bI:=by
   refine⟨(x' oU OC wF qn O').filter λp=>decide (p≠ad),by simp,λy ar=> ?_,λy ar=> ?_⟩
   ·rw[List.count_filter (by simpa using ar),TD]
   ·obtain⟨H,I⟩:=List.mem_filter.1 ar;have OE:y≠ad:=by simpa using I
    have ah:0<uv oU OC wF qn O' y:=by rw[<-TD];exact List.count_pos_iff.2 H
    grind
  have rk:∀y,y≠ad->ou.count y+bt.fL.count y=aI.dP.count y+bt.bI.count y:=λy ar=>by
   grind
  have lg:bt.s.d_.1.P.off=false:=by rw[Do];rfl
  obtain⟨dg,oV⟩:∃dg:hT,dg=⟨n,aI.aT,ou,B,bS,false⟩:=⟨_,rfl⟩;have aQ:=BK.next lg (by rw[nd];exact jK) ais rk dg ⟨by rw[oV,rE],by rw[oV],by rw[oV,nd],by rw[oV,CC]⟩ λp b ah V=>by
   rw[<-V,oV];exact eR p (yb p ah)
  have au5:dg.n=n:=by rw[oV]
  have Da:dg.dP=ou:=by rw[oV]
  rw[rE]at aQ;have HL:p' bt.s:=⟨by rw[Dn];rfl,aiq⟩;have blk:∀q b,q∈ou->ku bt.s q b->q∈dg.dP/\ku (bt.s.d_.1.all n 0) q b:=λq b aq V=>by
   have AY:q∈dg.dP:=by rw[Da];exact aq
   have e:dg.blk q=B q:=by rw[oV]
   have an:=aim HL (BK.bL.vr q (yb q aq)).2.1 V (eR q (yb q aq));have:=aQ.Tz AY
   grind
  have au6:oU∈ou:=by
   have hz:oU≠ad:=λe=>by grind
   rw[<-List.count_pos_iff,ait _ hz];unfold uv;rw[if_pos rfl];omega
  obtain⟨AL,au7,TK⟩:=auY (c:=aI) (g:=aI.aT) (table:=st.cO) (top:=st.top) (C:=hJ L) (nums:=xs.map (·.val)) (t:=⟨x.s,[],[]⟩) (by rw[aK]);rw[aK]at TK;have TK:oU=pA (aI.aT,AL,au7):=TK;have TL:bN oU:=(ae.Y _ _ _ X.ok aip).1;refine .inl ⟨_,_,W,wF,qn,O',dg,OD,by rw[<-db],by rw[oV],⟨au5,by rw[oV],by show rD dg ⟨bt.s.d_.1.all aI.n 0,[],[]⟩;rw[rE];exact aQ.ain,?_,by rw[Da];exact ais,by rw[Da];exact ait,.inr ⟨by show 0<aI.aT;omega,Z_,?_⟩,⟨by show aI.aT<_;omega,TL,au0⟩,?_⟩,jK,λk a' aX r=> ?_,λk r=> ?_,bt,BK.bL,by rw[au1];exact bH,λp ah=> ?_⟩
  ·refine Z'.aik oU λq b aq T V=> ?_;rw[rE];exact blk q b (by grind) V.2
  ·have V:=blk oU _ au6 aip.2;refine⟨V.1,?_,?_,rfl⟩
   ·rw[rE];exact V.2
   ·rw[TK];rfl
  ·exact⟨by show aI.aT<_;omega,TL.h,TL.a,λi y ar=>TL.dn y (List.mem_of_getElem? ar)⟩
  ·have Jk:=Z'.x k a' aX;rw[<-Jk,out k a' aX r];exact TH.x k a' aX
  ·have Jk:=Z'.x k (aR.su k r).1 (aR.su k r).2
   grind
  grind
 ·
  obtain⟨y,ar⟩:=az (lD (ms aI) aI.aT st.cO st.top (hJ L) (xs.map (·.val)) ⟨x.s,[],[]⟩);rw[ar]at wH;have OD:rz aI x st L xs=(⟨sp aI.n y.1,x.cy⟩,st,y.2.2):=by
   unfold rz;rw[if_neg M];simp only[ar];rw[if_pos wH.ne]
  refine .inr ⟨_,_,y.1,OD,wH.ne,rfl,by rw[rE],wH.bL,ZZ wH.bL,?_,by have:=wH.bX;simpa[ms,fU]using this⟩;rcases wH.A_ with⟨e,k⟩|⟨e,a',aX⟩
  ·grind
  grind
end
end Go.Proofs.YtoohkhcpboldjaaGreatDoor
