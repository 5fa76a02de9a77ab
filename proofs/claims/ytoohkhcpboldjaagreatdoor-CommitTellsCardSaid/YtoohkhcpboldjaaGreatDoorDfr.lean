/- A function that defers onW call, and a call that is deferred. They speak of no program. No condition. -/
import Derived.Test.YtoohkhcpboldjaaGreatDoorSoA
import Derived.RangeFuncNested
import Derived.Test.YtoohkhcpboldjaaGreatDoorChecked
set_option linter.unusedSimpArgs false
set_option linter.unusedVariables false
namespace Go.Kin
open Go Go.RowKit
def lK(B:Nat)(Y bG:M):Prop:=∃fS,Y.grownBy bG fS/\∀V,fS=some V->B<=V/\∃o:Obj,Y.1[V]? =some o/\o.isCells=false
theorem lK.ch{B:Nat}{Y bG:M}(h:lK B Y bG):H (λk=>B<=k) Y bG:=by
 obtain⟨fS,aH,ax⟩:=h;exact(H.yQ aH).mono λj _ e=>(ax j e).1
theorem lK.blk{B:Nat}{Y bG:M}(h:lK B Y bG){g:Nat}{cs:Array N}{bv:TypeId}{fr:Nat×Nat}(ab:Y.1[g]? =some (.cells cs bv fr)):bG.1[g]? =some (.cells cs bv fr):=by
 obtain⟨fS,aH,ax⟩:=h;refine(aH.block g (lt_of_block ab) λe=> ?_).trans ab;obtain⟨_,o,av,Z⟩:=ax g e.symm;rw[ab]at av
 cases av
 cases Z
theorem lK.xN{S:Nat->Prop}{B:Nat}{w Y bG:M}(h:lK B Y bG)(Z:H S w Y)(gY:w.1.size<=B):H S w bG:=
 Z.bZ h.ch λj I e=>absurd e (by omega)
theorem ze{w:M}{D k:Nat}{o:Obj}(h:k≠D):(w.putObj D o).1[k]? =w.1[k]? :=World.putObj_heap_other h
theorem H.putObj{S:Nat->Prop}{w w':M}(h:H S w w'){D:Nat}(dX:S D\/w.1.size<=D)(o:Obj):H S w (w'.putObj D o):=
 h.bZ (H.yQ (grownBy_putObj' w' D o)) λj I e=>by
  cases e
  exact dX.resolve_right (by omega)
def al1(S:Nat->Prop)(n0:Nat)(Y bG:M):Prop:=H (λk=>S k\/n0<=k) Y bG
structure Md(P:Program)(gf:FuncId)(lb:List N)(k:Nat)(enc:Nat->List N)(seq:List Nat)(S:Nat->Prop)(w:M):Prop where
 size:∀x,(enc x).length=k
 Yp:∀args w,(callFunc gf args).run P w=.ok (.enter gf args) w
 run:∀(l:Nat) (cQ tw:List Nat->M->Prop) (Y:M),H al w Y->(∀pre W1 gk,cQ pre W1->H al W1 gk->cQ pre gk)->(∀pre W1 gk,tw pre W1->H al W1 gk->tw pre gk)->
  (∀pre x W1,cQ pre W1->pre.length<seq.length->adS P l (enc x).toArray W1 λv bG=>(v=.bool true/\cQ (pre++[x]) bG/\al1 S w.1.size W1 bG)\/(v=.bool false/\tw (pre++[x]) bG))->
  cQ [] Y->bc P gf (.func (.yield l) #[] #[]::lb).toArray Y λ_ bG=>cQ seq bG\/∃k,k<=seq.length/\tw (seq.take k) bG
theorem al2{P:Program}{m l:Nat}{args:Array N}{Y:M}{R:Ending->M->Prop}(h:YieldAt Fence.wide m P l args Y R):YieldAt Fence.wide 0 P l args Y R:=by
 obtain⟨fn,tmps,a,b,J,T⟩:=h;exact⟨fn,tmps,a,b,J,T.1,λc cs _=>T.2 c cs (room_wide _)⟩
theorem Md.Yq{P:Program}{gf:FuncId}{lb:List N}{k:Nat}{enc:Nat->List N}{seq:List Nat}{S:Nat->Prop}{w:M}(h:Md P gf lb k enc seq S w)(m:Nat):
  SeqStopsK Fence.wide m P gf lb.toArray (λx=>(enc x).toArray) (al1 S w.1.size) (λxs=>xs=seq) (λpre=>∃k,k<=seq.length/\pre=seq.take k) seq.length w:=by
 intro l cQ tw Y fX bJ Jg jm bi;have aH:∀W1 gk,H al W1 gk->W1.grownBy gk none:=λW1 gk Z=>⟨Z.os,Z.tape,Z.output,Z.size,λk r _=>Z.block k r id⟩;have bM:H al w Y:=⟨fX.os,fX.tape,fX.output,fX.size,λk r _=>fX.block k r⟩;have:=h.run l cQ tw Y bM (λpre W1 gk I Z=>bJ pre W1 gk none I (aH _ _ Z) λV e=>by cases e) (λpre W1 gk I Z=>Jg pre W1 gk none I (aH _ _ Z) λV e=>by cases e) (λpre x W1 I ak=> ?_) bi
 ·rw[show#[Value.func (.yield l) #[] #[]]++lb.toArray=(.func (.yield l) #[] #[]::lb).toArray by simp];refine callsIn_wide.2 (Calls.mono this.calls ?_)
  grind
 ·obtain⟨fn,tmps,a,b,J,T⟩:=al2 (jm pre x W1 I ak);refine⟨fn,tmps,a,b,J,RoundIn.mono T ?_⟩
  grind
def zf(f:Nat->N):List Tmp->List N->(Nat->N)
 |p::ps,v::cB=>zf (hW f (some p) v) ps cB
 |_,_=>f
@[simp] theorem aQC(f:Nat->N)(cB:List N):zf f [] cB=f:=by unfold zf;rfl
@[simp] theorem aym(f:Nat->N)(p:Tmp)(ps:List Tmp)(v:N)(cB:List N):zf f (p::ps) (v::cB)=zf (hW f (some p) v) ps cB:=rfl
theorem Yr(n:Nat):∀(ps:List Tmp) (cB:List N) (f:Nat->N),(ps.zip cB).foldl (λt (p,v)=>t.setIfInBounds p v) (lL n f)=lL n (zf f ps cB)
 |[],_,f=>by simp
 |p::ps,[],f=>by simp[zf]
 |p::ps,v::cB,f=>by
  rw[List.zip_cons_cons,yO,aym,<-Yr n ps cB];simp only[al3]
def tt(S:Nat->Prop)(Y:M)(bq:M->Prop)(hy:Code->M->Prop):hM
 |.normal,_,_,bG=>H S Y bG/\bq bG
 |.ret,_,_,bG=>H S Y bG/\hy .ret bG
 |.exit id,_,_,bG=>H S Y bG/\hy (.exit id) bG
 |_,_,_,_=>False
section
variable (S:Nat->Prop)(Y:M)(bq:M->Prop)(hy:Code->M->Prop)(ms:List Nat)(f:Nat->N)(bG:M)
@[simp] theorem aQD:tt S Y bq hy .normal ms f bG=(H S Y bG/\bq bG):=rfl
@[simp] theorem aQE:tt S Y bq hy .ret ms f bG=(H S Y bG/\hy .ret bG):=rfl
@[simp] theorem aQF(id:Nat):tt S Y bq hy (.exit id) ms f bG=(H S Y bG/\hy (.exit id) bG):=rfl
end
theorem Ph{S:Nat->Prop}{B:Nat}{Y bG:M}(h:H S Y bG)(cl:∀k,S k->k<B):KeepsFrom B Y bG:=
 ⟨h.size,λk o gY r _=>h.obj r λe=>by have:=cl k e;omega⟩
theorem Ys{P:Program}{n:Nat}{Q:hM}{g:Operand}{ps:List Tmp}{assign body:Code}{ms:List Nat}{f:Nat->N}{w w0:M}{gf:FuncId}{lb:List N}{k:Nat}{enc:Nat->List N}{seq:List Nat}{S:Nat->Prop}
  (rH:Md P gf lb k enc seq S w0)(bM:H al w0 w)(aH:hh n f g=.func (.func gf) #[] lb.toArray)(r:ps.length=k)(Cs:(mX assign&&mX body)=true)(cl:∀k,S k->k<w.1.size)
  (bq:List Nat->M->Prop)(hy:Code->List Nat->M->Prop)(ur:Nat->(Nat->N)->M->Prop)
  (bW:∀pre Y bG,bq pre Y->lK w.1.size Y bG->bq pre bG)(GE:∀c pre Y bG,hy c pre Y->lK w.1.size Y bG->hy c pre bG)(SP:∀x f Y bG,ur x f Y->lK w.1.size Y bG->ur x f bG)(bi:bq [] w)
  (SQ:∀pre x Y,bq pre Y->eu P n (j' (ki [] λf' bG=>H al Y bG/\bq pre bG/\ur x f' bG) λ_ _ _ _=>False) assign [] (zf f ps (enc x)) Y)
  (SR:∀pre x f' Y,bq pre Y->ur x f' Y->eu P n (tt S Y (bq (pre++[x])) λc=>hy c (pre++[x])) body [] f' Y)
  (SU:∀D Y,w.1.size<=D->bq seq Y->Y.1[D]? =some (.deferred (some []))->Q .normal (D::ms) f Y)
  (SV:∀D c k Y,w.1.size<=D->k<=seq.length->hy c (seq.take k) Y->Y.1[D]? =some (.deferred (some []))->eu P n Q c (D::ms) f Y):
  GF P n Q (.rangeFunc g ps.toArray assign body) ms f w:=by
 unfold GF;intro cx ax;simp only[ot]at Cs;have hn:cx.a'=Fence.wide:=by
  obtain⟨V,m,d⟩:=cx
  cases V with
  |none=>rfl
  |some V=>cases ax
 rw[hn];have qV:=bM.size;have key:(Code.rangeFunc g ps.toArray assign body).wpIn Fence.wide 3 P (xO cx n Q) (gS cx n ms f) w:=by
  refine wpIn_rangeFunc_ownH rfl (by omega) (by rw[Me];exact aH) trivial rH.Yp (rH.Yq 2) (λJ T=>H.trans J T)
   (λY l o gg ak _ _ _=>H.mono (H.yQ (grownBy_putObj' Y l gg)) λj _ e=>.inr (by cases e;omega)) bM.below (λx=>by simp[rH.size,r]) bq hy
   (λpre Y bG fS J T ag=>bW pre Y bG J ⟨fS,T,ag⟩) (λc pre Y bG fS J T ag=>GE c pre Y bG J ⟨fS,T,ag⟩) bi
   (λx jv Y=>∃f',jv=⟨lL n f',[]⟩/\ur x f' Y) (λx jv _ Y bG fS J T ag=>by obtain⟨f',e,J⟩:=J;exact⟨f',e,SP x f' Y bG J ⟨fS,T,ag⟩⟩) ?_ ?_ ?_ ?_
  ·intro l pre x Y K J T;have:=eu.lM (cx:=⟨some l,1,[]⟩) _ _ _ _ _ (.inr Cs.1) (SQ pre x Y J);have aL:((ps.toArray.zip (enc x).toArray).foldl (λt (p,v)=>t.setIfInBounds p v) (gS cx n ms f).tmps)=lL n (zf f ps (enc x)):=by
    rw[acM,acN];exact Yr n ps (enc x) f
   rw[aL];refine wpIn_mono this ?_;rintro e a w' ⟨zg,f',rfl,au⟩;unfold j' at au
   cases e with
   |normal=>
    unfold ki at au;obtain⟨rfl,ag,aP,bH⟩:=au;exact T _ _ (Ph ag λk r=>r.elim) (ag.mono λj _ e=>e.elim) aP ⟨f',rfl,bH⟩
   |_=>exact au
  ·rintro l pre x jv Y ak _ J ⟨f',rfl,T⟩ aO;refine wpIn_mono (eu.lM (cx:=⟨some l,1,[]⟩) _ _ _ _ _ (.inr Cs.2) (SR pre x f' Y J T)) ?_;rintro e a w' ⟨zg,vs,rfl,au⟩
   cases e with
   |normal=>exact⟨Ph au.1 cl,au.1.mono λj _ e=>.inl e,au.2⟩
   |ret=>exact⟨Ph au.1 cl,au.2⟩
   |exit id=>exact⟨Ph au.1 cl,au.2⟩
   |_=>exact au.elim
  ·rintro D xs Y dX rfl J T;exact⟨D::ms,f,rfl,SU D Y dX J T⟩
  ·rintro D c pre Y dX ⟨k,r,rfl⟩ J T;exact eu.lM (cx:=⟨none,3,cx.d⟩) c Q (D::ms) f Y (.inl rfl) (SV D c k Y dX r J T)
 exact λb k cs J T _=>key b k cs J T (room_wide _)
end Go.Kin
namespace Go.Proofs.YtoohkhcpboldjaaGreatDoor
open Go.RowKit Go.Kin Tryz
structure Pt where
 k:Nat
 l:Nat
 o:Nat
 f:Nat
 b:Nat
 h:List UInt8
 a:List Nat
deriving DecidableEq
def ae(p:Pt):Array N:=(.int .u8 p.k::.int .u8 p.l::.int .u16 p.o::.int .u32 p.f::.int .u64 p.b::(br p.h++hg p.a)).toArray
structure cc(p:Pt):Prop where
 k:p.k<256
 l:p.l<256
 o:p.o<65536
 f:p.f<4294967296
 b:p.b<18446744073709551616
 h:p.h.length=32
 a:p.a.length=4
 dI:∀x∈p.a,x<65536
section
variable {p:Pt}
theorem cd(ok:cc p):(ae p).size=41:=by simp[ae,eO,DS,ok.h,ok.a]
theorem wc(p:Pt):jx (ae p)=true:=yJ (by
 intro u ap;simp only[io,hP]at ap;rcases ap with rfl|rfl|rfl|rfl|rfl|ap|ap
 ·rfl
 ·rfl
 ·rfl
 ·rfl
 ·rfl
 ·exact AB _ u ap
 ·exact acD _ u ap)
theorem ef(ok:cc p):(ae p).extract 0 41=ae p:=by rw[<-cd ok];simp
theorem FW:(ae p)[0]? =some (.int .u8 p.k):=by simp[ae]
theorem Iu:(ae p)[1]? =some (.int .u8 p.l):=by simp[ae]
theorem acr:(ae p)[2]? =some (.int .u16 p.o):=by simp[ae]
theorem akS:(ae p)[3]? =some (.int .u32 p.f):=by simp[ae]
theorem WY:(ae p)[4]? =some (.int .u64 p.b):=by simp[ae]
theorem mS(ok:cc p){i x:Nat}(h:p.a[i]? =some x):(ae p)[37+i]? =some (.int .u16 x):=by
 simp only[ae,yL];rw[show 37+i=(32+i)+1+1+1+1+1 by omega];simp only[List.getElem?_cons_succ];rw[DV (by rw[eO,ok.h];omega),eO,ok.h,show 32+i - 32=i by omega,hg,oo,h];rfl
theorem a4(ok:cc p):∃a0 a1 a2 a3,p.a=[a0,a1,a2,a3]/\a0<65536/\a1<65536/\a2<65536/\a3<65536:=by
 have h:=ok.a;have W:=ok.dI
 match ao:p.a,h with
 |[a0,a1,a2,a3],_=>
  rw[ao]at W;exact⟨a0,a1,a2,a3,rfl,W _ (by simp),W _ (by simp),W _ (by simp),W _ (by simp)⟩
end
def eA(a:List Nat)(k:Nat):List Nat:=(List.range k).filter λi=>a.getD i 0 !=0
def vt(a:List Nat)(i:Nat):List N:=[aa ((i:Int) / 2),.int .u16 (a.getD i 0)]
theorem GG(a:List Nat)(k:Nat):eA a (k+1)=if a.getD k 0=0 then eA a k else eA a k++[k]:=by
 unfold eA;rw[IH,acO]
 grind
theorem Yt(a:List Nat){k:Nat}(h:k<=4):∃m,m<=(eA a 4).length/\eA a k=(eA a 4).take m:=by
 have key:∀j,eA a k<+:eA a (k+j):=λj=>by
  induction j with
  |zero=>exact List.prefix_refl _
  |succ j bL=>
   rw[<-yH,GG]
   grind
 have:=key (4 - k);rw[show k+(4 - k)=4 by omega]at this;exact⟨_,this.length_le,(List.prefix_iff_eq_take.1 this)⟩
theorem ayn(p:Pt)(g:Nat)(bv:TypeId)(fr:Nat×Nat)(S:Nat->Prop)(w:M)(ok:cc p)(ab:w.1[g]? =some (.cells (ae p) bv fr)):
  Md prog 119 [az g] 2 (vt p.a) (eA p.a 4) S w:=by
 refine⟨λx=>rfl,λargs w=>by simp[go_sem],?_⟩;intro l cQ tw Y fX bJ Jg jm bi;obtain⟨a0,a1,a2,a3,ao,_⟩:=a4 ok;have Ct:=fX.obj ab id;have gs:=(aG Ct 37).trans (mS ok (i:=0) (x:=a0) (by rw[ao];rfl));have aY:=(aG Ct 38).trans (mS ok (i:=1) (x:=a1) (by rw[ao];rfl));have aK:=(aG Ct 39).trans (mS ok (i:=2) (x:=a2) (by rw[ao];rfl));have aI:=(aG Ct 40).trans (mS ok (i:=3) (x:=a3) (by rw[ao];rfl));refine bz func119 ntmps119 λbk af=> ?_;simp[go_sem,gs,aY,aK,aI];refine di (λV f bI=>∃k,k<=4/\V=4 - k/\f 0=.func (.yield l) #[] #[]/\f 6=.agg #[.int .u16 a0,.int .u16 a1,.int .u16 a2,.int .u16 a3]/\f 7=aa k/\cQ (eA p.a k) bI) 4
  ⟨0,by omega,rfl,by simp,by simp,by simp,bi⟩ ?_
 rintro bq bW _ f bI ⟨k,r,rfl,dk,je,hX,I⟩;by_cases gq:k<4
 ·have eo:(k:Int)<4:=by omega
  have mR:∃x,p.a.getD k 0=x/\#[Value.int .u16 a0,Value.int .u16 a1,Value.int .u16 a2,Value.int .u16 a3][k]? =some (.int .u16 x):=by
   refine⟨_,rfl,?_⟩;rw[ao]
   grind
  obtain⟨x,W,Cu⟩:=mR;have pB:=λw=>IF (P:=prog) (kd:=.i64) underlying42 Tryz.sizeOf39 Tryz.isAgg39 gq Cu w;have ej:IntKind.i64.wrap ((k:Int)+1)=((k+1:Nat):Int):=by simp[cz];omega
  have vu:IntKind.i64.wrap ((k:Int) / 2)=(k:Int) / 2:=by simp[cz];omega
  by_cases jJ:x=0
  ·subst jJ;simp[go_sem,dk,je,hX,eo,pB,ej];refine ct.intro (4 -(k+1)) (by omega) (bW _ _ _ ⟨k+1,by omega,rfl,by simp[dk],by simp[je],by simp,?_⟩);rw[GG,W,be rfl];exact I
  ·have lr:((x:Int)==0)=false:=by simp;omega
   simp[go_sem,dk,je,hX,eo,pB,ej,vu,bne,lr];have cu:(eA p.a k).length<(eA p.a 4).length:=by
    obtain⟨m,aC,aV⟩:=Yt p.a (k:=k+1) (by omega);have J:=yN List.length aV;rw[GG,W,aQ jJ,kR,ol]at J;simp at J;omega
   have ar:=jm (eA p.a k) k bI I cu;simp only[vt,W]at ar;refine SX _ _ _ ar ?_;rintro _ w' (⟨rfl,kT,_⟩|⟨rfl,Ey⟩)
   ·simp[go_sem,hX,ej];refine ct.intro (4 -(k+1)) (by omega) (bW _ _ _ ⟨k+1,by omega,rfl,by simp[dk],by simp[je],by simp,?_⟩);rw[GG,W,aQ jJ];exact kT
   ·simp[go_sem];refine af _ _ (.inr ?_);obtain⟨m,aC,aV⟩:=Yt p.a (k:=k+1) (by omega);refine⟨m,aC,?_⟩;rw[<-aV,GG,W,aQ jJ];exact Ey
 ·obtain rfl:k=4:=by omega
  simp[go_sem,hX];exact af _ _ (.inl I)
theorem ayo{p:Pt}(ok:cc p)(h:eA p.a 4=[]):∀x∈p.a,¬(x !=0)=true:=by
 intro x W;obtain⟨i,ad,rfl⟩:=List.mem_iff_getElem.1 W;have SY:i<4:=by have:=ok.a;omega
 unfold eA at h;rw[List.filter_eq_nil_iff]at h;have:=h i (wl.2 SY)
 grind
theorem ayp{p:Pt}(ok:cc p)(h:eA p.a 4≠[]):∃x∈p.a,(x !=0)=true:=by
 obtain⟨i,ad⟩:=List.exists_mem_of_ne_nil _ h;unfold eA at ad;rw[vh,wl]at ad;have SY:i<p.a.length:=by have:=ok.a;omega
 refine⟨p.a[i],wj _,?_⟩
 grind
theorem SZ(p:Pt)(w:M):bc prog 68 #[.agg (ae p)] w λv' w'=>v'=.func (.func 119) #[] #[.pointer (some ⟨w.1.size,0,none⟩)]/\w'=w.alloc (.cells (ae p) 44):=by
 refine bz func68 ntmps68 λbk af=> ?_;simp[go_sem];exact af _ _ ⟨rfl,rfl⟩
theorem ayq(p:Pt)(w:M)(ok:cc p):bc prog 132 #[.agg (ae p)] w λv' w'=>v'=.bool (p.a.any (·!=0))/\H al w w':=by
 refine bz func132 ntmps132 λbk af=> ?_;simp[go_sem,cd ok,ef ok];have Z:=((H.refl al w).alloc (.cells (ae p) 44)).alloc (.cells #[.bool false] 4);have dm:=nM w (.cells (ae p) 44) (.cells #[.bool false] 4);revert Z dm;generalize(w.alloc (.cells (ae p) 44)).alloc (.cells #[.bool false] 4)=ai;intro Z dm;refine(SZ p ai).mono ?_;rintro _ an ⟨rfl,rfl⟩;simp[go_sem];have ab:=cr ai (.cells (ae p) 44);have fR:=(H.refl al ai).alloc (.cells (ae p) 44);have dm:=fR.obj dm id;have Z:=Z.trans fR;have aO:=lt_of_block dm;revert ab dm Z aO;generalize ai.alloc (.cells (ae p) 44)=an;generalize ai.1.size=g;intro ab dm Z aO;generalize fD:w.1.size+1=G;rw[fD]at dm aO;refine Ys (ayn p g _ _ (aj G) an ok ab) (H.refl _ _) rfl rfl (by kernel_rfl) (λk r=>by cases r;exact aO)
  (λpre Y=>pre=[]/\Y.1[G]? =some (.cells #[.bool false] 4 (0,0))/\H al w Y) (λc pre Y=>c=.ret/\pre≠[]/\Y.1[G]? =some (.cells #[.bool true] 4 (0,0))/\H al w Y) (λ_ f' _=>f' 2=az G) ?_ ?_ ?_ ?_ ?_ ?_ ?_ ?_
 ·rintro pre Y bG ⟨bi,J,T⟩ ax;exact⟨bi,ax.blk J,ax.xN T Z.size⟩
 ·rintro c pre Y bG ⟨bi,tx,J,T⟩ ax;exact⟨bi,tx,ax.blk J,ax.xN T Z.size⟩
 ·exact λ_ _ _ _ h _=>h
 ·exact⟨rfl,dm,Z⟩
 ·rintro pre x Y bW;simp[go_sem];exact⟨H.refl _ _,bW,by simp[vt]⟩
 ·rintro pre x f' Y ⟨bi,J,T⟩ bP;have eY:=λi=>aG J i;have kP:=λi=>dJ J i;simp[go_sem,bP,eY,kP];refine⟨(H.refl (aj G) Y).setCell (.inl (by simp[aj])) _,?_,?_⟩
  ·simp[J,Yu]
  ·exact T.setCell (.inr (by show w.1.size<=G;omega)) _
 ·rintro D Y dX ⟨bi,J,T⟩ bm;have dn:D≠G:=λe=>by rw[e,J]at bm;cases bm
  have eY:=λi=>aG J i;have kP:=λi=>dJ J i;have ag:((Y.setCell ⟨G,0,none⟩ (.bool false)).putObj D (.deferred none)).1[G]? =some (.cells #[.bool false] 4 (0,0)):=by
   rw[ze dn.symm];simp[J,Yu]
  have adT:=λi=>aG ag i;simp[go_sem,fD,eY,kP,adU,Ez,dn,bm,adT];refine af _ _ ⟨?_,(T.setCell (.inr (by show w.1.size<=G;omega)) _).putObj (.inr (by have:=Z.size;omega)) _⟩;congr 1;symm;rw[List.any_eq_false];exact ayo ok bi
 ·rintro D c k Y dX r ⟨rfl,bi,J,T⟩ bm;have dn:D≠G:=λe=>by rw[e,J]at bm;cases bm
  have ag:(Y.putObj D (.deferred none)).1[G]? =some (.cells #[.bool true] 4 (0,0)):=by
   rw[ze dn.symm];exact J
  have adT:=λi=>aG ag i;simp[go_sem,fD,Ez,bm,adT];refine af _ _ ⟨?_,T.putObj (.inr (by have:=Z.size;omega)) _⟩;congr 1;symm;rw[Xu];exact ayp ok λe=>bi (by rw[e];simp)
end Go.Proofs.YtoohkhcpboldjaaGreatDoor
namespace Go.Kin
open Go Go.RowKit
def mB(w w':M):Prop:=∀(k:Nat) (o:Obj),w.1[k]? =some o->o.isCells=false->w'.1[k]? =some o
theorem mB.trans{w ai an:M}(h:mB w ai)(k:mB ai an):mB w an:=λi o ad av=>k i o (h i o ad av) av
theorem mB.fZ{S:Nat->Prop}{w w':M}(Z:H S w w')(cl:∀k,S k->k<w.1.size->∃cs t fr,w.1[k]? =some (.cells cs t fr)):mB w w':=λk o r av=>by
 refine Z.obj r λe=> ?_;have aO:k<w.1.size:=by
  obtain⟨h,_⟩:=B'.1 r;exact h
 obtain⟨cs,t,fr,ab⟩:=cl k e aO;rw[ab]at r
 cases r
 cases av
theorem mB.nw{w w':M}(Z:H al w w'):mB w w':=mB.fZ Z λ_ e=>e.elim
theorem mB.drew{w w':M}(h:mB w w'):mB w w'.drew:=h
theorem mB.setCell{w w':M}(h:mB w w'){g i:Nat}{cs:Array N}{bv:TypeId}{fr:Nat×Nat}(ab:w'.1[g]? =some (.cells cs bv fr))(v:N):mB w (w'.setCell ⟨g,i,none⟩ v):=
 h.trans (mB.fZ ((H.refl (λk=>k=g) w').setCell (p:=bl g i) (.inl rfl) v) λk r _=>by grind)
theorem mB.from{w w':M}(h:mB w w')(aA:w.1.size<=w'.1.size)(B:Nat):KeepsFrom B w w':=⟨aA,λk o _ r av=>h k o r av⟩
def Yv(S:Nat->Prop)(B:Nat)(Y:M)(bq:M->Prop)(hy:Code->M->Prop):hM
 |.normal,_,_,bG=>(KeepsFrom B Y bG/\H (λk=>S k\/B<=k) Y bG)/\bq bG
 |.ret,_,_,bG=>KeepsFrom B Y bG/\hy .ret bG
 |.exit id,_,_,bG=>KeepsFrom B Y bG/\hy (.exit id) bG
 |_,_,_,_=>False
section
variable (S:Nat->Prop)(B:Nat)(Y:M)(bq:M->Prop)(hy:Code->M->Prop)(ms:List Nat)(f:Nat->N)(bG:M)
@[simp] theorem aQG:Yv S B Y bq hy .normal ms f bG=((KeepsFrom B Y bG/\H (λk=>S k\/B<=k) Y bG)/\bq bG):=rfl
@[simp] theorem aQH:Yv S B Y bq hy .ret ms f bG=(KeepsFrom B Y bG/\hy .ret bG):=rfl
@[simp] theorem aQI(id:Nat):Yv S B Y bq hy (.exit id) ms f bG=(KeepsFrom B Y bG/\hy (.exit id) bG):=rfl
end
theorem al4{P:Program}{n:Nat}{Q:hM}{g:Operand}{ps:List Tmp}{assign body:Code}{ms:List Nat}{f:Nat->N}{w w0:M}{gf:FuncId}{lb:List N}{k:Nat}{enc:Nat->List N}{seq:List Nat}{S:Nat->Prop}
  (rH:Md P gf lb k enc seq S w0)(bM:H al w0 w)(aH:hh n f g=.func (.func gf) #[] lb.toArray)(r:ps.length=k)(Cs:(mX assign&&mX body)=true)
  (bq:List Nat->M->Prop)(hy:Code->List Nat->M->Prop)(ur:Nat->(Nat->N)->M->Prop)
  (bW:∀pre Y bG,bq pre Y->lK w.1.size Y bG->bq pre bG)(GE:∀c pre Y bG,hy c pre Y->lK w.1.size Y bG->hy c pre bG)(SP:∀x f Y bG,ur x f Y->lK w.1.size Y bG->ur x f bG)(bi:bq [] w)
  (SQ:∀pre x Y,bq pre Y->eu P n (j' (ki [] λf' bG=>H al Y bG/\bq pre bG/\ur x f' bG) λ_ _ _ _=>False) assign [] (zf f ps (enc x)) Y)
  (SR:∀pre x f' Y,pre.length<seq.length->bq pre Y->ur x f' Y->eu P n (Yv S w.1.size Y (bq (pre++[x])) λc=>hy c (pre++[x])) body [] f' Y)
  (SU:∀D Y,w.1.size<=D->bq seq Y->Y.1[D]? =some (.deferred (some []))->Q .normal (D::ms) f Y)
  (SV:∀D c k Y,w.1.size<=D->k<=seq.length->hy c (seq.take k) Y->Y.1[D]? =some (.deferred (some []))->eu P n Q c (D::ms) f Y):
  GF P n Q (.rangeFunc g ps.toArray assign body) ms f w:=by
 unfold GF;intro cx ax;simp only[ot]at Cs;have hn:cx.a'=Fence.wide:=by
  obtain⟨V,m,d⟩:=cx
  cases V with
  |none=>rfl
  |some V=>cases ax
 rw[hn];have qV:=bM.size;have key:(Code.rangeFunc g ps.toArray assign body).wpIn Fence.wide 3 P (xO cx n Q) (gS cx n ms f) w:=by
  refine wpIn_rangeFunc_ownH rfl (by omega) (by rw[Me];exact aH) trivial rH.Yp (rH.Yq 2) (λJ T=>H.trans J T)
   (λY l o gg ak _ _ _=>H.mono (H.yQ (grownBy_putObj' Y l gg)) λj _ e=>.inr (by cases e;omega)) bM.below (λx=>by simp[rH.size,r]) bq hy
   (λpre Y bG fS J T ag=>bW pre Y bG J ⟨fS,T,ag⟩) (λc pre Y bG fS J T ag=>GE c pre Y bG J ⟨fS,T,ag⟩) bi
   (λx jv Y=>∃f',jv=⟨lL n f',[]⟩/\ur x f' Y) (λx jv _ Y bG fS J T ag=>by obtain⟨f',e,J⟩:=J;exact⟨f',e,SP x f' Y bG J ⟨fS,T,ag⟩⟩) ?_ ?_ ?_ ?_
  ·intro l pre x Y K J T;have:=eu.lM (cx:=⟨some l,1,[]⟩) _ _ _ _ _ (.inr Cs.1) (SQ pre x Y J);have aL:((ps.toArray.zip (enc x).toArray).foldl (λt (p,v)=>t.setIfInBounds p v) (gS cx n ms f).tmps)=lL n (zf f ps (enc x)):=by
    rw[acM,acN];exact Yr n ps (enc x) f
   rw[aL];refine wpIn_mono this ?_;rintro e a w' ⟨zg,f',rfl,au⟩;unfold j' at au
   cases e with
   |normal=>
    unfold ki at au;obtain⟨rfl,ag,aP,bH⟩:=au;exact T _ _ (Ph ag λk r=>r.elim) (ag.mono λj _ e=>e.elim) aP ⟨f',rfl,bH⟩
   |_=>exact au
  ·rintro l pre x jv Y ak _ J ⟨f',rfl,T⟩ aO;refine wpIn_mono (eu.lM (cx:=⟨some l,1,[]⟩) _ _ _ _ _ (.inr Cs.2) (SR pre x f' Y aO J T)) ?_;rintro e a w' ⟨zg,vs,rfl,au⟩
   cases e with
   |normal=>exact⟨au.1.1,au.1.2.mono λj _ e=>e.imp id λe=>by omega,au.2⟩
   |ret=>exact⟨au.1,au.2⟩
   |exit id=>exact⟨au.1,au.2⟩
   |_=>exact au.elim
  ·rintro D xs Y dX rfl J T;exact⟨D::ms,f,rfl,SU D Y dX J T⟩
  ·rintro D c pre Y dX ⟨k,r,rfl⟩ J T;exact eu.lM (cx:=⟨none,3,cx.d⟩) c Q (D::ms) f Y (.inl rfl) (SV D c k Y dX r J T)
 exact λb k cs J T _=>key b k cs J T (room_wide _)
end Go.Kin
namespace Go.Proofs.YtoohkhcpboldjaaGreatDoor
open Go.RowKit Go.Kin Tryz
structure et where
 gen:Nat
 top:Pt
 dd:Pt
def bN(x:et):Array N:=#[.int .u64 x.gen]++ae x.top++ae x.dd
structure gi(x:et):Prop where
 gen:x.gen<18446744073709551616
 top:cc x.top
 dd:cc x.dd
theorem lo{x:et}(ok:gi x):(bN x).size=83:=by simp[bN,cd ok.top,cd ok.dd]
theorem un{x:et}(ok:gi x):(bN x).extract 0 83=bN x:=by rw[<-lo ok];simp
theorem S_{x:et}(ok:gi x):(bN x).extract 42 83=ae x.dd:=by
 have J:(#[Value.int .u64 (x.gen:Int)]++ae x.top).size=42:=by simp[cd ok.top]
 unfold bN;rw[Array.extract_append,J];have T:=cd ok.dd;have ag:(#[Value.int .u64 (x.gen:Int)]++ae x.top).extract 42 83=#[]:=Array.extract_eq_empty_of_le (by rw[J];omega);rw[ag]
 simp_all
theorem mW(x:et):jx (bN x)=true:=by
 unfold bN;refine yJ (l:=(#[Value.int .u64 x.gen]++ae x.top++ae x.dd).toList) λu ap=> ?_;simp only[Array.toList_append,hP]at ap;have aC:∀{a:Array N},jx a=true->∀u∈a.toList,u.oneCell'=true:=λh u ap=>by
  unfold jx at h;exact AD.1 h u (by simpa using ap)
 rcases ap with(ap|ap)|ap
 ·simp at ap;rw[ap];rfl
 ·exact aC (wc _) u ap
 ·exact aC (wc _) u ap
end Go.Proofs.YtoohkhcpboldjaaGreatDoor
namespace Go.Kin
open Go Go.RowKit
def EA(o:Oper):Bool:=match o.op with
 |.defer _=>true
 |_=>false
def wz(P:Program)(aX:Array Oper)(n:Nat)(Q:Deferred->(Nat->N)->M->Prop):List Oper->(Nat->N)->M->Prop
 |[],_,_=>False
 |o::cP,f,w=>match o.op with
  |.defer c=>o.guard=none/\∃d,(resolve (hh n f) c o.type).run P w=.ok d w/\iz P aX n (Q d) cP (hW f o.dst undef) w
  |_=>o.guard=none/\ed P (hh n f) o w (λv w'=>wz P aX n Q cP (hW f o.dst v) w')
theorem wz.lM{P:Program}{aX:Array Oper}{cx:nN}{n:Nat}(ax:cx.V=none){Q:Exit->Act->M->Prop}{lN:Deferred->(Nat->N)->M->Prop}(au:∀d f w,lN d f w->Q .normal (gS {cx with d:=d::cx.d} n [] f) w):
  ∀(l:List Oper) (f:Nat->N) (w:M),wz P aX n lN l f w->wpListIn cx.a' cx.m P aX Q l (gS cx n [] f) w
 |[],f,w,h=>h.elim
 |o::cP,f,w,h=>by
  refine wpListIn_step λK fW=> ?_;have bM:o.guard=none->Region.wanted o (yielded aX (gS cx n [] f).tmps)=true:=λaH=>by simp[Region.wanted,aH]
  by_cases bm:∃c,o.op=.defer c
  ·obtain⟨c,Z⟩:=bm;have h':o.guard=none/\∃d,(resolve (hh n f) c o.type).run P w=.ok d w/\iz P aX n (lN d) cP (hW f o.dst undef) w:=by
    unfold wz at h;rw[Z]at h;exact h
   obtain⟨aH,d,J,T⟩:=h';rw[be (bM aH)];refine⟨λg _=>cx.fn g,?_⟩;have ayr:cx.a'.round=none:=by
    obtain⟨V,m,d⟩:=cx
    cases ax
    rfl
   have aV:(Oper.semAt cx.a'.round (gS cx n [] f).eval o).run P w=.ok (.defer d) w:=by
    rw[ayr,Oper.semAt_none,Me];obtain⟨dst,op,bV,pos,eW,g⟩:=o;simp only at Z J;subst Z;show(do pure (Next.defer (<-resolve (hh n f) c bV)):Sem Next).run P w=_;simp only[Sem.run_bind,Sem.run_pure,J,Result.andThen_ok]
   rw[aV,Oper.uponIn_defer];have e:({gS cx n [] f with defers:=d::(gS cx n [] f).defers}:Act).put o.dst undef=gS {cx with d:=d::cx.d} n [] (hW f o.dst undef):=by
    rw[<-Mf];rfl
   rw[e];exact fW _ _ (iz.lM (cx:={cx with d:=d::cx.d}) (ms:=[]) (λf w h=>au d f w h) cP _ _ T)
  ·have h':o.guard=none/\ed P (hh n f) o w (λv w'=>wz P aX n lN cP (hW f o.dst v) w'):=by
    unfold wz at h;revert h
    cases av:o.op with
    |defer c=>exact absurd ⟨c,av⟩ bm
    |_=>exact λh=>h
   rw[be (bM h'.1)];exact h'.2.lM λv w' aM=>fW _ _ (wz.lM ax au cP _ _ aM)
def al5(P:Program)(aX:Array Oper)(n:Nat)(Q:Deferred->(Nat->N)->M->Prop)(cP:List Oper)(f:Nat->N)(d:Option Tmp)(v:N)(w:M):Prop:=wz P aX n Q cP (hW f d v) w
@[simp] theorem aQJ(P:Program)(aX:Array Oper)(n:Nat)(Q:Deferred->(Nat->N)->M->Prop)(cP:List Oper)(f:Nat->N)(d:Option Tmp)(v:N)(w:M):al5 P aX n Q cP f d v w=wz P aX n Q cP (hW f d v) w:=f_ rfl
@[simp] theorem aQK(P:Program)(aX:Array Oper)(n:Nat)(Q:Deferred->(Nat->N)->M->Prop)(d:Option Tmp)(Jh:Array Operand)(cs:Array Operand)(bV:TypeId)(pos:String)(eW:Array Edge)(x:Fn)(cP:List Oper)(f:Nat->N)(w:M):
  wz P aX n Q (⟨d,.makeFunc x Jh cs,bV,pos,eW,none⟩::cP) f w=ed P (hh n f) ⟨d,.makeFunc x Jh cs,bV,pos,eW,none⟩ w (al5 P aX n Q cP f d):=propext ⟨λh=>h.2,λh=>⟨rfl,h⟩⟩
theorem ays(P:Program)(aX:Array Oper)(n:Nat)(Q:Deferred->(Nat->N)->M->Prop)(d:Option Tmp)(c:Call)(bV:TypeId)(pos:String)(eW:Array Edge)(cP:List Oper)(f:Nat->N)(w:M)(e:Deferred)
  (h:(resolve (hh n f) c bV).run P w=.ok e w)(r:iz P aX n (Q e) cP (hW f d undef) w):wz P aX n Q (⟨d,.defer c,bV,pos,eW,none⟩::cP) f w:=⟨rfl,e,h,r⟩
def cn:Code->Bool
 |.region _ aX false=> !aX.toList.any EA
 |_=>true
def ayt(P:Program)(n:Nat)(K:Deferred->hM):Code->(Nat->N)->M->Prop
 |.region _ aX false,f,w=>wz P aX n (λd=>K d .normal []) aX.toList f w
 |_,_,_=>False
def wA(P:Program)(n:Nat)(Q:hM)(mY:Deferred->hM):Code->ut
 |.seq a b,ms,f,w=>(cn a=true/\eu P n (j' (wA P n Q mY b) Q) a ms f w)\/(cn a=false/\ms=[]/\ayt P n (λd=>j' (eu P n (mY d) b) (mY d)) a f w)
 |c,ms,f,w=>eu P n Q c ms f w
def ql:nN:=⟨none,0,[]⟩
def Yw(n:Nat)(Q:hM)(mY:Deferred->hM):Exit->Act->M->Prop:=λe a w=>xO ql n Q e a w\/∃d,xO ⟨none,0,[d]⟩ n (mY d) e a w
theorem wA.lM{P:Program}{n:Nat}{Q:hM}{mY:Deferred->hM}:∀(c:Code) (ms:List Nat) (f:Nat->N) (w:M),wA P n Q mY c ms f w->c.wpIn Fence.wide 0 P (Yw n Q mY) (gS ql n ms f) w:=by
 intro c;have adV:∀(c:Code) (ms:List Nat) (f:Nat->N) (w:M),eu P n Q c ms f w->c.wpIn Fence.wide 0 P (Yw n Q mY) (gS ql n ms f) w:=λc ms f w h=>
  wpIn_mono (eu.lM (cx:=ql) c Q ms f w (.inl rfl) h) λe a w h=>.inl h
 induction c with
 |seq a b Ji GH=>
  intro ms f w h;unfold wA at h;rcases h with⟨_,h⟩|⟨_,rfl,h⟩
  ·refine wpIn_seq (wpIn_mono (eu.lM (cx:=ql) a _ ms f w (.inl rfl) h) ?_);intro e a w ap;have J:=Ta (cx:=ql) (K':=λa w=>b.wpIn Fence.wide 0 P (Yw n Q mY) a w) (λms f w h=>GH ms f w h) e a w ap
   cases e with
   |normal=>exact J
   |_=>exact .inl J
  ·cases a with
   |region id aX d=>
    cases d with
    |true=>exact h.elim
    |false=>
     have aM:wz P aX n (λd=>j' (eu P n (mY d) b) (mY d) .normal []) aX.toList f w:=h;have aA:=wz.lM (cx:=ql) rfl (Q:=λe a w=>∃d,xO ⟨none,0,[d]⟩ n (j' (eu P n (mY d) b) (mY d)) e a w) (λd f w au=>⟨d,[],f,rfl,au⟩) aX.toList f w aM;refine wpIn_seq (wpIn_mono (wpIn_region_list aA) ?_);rintro e a w ⟨d,ap⟩;have J:=Ta (cx:=⟨none,0,[d]⟩) (K':=λa w=>b.wpIn Fence.wide 0 P (Yw n Q mY) a w) (λms f w h=>wpIn_mono (eu.lM (cx:=⟨none,0,[d]⟩) b _ ms f w (.inl rfl) h) λe a w h=>.inr ⟨d,h⟩) e a w ap
     cases e with
     |normal=>exact J
     |_=>exact .inr ⟨d,J⟩
   |_=>exact h.elim
 |_=>exact λms f w h=>adV _ ms f w h
section
variable (P:Program)(n:Nat)(Q:hM)(mY:Deferred->hM)(ms:List Nat)(f:Nat->N)(w:M)
@[simp] theorem aQL(id:Nat)(l:List Oper)(b:Code)(h:l.any EA=false):wA P n Q mY (.seq (.region id l.toArray false) b) ms f w=eu P n (j' (wA P n Q mY b) Q) (.region id l.toArray false) ms f w:=by
 have e:cn (.region id l.toArray false)=true:=by show(!l.any EA)=true;rw[h];rfl
 refine propext ⟨λh=> ?_,λh=>.inl ⟨e,h⟩⟩;rcases h with⟨_,h⟩|⟨h,_⟩
 ·exact h
 ·rw[e]at h;cases h
@[simp] theorem aQM(id:Nat)(aX:Array Oper)(b:Code):wA P n Q mY (.seq (.region id aX true) b) ms f w=eu P n (j' (wA P n Q mY b) Q) (.region id aX true) ms f w:=
 propext ⟨λh=>Or.elim h (λh=>h.2) (λh=>absurd h.1 (by simp[cn])),λh=>Or.inl ⟨rfl,h⟩⟩
@[simp] theorem aQN(o:Operand)(x y b:Code):wA P n Q mY (.seq (.cond o x y) b) ms f w=eu P n (j' (wA P n Q mY b) Q) (.cond o x y) ms f w:=
 propext ⟨λh=>Or.elim h (λh=>h.2) (λh=>absurd h.1 (by simp[cn])),λh=>Or.inl ⟨rfl,h⟩⟩
@[simp] theorem aQO(x y b:Code):wA P n Q mY (.seq (.seq x y) b) ms f w=eu P n (j' (wA P n Q mY b) Q) (.seq x y) ms f w:=
 propext ⟨λh=>Or.elim h (λh=>h.2) (λh=>absurd h.1 (by simp[cn])),λh=>Or.inl ⟨rfl,h⟩⟩
theorem ayu(id:Nat)(l:List Oper)(b:Code)(h:l.any EA=true):wA P n Q mY (.seq (.region id l.toArray false) b) [] f w=wz P l.toArray n (λd=>j' (eu P n (mY d) b) (mY d) .normal []) l f w:=by
 have e:cn (.region id l.toArray false)=false:=by show(!l.any EA)=false;rw[h];rfl
 refine propext ⟨λh=> ?_,λh=>.inr ⟨e,rfl,h⟩⟩;rcases h with⟨h,_⟩|⟨_,_,h⟩
 ·rw[e]at h;cases h
 ·exact h
end
def GI(P:Program)(d:Deferred)(w:M)(K:M->Prop):Prop:=∃GJ cap f args,d.target=.fn GJ cap/\(invoke d.target d.args).run P w=.ok (.enter f args) w/\CallsDIn Fence.wide 0 P f args .returning w λe cq w'=>cq=.returning/\∃v,e=.returned v/\K w'
def Tb(P:Program)(n:Nat)(fn:Func)(R:N->M->Prop)(d:Deferred):hM
 |.ret,ms,f,w=>wB ms w λw=>GI P d w λw=>kA P n fn.results f w R
 |.normal,ms,f,w=>wB ms w λw=>GI P d w λw=>kA P n fn.results f w R
 |_,_,_,_=>False
@[simp] theorem aQP(P:Program)(n:Nat)(fn:Func)(R:N->M->Prop)(d:Deferred)(f:Nat->N)(w:M):Tb P n fn R d .ret [] f w=GI P d w λw=>kA P n fn.results f w R:=by
 unfold Tb;exact Tc _ _
@[simp] theorem aQQ(P:Program)(n:Nat)(fn:Func)(R:N->M->Prop)(d:Deferred)(f:Nat->N)(w:M):Tb P n fn R d .normal [] f w=GI P d w λw=>kA P n fn.results f w R:=by
 unfold Tb;exact Tc _ _
theorem adW{P:Program}{n:Nat}{fn:Func}{f:Nat->N}{R:N->M->Prop}{d:Deferred}:∀(ms:List Nat) (w:M),wB ms w (λw=>GI P d w λw=>kA P n fn.results f w R)->LeavesInM Fence.wide 0 P fn (lL n f) (λe w'=>∃v,e=.returned v/\R v w') (EB ms++[d]) .returning w
 |[],w,h=>by
  rw[Tc]at h;obtain⟨GJ,cap,g,args,J,T,ag⟩:=h;refine⟨by simp,.inr ⟨(λh=>by cases h),GJ,cap,g,args,J,T,λ_ _=>trivial,CallsDIn.mono ag ?_⟩⟩;rintro e cq w' ⟨rfl,v,rfl,aM⟩;unfold kA at aM;obtain⟨v',bn,bh⟩:=aM;exact⟨v',bn,v',rfl,bh⟩
 |D::ms,w,h=>by
  rw[adX]at h;exact⟨by simp,.inl ⟨D,_,rfl,run_takeDeferred h.1,adW ms _ h.2⟩⟩
theorem ayv{P:Program}{g:FuncId}{fn:Func}{c:Code}{args:Array N}{w:M}{R:N->M->Prop}{n:Nat}(bP:P.funcs[g]? =some fn)(aq:fn.ntmps=n)(ab:fn.body=some c)(ao:args.size<=n)
  (h:∀bk:N->M->Prop,(∀v w',R v w'->bk v w')->wA P n (Cv P n fn bk) (Tb P n fn bk) c [] (EC args.toList) w):bc P g args w R:=by
 replace h:=h R λ_ _ h=>h;unfold bc;refine(callsIn_wide (n:=0)).1 (callsIn_of_wp_marks bP ab trivial ?_ rfl);subst aq;rw[adY args _ ao];refine wpIn_mono (wA.lM _ _ _ _ h) ?_;rintro e a w' (⟨ms,f,rfl,au⟩|⟨d,ms,f,rfl,au⟩)
 ·unfold Cv at au
  cases e
  case normal=>exact Td ms w' au
  case ret=>exact Td ms w' au
  all_goals exact au.elim
 ·cases e
  case normal=>exact adW ms w' au
  case ret=>exact adW ms w' au
  all_goals exact au.elim
theorem adZ{P:Program}{n:Nat}{g:FuncId}{fn:Func}{f:Nat->N}{R:N->M->Prop}(oC:P.funcs[g]? =some fn):∀(ms:List Nat) (w:M) (fr:Frame) (cs:List Frame),fr.mode=.returning->fr.defers=EB ms->fr.tmps=lL n f->fr.fn=g->fr.kind=.deferred->wB ms w (λw=>kA P n fn.results f w R)->
  ∃v w' Cw,R v w'/\StepsIn (Machine.fenced P Fence.wide) P (lone fr cs w) (lone Cw cs w')/\Cw.kind=.deferred/\Cw.fn=g/\Cw.going P w' (.returned v)
 |[],w,fr,cs,aC,bm,bj,bP,r,h=>by
  rw[Tc]at h;unfold kA at h;obtain⟨v,J,T⟩:=h;refine⟨v,w,fr,T,StepsIn.refl _,r,bP,aC,bm,fn,by rw[bP];exact oC,?_⟩;rw[bj];exact J
 |D::ms,w,fr,cs,aC,bm,bj,bP,r,h=>by
  rw[adX]at h;have J:=step_collected (P:=P) (cs:=cs) (fr:=fr) (calls:=[]) (by rw[aC];simp) bm rfl (run_takeDeferred h.1);have si:(lone fr cs w).fenced P Fence.wide:=fenced_out (n:=0) trivial (room_wide _) (by rw[aC];simp) bm λg aH=>by simp[Target.leads]at aH
  obtain⟨v,w',Cw,bn,bh,bA⟩:=adZ oC ms _ {fr with defers:=[]++EB ms} cs aC rfl bj bP r h.2;exact⟨v,w',Cw,bn,StepsIn.trans (.one si J) bh,bA⟩
theorem ayw{P:Program}{g:FuncId}{fn:Func}{c:Code}{args:Array N}{w:M}{R:M->Prop}{n:Nat}(bP:P.funcs[g]? =some fn)(aq:fn.ntmps=n)(ab:fn.body=some c)(ao:args.size<=n)
  (h:∀bk:N->M->Prop,(∀v w',R w'->bk v w')->eu P n (Cv P n fn bk) c [] (EC args.toList) w):CallsDIn Fence.wide 0 P g args .returning w λe cq w'=>cq=.returning/\∃v,e=.returned v/\R w':=by
 replace h:=h (λ_ w=>R w) λ_ _ h=>h;refine⟨trivial,λPj cs ap ax=> ?_⟩;subst aq;have aM:=eu.lM (cx:=ql) _ _ _ _ _ (.inl rfl) h;let b:Frame:={(default:Frame)with fn:=g,kind:=.deferred,roundOf:=none};have ayx:Frame.enter P g args .deferred=b.atR (gS ql fn.ntmps [] (EC args.toList)) [.code c]:=by
  have e:gS ql fn.ntmps [] (EC args.toList)={tmps:=args++Array.replicate (fn.ntmps - args.size) undef,defers:=[]}:=by
   rw[adY args _ ao];rfl
  rw[e];simp[Frame.enter,Frame.atR,bP,ab,b]
 have Z:({Pj with mode:=.returning}:Frame)=Pj:=by
  cases Pj
  simp only at ap;subst ap;rfl
 obtain⟨e,jv,w',au,BX⟩:=aM b [] (Pj::cs) rfl trivial ax;rw[<-ayx]at BX;obtain⟨ms,f,rfl,au⟩:=au;unfold Cv at au
 cases e with
 |normal=>
  obtain⟨v,an,Cw,bn,bh,bA,ex,fJ⟩:=adZ (n:=fn.ntmps) (R:=λ_ w=>R w) bP ms w' {b.atR (gS ql fn.ntmps ms f) []with mode:=.returning} (Pj::cs) rfl (by show EB ms++[]=EB ms;simp) rfl rfl rfl au;refine⟨.returned v,.returning,an,Cw,⟨rfl,v,rfl,bn⟩,?_,bA,ex,fJ⟩;rw[Z];exact StepsIn.trans (StepsIn.trans BX (.one (fenced_calm (fr:=b.atR (gS ql fn.ntmps ms f) []) trivial ax rfl) (stepR_end rfl))) bh
 |ret=>
  obtain⟨ayy,aA⟩:=BX.1 rfl;obtain⟨v,an,Cw,bn,bh,bA,ex,fJ⟩:=adZ (n:=fn.ntmps) (R:=λ_ w=>R w) bP ms w' {b.atR (gS ql fn.ntmps ms f) ayy with mode:=.returning} (Pj::cs) rfl (by show EB ms++[]=EB ms;simp) rfl rfl rfl au;refine⟨.returned v,.returning,an,Cw,⟨rfl,v,rfl,bn⟩,?_,bA,ex,fJ⟩;rw[Z];exact StepsIn.trans aA bh
 |_=>exact au.elim
theorem GI.intro{P:Program}{GJ:Fn}{cap al6:Array N}{w:M}{K:M->Prop}{f:FuncId}{args:Array N}(ad:(invoke (.fn GJ cap) al6).run P w=.ok (.enter f args) w)
  (h:CallsDIn Fence.wide 0 P f args .returning w λe cq w'=>cq=.returning/\∃v,e=.returned v/\K w'):GI P {target:=.fn GJ cap,args:=al6} w K:=⟨GJ,cap,f,args,rfl,ad,h⟩
theorem ayz.ayA{P:Program}{f:FuncId}{args:Array N}{w:M}{K K':M->Prop}(h:CallsDIn Fence.wide 0 P f args .returning w λe cq w'=>cq=.returning/\∃v,e=.returned v/\K w')(r:∀w',K w'->K' w'):CallsDIn Fence.wide 0 P f args .returning w λe cq w'=>cq=.returning/\∃v,e=.returned v/\K' w':=by
 refine CallsDIn.mono h ?_
 grind
def Yx(bq:Nat->ut)(k:Nat):ut:=λms f w=>∃lD,lD<k/\bq lD ms f w
theorem Yx.intro{bq:Nat->ut}{k:Nat}{ms:List Nat}{f:Nat->N}{w:M}(lD:Nat)(h:lD<k)(ad:bq lD ms f w):Yx bq k ms f w:=⟨lD,h,ad⟩
theorem ayB{P:Program}{n:Nat}{Q:hM}{c:Code}{ms:List Nat}{f:Nat->N}{w:M}(bq:Nat->ut)(k0:Nat)(bi:bq k0 ms f w)
  (aA:∀cQ:Nat->ut,(∀k ms f w,bq k ms f w->cQ k ms f w)->∀k ms f w,bq k ms f w->eu P n (j' (Yx cQ k) Q) c ms f w):Jj P n Q c ms f w:=by
 unfold Jj;intro cx ax;refine wpIn_loop_ghost (λk a w=>∃ms f,a=gS cx n ms f/\bq k ms f w) k0 ⟨ms,f,rfl,bi⟩ ?_;rintro k a w ⟨ms,f,rfl,bP⟩;refine wpIn_mono (eu.lM _ _ _ _ _ ax (aA bq (λ_ _ _ _ h=>h) k ms f w bP)) (Ta ?_);rintro zg f w ⟨lD,r,ad⟩
 grind
theorem al7{K:M->Prop}:∀(ms:List Nat) (w:M),(∀D∈ms,w.1[D]? =some (.deferred (some [])))->ms.Nodup->(∀w',H (λj=>j∈ms) w w'->K w')->wB ms w K
 |[],w,_,_,h=>by
  rw[Tc];exact h w (H.refl _ _)
 |D::ms,w,aC,aq,h=>by
  rw[OH]at aq;rw[adX];have dX:=aC D (by simp);have c:H (λj=>j=D) w (w.putObj D (.deferred none)):=(H.refl (λj=>j=D) w).putObj (.inl rfl) _;refine⟨dX,al7 ms _ (λD' h'=>c.obj (aC D' (by simp[h'])) λe=>aq.1 (by rw[<-e];exact h')) aq.2 λw' dA=>h w' ?_⟩;exact(c.mono λj _ e=>by simp[e]).trans (dA.mono λj _ e=>acP _ e)
end Go.Kin
