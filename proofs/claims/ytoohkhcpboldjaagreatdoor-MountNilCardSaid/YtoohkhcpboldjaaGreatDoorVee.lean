/- A walk by rewriting: the code of a function as a condition on its slots, given as a function from numbers to values, that simp lays open operation by operation; it implies the library's own Code.wp. And a statement whose order Go leaves open, by onW walk in onW order. It speaks of no program. No condition. -/
import Derived.Test.YtoohkhcpboldjaaGreatDoorBase
import Derived.Deep.LoopGhost
import Derived.Sort.LoopGhostIn
import Derived.OrdersIn
import Derived.TacticsIn
import Derived.RangeFuncCalls
import Derived.RangeFuncWrites
import Derived.RangeFuncLeaves
set_option linter.unusedSimpArgs false
set_option linter.unusedVariables false
namespace Go.Kin
open Go Go.RowKit
theorem fj{ct:Sort _}{a b:ct}(h:a=b):a=b:=h
structure mw where
 J:Option Nat
 m:Nat
 d:List Deferred
def mw.aR(cx:mw):Fence:=match cx.J with
 |none=>Fence.wide
 |some l=>Fence.wide.inRound l
theorem mw.fn(cx:mw)(g:FuncId):cx.aR.fn g:=by
 obtain⟨J,m,d⟩:=cx
 cases J<;>exact trivial
theorem mw.depth(cx:mw):cx.aR.depth=none:=by
 obtain⟨J,m,d⟩:=cx
 cases J<;>rfl
theorem mw.calls(cx:mw)(k:Nat){P:Program}{f:FuncId}{args:Array Value}{w:World}{R:Ending->World->Prop}(h:Calls P f args w R):CallsIn cx.aR k P f args w R:=by
 obtain⟨J,m,d⟩:=cx
 cases J with
 |none=>exact callsIn_wide.2 h
 |some l=>exact CallsIn.inRound l (callsIn_wide.2 h)
def jH(n:Nat)(f:Nat->Value):Array Value:=Array.ofFn λi:Fin n=>f i.1
def iJ(ms:List Nat):List Deferred:=ms.map λL=>{target:=.collected L,args:=#[]}
def hc(cx:mw)(n:Nat)(ms:List Nat)(f:Nat->Value):Act:=⟨jH n f,iJ ms++cx.d⟩
def gT(f:Nat->Value)(d:Option Nat)(v:Value):Nat->Value:=λi=>if d=some i then v else f i
@[simp] theorem Lx(f:Nat->Value)(d:Nat)(v:Value)(i:Nat):gT f (some d) v i=if d=i then v else f i:=by
 unfold gT;simp
@[simp] theorem aJ9(f:Nat->Value)(v:Value):gT f none v=f:=by funext i;simp[gT]
theorem LQ(n:Nat)(f:Nat->Value)(t:Nat):(jH n f)[t]? =if t<n then some (f t)else none:=by
 unfold jH;by_cases h:t<n<;>simp[h]
theorem ael(n:Nat)(f:Nat->Value)(d:Nat)(v:Value):(jH n f).setIfInBounds d v=jH n (gT f (some d) v):=by
 apply Array.ext_getElem?;intro i;rw[Array.getElem?_setIfInBounds,LQ,LQ,Lx];have aw:(jH n f).size=n:=by simp[jH]
 grind
theorem GO(cx:mw)(n:Nat)(ms:List Nat)(f:Nat->Value)(d:Option Nat)(v:Value):(hc cx n ms f).put d v=hc cx n ms (gT f d v):=by
 cases d with
 |none=>simp[Act.put]
 |some d=>
  show(⟨(jH n f).setIfInBounds d v,iJ ms++cx.d⟩:Act)=⟨_,_⟩;rw[ael]
def gb(n:Nat)(f:Nat->Value):Operand->Value
 |.tmp t=>if t<n then f t else undef
 |.const v=>v
 |.global g=>.pointer (some ⟨g,0,none⟩)
 |.func g=>.func (.func g) #[] #[]
@[simp] theorem Qt(n:Nat)(f:Nat->Value)(t:Nat):gb n f (.tmp t)=if t<n then f t else undef:=fj rfl
@[simp] theorem aJ_(n:Nat)(f:Nat->Value)(v:Value):gb n f (.const v)=v:=fj rfl
@[simp] theorem aJ'(n:Nat)(f:Nat->Value)(g:Nat):gb n f (.global g)=.pointer (some ⟨g,0,none⟩):=fj rfl
@[simp] theorem aKa(n:Nat)(f:Nat->Value)(g:Nat):gb n f (.func g)=.func (.func g) #[] #[]:=fj rfl
theorem Gk(n:Nat)(f:Nat->Value)(t:Nat):(jH n f).getD t undef=if t<n then f t else undef:=by
 rw[Array.getD_eq_getD_getElem?,LQ];split<;>rfl
theorem GL(cx:mw)(n:Nat)(ms:List Nat)(f:Nat->Value):(hc cx n ms f).eval=gb n f:=by
 funext x
 cases x with
 |tmp t=>exact Gk n f t
 |_=>rfl
def aP(P:Program)(g:FuncId)(args:Array Value)(w:World)(R:Value->World->Prop):Prop:=
 Calls P g args w λe w'=>∃v,e=.returned v/\R v w'
theorem aP.calls{P:Program}{g:FuncId}{args:Array Value}{w:World}{R:Value->World->Prop}(h:aP P g args w R):Calls P g args w λe w'=>∃v,e=.returned v/\R v w':=h
theorem aP.mono{P:Program}{g:FuncId}{args:Array Value}{w:World}{R aZ:Value->World->Prop}(h:aP P g args w R)(ap:∀v w',R v w'->aZ v w'):aP P g args w aZ:=
 Calls.mono h λ_ w' ⟨v,aV,aS⟩=>⟨v,aV,ap v w' aS⟩
def FP(P:Program)(l:Nat)(g:FuncId)(tmps:Array Value)(x y:Code)(w:World)(K:Value->World->Prop):Prop:=
 RoundIn Fence.wide 0 P l g tmps x y w λe w'=>∃v,e=.returned v/\K v w'
theorem FP.mono{P:Program}{l:Nat}{g:FuncId}{tmps:Array Value}{x y:Code}{w:World}{K K':Value->World->Prop}(r:∀v w',K v w'->K' v w')(h:FP P l g tmps x y w K):FP P l g tmps x y w K':=
 RoundIn.mono h λ_ w' ⟨v,aV,aS⟩=>⟨v,aV,r v w' aS⟩
theorem mw.round(cx:mw)(k:Nat){P:Program}{l:Nat}{g:FuncId}{tmps:Array Value}{x y:Code}{w:World}{R:Ending->World->Prop}(h:RoundIn Fence.wide 0 P l g tmps x y w R):RoundIn cx.aR k P l g tmps x y w R:=by
 obtain⟨J,m,d⟩:=cx
 cases J with
 |none=>exact⟨h.1,λc cs _=>h.2 c cs (room_wide _)⟩
 |some J=>exact⟨h.1,λc cs _=>h.2 c cs (room_wide _)⟩
def dG(P:Program)(cc:Operand->Value)(o:Oper)(w:World)(K:Value->World->Prop):Prop:=
 match(execOp cc o).run P w with
 |.ok (.value v) w'=>K v w'
 |.ok .skip w'=>K undef w'
 |.ok (.enter g args) w'=>aP P g args w' K
 |.ok (.round l g tmps x y) w'=>FP P l g tmps x y w' K
 |_=>False
theorem dG.aE2{P:Program}{cc:Operand->Value}{o:Oper}{w:World}{K:Value->World->Prop}(h:dG P cc o w K)(c:Call):o.op≠.defer c:=by
 intro aB;obtain⟨d,op,bO,pos,eC,g⟩:=o;subst aB;unfold dG at h;have aV:execOp cc ⟨d,.defer c,bO,pos,eC,g⟩=(do pure (.defer (<-resolve cc c bO))):=rfl;rw[aV]at h;generalize resolve cc c bO=s at h
 cases ap:s.run P w<;>simp[go_sem,ap]at h
theorem dG.kj{P:Program}{cx:mw}{n:Nat}{ms:List Nat}{f:Nat->Value}{o:Oper}{w:World}{K:Value->World->Prop}{K':Act->World->Prop}{Q:Exit->Act->World->Prop}
  (r:∀v w',K v w'->K' (hc cx n ms (gT f o.dst v)) w')(h:dG P (gb n f) o w K):o.wpIn cx.aR cx.m P (hc cx n ms f) w K' Q:=by
 refine⟨λg _=>cx.fn g,?_⟩;rw[Oper.semAt_eq _ _ _ h.aE2,GL];unfold dG at h;split at h
 ·rename_i v w' aV;rw[aV,Oper.uponIn_value,GO];exact r _ _ h
 ·rename_i w' aV;rw[aV,Oper.uponIn_skip,GO];exact r _ _ h
 ·rename_i g args w' aV;rw[aV,Oper.uponIn_enter];refine⟨λbi=>(by rw[cx.depth]at bi;cases bi),cx.calls _ (Calls.mono h ?_)⟩;rintro e DD ⟨v,rfl,aS⟩;show K' ((hc cx n ms f).put o.dst v) DD;rw[GO];exact r _ _ aS
 ·rename_i l g tmps x y w' aV;rw[aV,Oper.uponIn_round];refine⟨λbi=>(by rw[cx.depth]at bi;cases bi),cx.round _ (RoundIn.mono h ?_)⟩;rintro e DD ⟨v,rfl,aS⟩;show K' ((hc cx n ms f).put o.dst v) DD;rw[GO];exact r _ _ aS
 ·exact h.elim
theorem dG.mono{P:Program}{cc:Operand->Value}{o:Oper}{w:World}{K K':Value->World->Prop}(r:∀v w',K v w'->K' v w')(h:dG P cc o w K):dG P cc o w K':=by
 unfold dG at*;split at h
 ·exact r _ _ h
 ·exact r _ _ h
 ·exact h.mono r
 ·exact FP.mono r h
 ·exact h.elim
theorem aC_{P:Program}{cc:Operand->Value}{o:Oper}{w w':World}{v:Value}{K:Value->World->Prop}(h:(execOp cc o).run P w=.ok (.value v) w')(r:K v w'):dG P cc o w K:=by
 unfold dG;rw[h];exact r
def jW(P:Program)(aM:Array Oper)(n:Nat)(Q:(Nat->Value)->World->Prop):List Oper->(Nat->Value)->World->Prop
 |[],f,w=>Q f w
 |o::cA,f,w=>
  if Region.wanted o (yielded aM (jH n f))then dG P (gb n f) o w (λv w'=>jW P aM n Q cA (gT f o.dst v) w')
  else jW P aM n Q cA (gT f o.dst undef) w
theorem jW.kj{P:Program}{aM:Array Oper}{cx:mw}{n:Nat}{ms:List Nat}{Q:Exit->Act->World->Prop}{kF:(Nat->Value)->World->Prop}(aq:∀f w,kF f w->Q .normal (hc cx n ms f) w):
  ∀(l:List Oper) (f:Nat->Value) (w:World),jW P aM n kF l f w->wpListIn cx.aR cx.m P aM Q l (hc cx n ms f) w
 |[],f,w,h=>aq f w h
 |o::cA,f,w,h=>by
  refine wpListIn_step λK eS=> ?_;unfold jW at h;split at h
  ·rename_i bH;rw[if_pos (show Region.wanted o (yielded aM (hc cx n ms f).tmps)=true from bH)];exact h.kj λv w' aS=>eS _ _ (jW.kj aq cA _ _ aS)
  ·rename_i bH;rw[if_neg (show¬Region.wanted o (yielded aM (hc cx n ms f).tmps)=true from bH),GO];exact⟨λg _=>cx.fn g,eS _ _ (jW.kj aq cA _ _ h)⟩
def LR(P:Program)(aM:Array Oper)(n:Nat)(Q:(Nat->Value)->World->Prop)(cA:List Oper)(f:Nat->Value)(d:Option Tmp)(v:Value)(w:World):Prop:=jW P aM n Q cA (gT f d v) w
@[simp] theorem aKb(P:Program)(aM:Array Oper)(n:Nat)(Q:(Nat->Value)->World->Prop)(cA:List Oper)(f:Nat->Value)(d:Option Tmp)(v:Value)(w:World):LR P aM n Q cA f d v w=jW P aM n Q cA (gT f d v) w:=fj rfl
@[simp] theorem aKc(P:Program)(aM:Array Oper)(n:Nat)(Q:(Nat->Value)->World->Prop)(f:Nat->Value)(w:World):jW P aM n Q [] f w=Q f w:=fj rfl
@[simp] theorem aKd(P:Program)(aM:Array Oper)(n:Nat)(Q:(Nat->Value)->World->Prop)(d:Option Tmp)(op:Op)(bO:TypeId)(pos:String)(eC:Array Edge)(cA:List Oper)(f:Nat->Value)(w:World):
  jW P aM n Q (⟨d,op,bO,pos,eC,none⟩::cA) f w=dG P (gb n f) ⟨d,op,bO,pos,eC,none⟩ w (LR P aM n Q cA f d):=by
 show(if _ then _ else _)=_;rw[if_pos (by simp[Region.wanted])];rfl
abbrev gr:=Exit->List Nat->(Nat->Value)->World->Prop
abbrev r_:=List Nat->(Nat->Value)->World->Prop
def jj(K:r_)(Q:gr):gr
 |.normal,ms,f,w=>K ms f w
 |e,ms,f,w=>Q e ms f w
def pN(ms:List Nat)(bg:(Nat->Value)->World->Prop):r_:=λvV f w=>vV=ms/\bg f w
def vC(id:Nat)(Q:gr):gr
 |.exit j,ms,f,w=>if j=id then Q .normal ms f w else Q (.exit j) ms f w
 |e,ms,f,w=>Q e ms f w
def lQ:Code->Bool
 |.skip=>true
 |.region ..=>true
 |.seq a b=>lQ a&&lQ b
 |.cond _ a b=>lQ a&&lQ b
 |.block _ c=>lQ c
 |.loop c=>lQ c
 |.exit _=>true
 |.ret=>true
 |_=>false
def uV(cx:mw)(n:Nat)(Q:gr):Exit->Act->World->Prop:=λe a w=>∃ms f,a=hc cx n ms f/\Q e ms f w
def Ew(P:Program)(n:Nat)(Q:gr)(c:Code)(ms:List Nat)(f:Nat->Value)(w:World):Prop:=∀cx:mw,(cx.J=none\/lQ c=true)->(Code.loop c).wpIn cx.aR cx.m P (uV cx n Q) (hc cx n ms f) w
def D_(P:Program)(n:Nat)(Q:gr)(id:Nat)(aM:Array Oper)(ms:List Nat)(f:Nat->Value)(w:World):Prop:=∀cx:mw,(Code.region id aM true).wpIn cx.aR cx.m P (uV cx n Q) (hc cx n ms f) w
def vU(P:Program)(n:Nat)(Q:gr)(c:Code)(ms:List Nat)(f:Nat->Value)(w:World):Prop:=∀cx:mw,cx.J=none->c.wpIn cx.aR cx.m P (uV cx n Q) (hc cx n ms f) w
def dH(P:Program)(n:Nat):gr->Code->r_
 |Q,.skip,ms,f,w=>Q .normal ms f w
 |Q,.region _ aM false,ms,f,w=>jW P aM n (Q .normal ms) aM.toList f w
 |Q,.region id aM true,ms,f,w=>D_ P n Q id aM ms f w
 |Q,.seq a b,ms,f,w=>dH P n (jj (dH P n Q b) Q) a ms f w
 |Q,.cond c a b,ms,f,w=>(gb n f c=.bool true/\dH P n Q a ms f w)\/(gb n f c=.bool false/\dH P n Q b ms f w)
 |Q,.block id c,ms,f,w=>dH P n (vC id Q) c ms f w
 |Q,.loop c,ms,f,w=>Ew P n Q c ms f w
 |Q,.exit id,ms,f,w=>Q (.exit id) ms f w
 |Q,.ret,ms,f,w=>Q .ret ms f w
 |Q,c,ms,f,w=>vU P n Q c ms f w
def rt(P:Program)(n:Nat)(b:Value)(Q:gr)(x y:Code)(ms:List Nat)(f:Nat->Value)(w:World):Prop:=(b=.bool true/\dH P n Q x ms f w)\/(b=.bool false/\dH P n Q y ms f w)
theorem MB{cx:mw}{n:Nat}{K:r_}{K':Act->World->Prop}{Q:gr}(h:∀ms f w,K ms f w->K' (hc cx n ms f) w)(e:Exit)(a:Act)(w:World)(an:uV cx n (jj K Q) e a w):Exit.then K' (uV cx n Q) e a w:=by
 obtain⟨ms,f,rfl,bU⟩:=an
 cases e
 case normal=>exact h _ _ _ bU
 all_goals exact⟨ms,f,rfl,bU⟩
theorem dH.kj{P:Program}{cx:mw}{n:Nat}:∀(c:Code) (Q:gr) (ms:List Nat) (f:Nat->Value) (w:World),(cx.J=none\/lQ c=true)->dH P n Q c ms f w->c.wpIn cx.aR cx.m P (uV cx n Q) (hc cx n ms f) w:=by
 intro c
 induction c with
 |skip=>exact λQ ms f w _ h=>wpIn_skip ⟨ms,f,rfl,h⟩
 |region id aM d=>
  intro Q ms f w _ h
  cases d with
  |true=>exact h cx
  |false=>exact wpIn_region_list (jW.kj (λf w aq=>⟨ms,f,rfl,aq⟩) _ _ _ h)
 |seq a b Ev Cz=>
  intro Q ms f w ap h;have am:cx.J=none\/lQ a=true:=ap.imp id λh=>by simp[lQ]at h;exact h.1
  have V:cx.J=none\/lQ b=true:=ap.imp id λh=>by simp[lQ]at h;exact h.2
  exact wpIn_seq (wpIn_mono (Ev _ ms f w am h) (MB λms f w bH=>Cz Q ms f w V bH))
 |cond c a b Ev Cz=>
  intro Q ms f w ap h;have am:cx.J=none\/lQ a=true:=ap.imp id λh=>by simp[lQ]at h;exact h.1
  have V:cx.J=none\/lQ b=true:=ap.imp id λh=>by simp[lQ]at h;exact h.2
  rcases h with⟨T,h⟩|⟨T,h⟩
  ·exact wpIn_cond_true (by rw[GL];exact T) (Ev Q ms f w am h)
  ·exact wpIn_cond_false (by rw[GL];exact T) (Cz Q ms f w V h)
 |block id c bG=>
  intro Q ms f w ap h;refine wpIn_block (wpIn_mono (bG _ ms f w ap h) ?_);rintro e a w ⟨ms,f,rfl,bU⟩
  cases e
  case exit j=>
   show if j=id then _ else _
   simp only[vC]at bU;split<;>rename_i F<;>simp only[F,if_true,if_false]at bU<;>exact⟨ms,f,rfl,bU⟩
  all_goals exact⟨ms,f,rfl,bU⟩
 |loop c=>exact λQ ms f w ap h=>h cx ap
 |rangeFunc=>exact λQ ms f w ap h=>h cx (ap.resolve_right (by simp[lQ]))
 |exit id=>exact λQ ms f w _ h=>wpIn_exit ⟨ms,f,rfl,h⟩
 |scope=>exact λQ ms f w ap h=>h cx (ap.resolve_right (by simp[lQ]))
 |label=>exact λQ ms f w ap h=>h cx (ap.resolve_right (by simp[lQ]))
 |goto=>exact λQ ms f w ap h=>h cx (ap.resolve_right (by simp[lQ]))
 |ret=>exact λQ ms f w _ h=>wpIn_ret ⟨ms,f,rfl,h⟩
 |refuse=>exact λQ ms f w ap h=>h cx (ap.resolve_right (by simp[lQ]))
section
variable(P:Program)(n:Nat)(Q:gr)(ms:List Nat)(f:Nat->Value)(w:World)(K:r_)(bg:(Nat->Value)->World->Prop)
@[simp] theorem aKe:jj K Q .normal ms f w=K ms f w:=fj rfl
@[simp] theorem aKf:jj K Q .normal ms=K ms:=fj rfl
@[simp] theorem aKg:jj K Q .ret ms f w=Q .ret ms f w:=fj rfl
@[simp] theorem aKh(i:Nat):jj K Q (.exit i) ms f w=Q (.exit i) ms f w:=fj rfl
@[simp] theorem aE3:pN ms bg ms f w=bg f w:=propext ⟨λh=>h.2,λh=>⟨rfl,h⟩⟩
@[simp] theorem aKi:pN ms bg ms=bg:=funext λf=>funext λw=>aE3 ms f w bg
@[simp] theorem aKj(id:Nat):vC id Q .normal ms f w=Q .normal ms f w:=fj rfl
@[simp] theorem aKk(id:Nat):vC id Q .ret ms f w=Q .ret ms f w:=fj rfl
@[simp] theorem aKl(id j:Nat):vC id Q (.exit j) ms f w=if j=id then Q .normal ms f w else Q (.exit j) ms f w:=fj rfl
@[simp] theorem aKm:dH P n Q .skip ms f w=Q .normal ms f w:=fj rfl
@[simp] theorem aKn(id:Nat)(l:List Oper):dH P n Q (.region id l.toArray false) ms f w=jW P l.toArray n (Q .normal ms) l f w:=fj rfl
@[simp] theorem awJ(id:Nat)(aM:Array Oper):dH P n Q (.region id aM true) ms f w=D_ P n Q id aM ms f w:=fj rfl
@[simp] theorem Ud(a b:Code):dH P n Q (.seq a b) ms f w=dH P n (jj (dH P n Q b) Q) a ms f w:=fj rfl
@[simp] theorem aKo(c:Operand)(a b:Code):dH P n Q (.cond c a b) ms f w=rt P n (gb n f c) Q a b ms f w:=fj rfl
@[simp] theorem aKp(id:Nat)(c:Code):dH P n Q (.block id c) ms f w=dH P n (vC id Q) c ms f w:=fj rfl
@[simp] theorem aAG(c:Code):dH P n Q (.loop c) ms f w=Ew P n Q c ms f w:=fj rfl
@[simp] theorem aKq(g:Operand)(ps:Array Tmp)(a b:Code):dH P n Q (.rangeFunc g ps a b) ms f w=vU P n Q (.rangeFunc g ps a b) ms f w:=fj rfl
@[simp] theorem aKr(id:Nat):dH P n Q (.exit id) ms f w=Q (.exit id) ms f w:=fj rfl
@[simp] theorem aKs:dH P n Q .ret ms f w=Q .ret ms f w:=fj rfl
end
section
variable{P:Program}{n:Nat}{Q:gr}{x y:Code}{ms:List Nat}{f:Nat->Value}{w:World}
@[simp] theorem af0:rt P n (.bool true) Q x y ms f w=dH P n Q x ms f w:=by simp[rt]
@[simp] theorem af1:rt P n (.bool false) Q x y ms f w=dH P n Q y ms f w:=by simp[rt]
theorem aE4{b:Bool}(bd:b=true->dH P n Q x ms f w)(bU:b=false->dH P n Q y ms f w):rt P n (.bool b) Q x y ms f w:=by
 cases b
 ·exact .inr ⟨rfl,bU rfl⟩
 ·exact .inl ⟨rfl,bd rfl⟩
theorem Ea{p:Prop}[Decidable p](bd:p->dH P n Q x ms f w)(bU:¬p->dH P n Q y ms f w):rt P n (.bool (decide p)) Q x y ms f w:=
 aE4 (λh=>bd (of_decide_eq_true h)) (λh=>bU (of_decide_eq_false h))
end
theorem PU{K K':r_}{Q kF:gr}(r:∀ms f w,K ms f w->K' ms f w)(aq:∀e ms f w,Q e ms f w->kF e ms f w):∀e ms f w,jj K Q e ms f w->jj K' kF e ms f w:=by
 intro e ms f w h
 cases e
 case normal=>exact r _ _ _ h
 all_goals exact aq _ _ _ _ h
theorem abD{id:Nat}{Q kF:gr}(aq:∀e ms f w,Q e ms f w->kF e ms f w):∀e ms f w,vC id Q e ms f w->vC id kF e ms f w:=by
 intro e ms f w h
 cases e
 case exit j=>
  simp only[vC]at*
  grind
 all_goals exact aq _ _ _ _ h
theorem jW.mono{P:Program}{aM:Array Oper}{n:Nat}{Q kF:(Nat->Value)->World->Prop}(aq:∀f w,Q f w->kF f w):∀(l:List Oper) (f:Nat->Value) (w:World),jW P aM n Q l f w->jW P aM n kF l f w
 |[],f,w,h=>aq f w h
 |o::cA,f,w,h=>by
  unfold jW at h⊢;split at h
  ·rename_i bH;rw[if_pos bH];exact h.mono λv w' aS=>jW.mono aq cA _ _ aS
  ·rename_i bH;rw[if_neg bH];exact jW.mono aq cA _ _ h
theorem IS{cx:mw}{n:Nat}{Q kF:gr}(aq:∀e ms f w,Q e ms f w->kF e ms f w):∀e a w,uV cx n Q e a w->uV cx n kF e a w:=by
 rintro e a w ⟨ms,f,rfl,h⟩;exact⟨ms,f,rfl,aq _ _ _ _ h⟩
theorem dH.mono{P:Program}{n:Nat}:∀(c:Code) {Q kF:gr} (_:∀e ms f w,Q e ms f w->kF e ms f w) (ms:List Nat) (f:Nat->Value) (w:World),dH P n Q c ms f w->dH P n kF c ms f w:=by
 intro c
 induction c with
 |skip=>exact λaq ms f w h=>aq _ _ _ _ h
 |region id aM d=>
  intro Q kF aq ms f w h
  cases d with
  |true=>exact λcx=>wpIn_mono (h cx) (IS aq)
  |false=>exact jW.mono (aq .normal ms) _ _ _ h
 |seq a b Ev Cz=>exact λaq ms f w h=>Ev (PU (λms f w h=>Cz aq ms f w h) aq) ms f w h
 |cond c a b Ev Cz=>
  intro Q kF aq ms f w h;rcases h with⟨T,h⟩|⟨T,h⟩
  ·exact .inl ⟨T,Ev aq ms f w h⟩
  ·exact .inr ⟨T,Cz aq ms f w h⟩
 |block id c bG=>exact λaq ms f w h=>bG (abD aq) ms f w h
 |loop c=>exact λaq ms f w h cx ap=>wpIn_mono (h cx ap) (IS aq)
 |rangeFunc=>exact λaq ms f w h cx ap=>wpIn_mono (h cx ap) (IS aq)
 |exit id=>exact λaq ms f w h=>aq _ _ _ _ h
 |scope=>exact λaq ms f w h cx ap=>wpIn_mono (h cx ap) (IS aq)
 |label=>exact λaq ms f w h cx ap=>wpIn_mono (h cx ap) (IS aq)
 |goto=>exact λaq ms f w h cx ap=>wpIn_mono (h cx ap) (IS aq)
 |ret=>exact λaq ms f w h=>aq _ _ _ _ h
 |refuse=>exact λaq ms f w h cx ap=>wpIn_mono (h cx ap) (IS aq)
theorem rt.mono{P:Program}{n:Nat}{b:Value}{Q kF:gr}{x y:Code}{ms:List Nat}{f:Nat->Value}{w:World}(aq:∀e ms f w,Q e ms f w->kF e ms f w)(h:rt P n b Q x y ms f w):rt P n b kF x y ms f w:=by
 rcases h with⟨T,h⟩|⟨T,h⟩
 ·exact .inl ⟨T,dH.mono _ aq ms f w h⟩
 ·exact .inr ⟨T,dH.mono _ aq ms f w h⟩
theorem pN.go{ms:List Nat}{bg:(Nat->Value)->World->Prop}{K:r_}(h:∀f w,bg f w->K ms f w):∀vV f w,pN ms bg vV f w->K vV f w:=by
 rintro vV f w ⟨rfl,aa⟩;exact h f w aa
theorem Hj{P:Program}{n:Nat}{b:Value}{Q:gr}{K:r_}{x y:Code}{ms:List Nat}{f:Nat->Value}{w:World}(bg:(Nat->Value)->World->Prop)(h:rt P n b (jj (pN ms bg) Q) x y ms f w)(bP:∀f w,bg f w->K ms f w):rt P n b (jj K Q) x y ms f w:=
 rt.mono (PU (pN.go bP) λ_ _ _ _ h=>h) h
theorem aBz{P:Program}{n id:Nat}{b:Value}{Q:gr}{K:r_}{x y:Code}{ms:List Nat}{f:Nat->Value}{w:World}(bg:(Nat->Value)->World->Prop)(h:rt P n b (vC id (jj (pN ms bg) Q)) x y ms f w)(bP:∀f w,bg f w->K ms f w):rt P n b (vC id (jj K Q)) x y ms f w:=
 rt.mono (abD (PU (pN.go bP) λ_ _ _ _ h=>h)) h
theorem aly{P:Program}{n:Nat}{Q:gr}{K:r_}{c:Code}{ms:List Nat}{f:Nat->Value}{w:World}(bg:(Nat->Value)->World->Prop)(h:dH P n (jj (pN ms bg) Q) c ms f w)(bP:∀f w,bg f w->K ms f w):dH P n (jj K Q) c ms f w:=
 dH.mono _ (PU (pN.go bP) λ_ _ _ _ h=>h) ms f w h
def cH(bg:Nat->(Nat->Value)->World->Prop)(k:Nat):(Nat->Value)->World->Prop:=λf w=>∃lo,lo<k/\bg lo f w
theorem cH.intro{bg:Nat->(Nat->Value)->World->Prop}{k:Nat}{f:Nat->Value}{w:World}(lo:Nat)(h:lo<k)(aa:bg lo f w):cH bg k f w:=⟨lo,h,aa⟩
theorem du{P:Program}{n:Nat}{Q:gr}{c:Code}{ms:List Nat}{f:Nat->Value}{w:World}(bg:Nat->(Nat->Value)->World->Prop)(pd:Nat)(bf:bg pd f w)
  (aw:∀cJ:Nat->(Nat->Value)->World->Prop,(∀k f w,bg k f w->cJ k f w)->∀k f w,bg k f w->dH P n (jj (pN ms (cH cJ k)) Q) c ms f w):Ew P n Q c ms f w:=by
 intro cx ap;refine wpIn_loop_ghost (λk a w=>∃f,a=hc cx n ms f/\bg k f w) pd ⟨f,rfl,bf⟩ ?_;rintro k a w ⟨f,rfl,bU⟩;refine wpIn_mono (dH.kj _ _ _ _ _ ap (aw bg (λ_ _ _ h=>h) k f w bU)) (MB ?_);rintro vV f w ⟨rfl,lo,r,aa⟩
 grind
def fN(J:Result Value)(K:Value->World->Prop):Prop:=match J with|.ok v w=>K v w|_=>False
def Gu(J:Result Unit)(K:World->Prop):Prop:=match J with|.ok _ w=>K w|_=>False
@[simp] theorem aKt(v:Value)(w:World)(K:Value->World->Prop):fN (.ok v w) K=K v w:=fj rfl
@[simp] theorem aKu(v:Unit)(w:World)(K:World->Prop):Gu (.ok v w) K=K w:=fj rfl
def ql(P:Program)(t:TypeId)(w:World):Nat:=match(sizeOf t).run P w with|.ok n _=>n|_=>0
@[simp] theorem aKv(P:Program)(t:TypeId)(w:World):ql P t w=match(sizeOf t).run P w with|.ok n _=>n|_=>0:=fj rfl
def ln(P:Program)(t:TypeId):Array Value:=match(P.info? t).bind (·.zero)with|some v=>v.cells|none=>#[]
def IT(P:Program)(t:TypeId)(v:Value)(w:World)(K:Value->World->Prop):Prop:=fN ((Instr.loadAt t v).run P w) K
def LS(P:Program)(t:TypeId)(a v:Value)(w:World)(K:Value->World->Prop):Prop:=Gu ((Instr.storeAt t a v).run P w) (K undef)
def QK(P:Program)(t:TypeId)(w:World)(K:Value->World->Prop):Prop:=fN ((Instr.alloc t true (.tuple #[])).run P w) K
def hX(P:Program)(t:TypeId)(vS:List (Nat×Value))(w:World)(K:Value->World->Prop):Prop:=fN ((Instr.build t vS.toArray).run P w) K
def jT(us:Array Value):Bool:=us.all (·.oneCell')
def d'(cs:Array Value)(off:Nat)(us:Array Value):Array Value:=(cs.toList.take off++us.toList++cs.toList.drop (off+us.size)).toArray
theorem yC{l:List Value}(h:∀u∈l,u.oneCell'=true):jT l.toArray=true:=by
 show(l.toArray).all (·.oneCell')=true
 grind
@[simp] theorem abw(l:List UInt8):jT (bm l).toArray=true:=yC (xf l)
section
variable(P:Program)(t:TypeId)(w:World)(K:Value->World->Prop)
@[simp] theorem aKw(v:Value)(h:ql P t w<=8):IT P t v w K=fN ((Instr.loadAt t v).run P w) K:=fj rfl
@[simp] theorem aKx(a v:Value)(h:ql P t w<=8):LS P t a v w K=Gu ((Instr.storeAt t a v).run P w) (K undef):=fj rfl
@[simp] theorem aKy(h:ql P t w<=8):QK P t w K=fN ((Instr.alloc t true (.tuple #[])).run P w) K:=fj rfl
@[simp] theorem aKz(vS:List (Nat×Value))(h:ql P t w<=8):hX P t vS w K=fN ((Instr.build t vS.toArray).run P w) K:=fj rfl
def Kq(g off:Nat)(o:Option Obj):Prop:=w.1[g]? =o/\IT P t (.pointer (some ⟨g,off,none⟩)) w K
def QL(g off:Nat)(u:Value)(o:Option Obj):Prop:=w.1[g]? =o/\LS P t (.pointer (some ⟨g,off,none⟩)) u w K
@[simp] theorem aKA(g off:Nat)(h:8<ql P t w):IT P t (.pointer (some ⟨g,off,none⟩)) w K=Kq P t w K g off (w.1[g]?):=by simp[Kq]
@[simp] theorem aKB(g off:Nat)(u:Value)(h:8<ql P t w):LS P t (.pointer (some ⟨g,off,none⟩)) u w K=QL P t w K g off u (w.1[g]?):=by simp[QL]
variable{P t w}in
theorem anK(h:8<ql P t w):(sizeOf t).run P w=.ok (ql P t w) w:=by
 simp only[ql,sizeOf,typeInfo,Sem.run_bind,run_program,Result.andThen_ok]at*
 cases aq:P.info? t with
 |none=>simp_all
 |some i=>simp
@[simp] theorem aKC(g off:Nat)(cs:Array Value)(bl:TypeId)(fr:Nat×Nat)(eb:8<ql P t w)(am:(isAgg t).run P w=.ok true w)(bU:off+ql P t w<=cs.size):
  Kq P t w K g off (some (.cells cs bl fr))=(w.1[g]? =some (.cells cs bl fr)/\K (.agg (cs.extract off (off+ql P t w))) w):=by
 unfold Kq;refine propext (and_congr_right λV=> ?_);have hz:=anK eb;revert hz bU;generalize ql P t w=n;intro bU hz;have al:(loadCells ⟨g,off,none⟩ n).run P w=.ok (cs.extract off (off+n)) w:=by
  have:=run_loadCells_list (P:=P) w ⟨g,off,none⟩ ((cs.toList.drop off).take n) λj v aS=>by
   rw[Addr.add_lit,cell_of_row w g _ cs bl fr V];rw[List.getElem?_take,List.getElem?_drop]at aS;split at aS
   ·simpa using aS
   ·cases aS
  rw[show((cs.toList.drop off).take n).length=n by simp;omega]at this;rw[this];congr 1;apply Array.ext';simp[Array.toList_extract,List.extract_eq_take_drop]
 unfold IT fN;simp[Instr.loadAt,Instr.sureAddr,loadVar,am,hz,al]
@[simp] theorem aKD(g off:Nat)(us cs:Array Value)(bl:TypeId)(eb:8<ql P t w)(av:us.size=ql P t w)(bU:off+ql P t w<=cs.size)(H:jT us=true):
  QL P t w K g off (.agg us) (some (.cells cs bl (0,0)))=(w.1[g]? =some (.cells cs bl (0,0))/\K undef (w.setRow g (d' cs off us))):=by
 unfold QL;refine propext (and_congr_right λV=> ?_);have hz:=anK eb;rw[<-av]at bU hz;have aw:=run_storeCells_at P g off bl us.toList 0 cs w V (by simp;omega) (λv aS=>by
  have:=Array.all_eq_true'.1 (show us.all (·.oneCell')=true from H) v (by simpa using aS);exact this)
 unfold LS Gu;simp[Instr.storeAt,Instr.sureAddr,storeVar,hz,Value.cells];simp at aw;rw[aw];simp[d']
@[simp] theorem CV(h:8<ql P t w)(hz:(P.info? t).map (λi=>i.zero.isSome)=some true):QK P t w K=K (.pointer (some ⟨w.1.size,0,none⟩)) (w.alloc (.cells (ln P t) t)):=by
 unfold QK fN
 cases aq:P.info? t with
 |none=>simp[aq]at hz
 |some i=>
  cases aa:i.zero with
  |none=>simp[aq,aa]at hz
  |some v=>simp[Instr.alloc,zeroValue,typeInfo,aq,aa,newVar,newRow,ln]
end
def As(P:Program)(t:TypeId)(v:Value)(w:World)(K:Value->World->Prop):Prop:=fN ((do loadVar t (<-asAddr v):Sem Value).run P w) K
@[simp] theorem aKE(P:Program)(t:TypeId)(v:Value)(w:World)(K:Value->World->Prop)(h:ql P t w<=8):As P t v w K=fN ((do loadVar t (<-asAddr v):Sem Value).run P w) K:=fj rfl
@[simp] theorem aKF(P:Program)(t:TypeId)(a:Addr)(w:World)(K:Value->World->Prop)(h:8<ql P t w):As P t (.pointer (some a)) w K=IT P t (.pointer (some a)) w K:=fj rfl
def yu(ho:Array ResultVar)(tmps:Array Value):Sem Value:=do
 let cn<-ho.mapM λ
  |.tmp t=>pure (tmps.getD t undef)
  |.cell a t=>do loadVar t (<-asAddr (tmps.getD a undef))
 pure (if h:cn.size=1 then cn[0]else .tuple cn)
def jI(P:Program)(n:Nat)(ho:Array ResultVar)(f:Nat->Value)(w:World)(R:Value->World->Prop):Prop:=
 ∃v,(yu ho (jH n f)).run P w=.ok v w/\R v w
def tV:List Nat->World->(World->Prop)->Prop
 |[],w,K=>K w
 |L::ms,w,K=>w.1[L]? =some (.deferred (some []))/\tV ms (w.putObj L (.deferred none)) K
@[simp] theorem MD(w:World)(K:World->Prop):tV [] w K=K w:=fj rfl
@[simp] theorem WO(L:Nat)(ms:List Nat)(w:World)(K:World->Prop):tV (L::ms) w K=(w.1[L]? =some (.deferred (some []))/\tV ms (w.putObj L (.deferred none)) K):=fj rfl
def yM(P:Program)(n:Nat)(fn:Func)(R:Value->World->Prop):gr
 |.ret,ms,f,w=>tV ms w λw=>jI P n fn.results f w R
 |.normal,ms,f,w=>tV ms w λw=>jI P n fn.results f w R
 |_,_,_,_=>False
section
variable(P:Program)(n:Nat)(fn:Func)(R:Value->World->Prop)(f:Nat->Value)(w:World)
@[simp] theorem aKG:yM P n fn R .ret [] f w=jI P n fn.results f w R:=fj rfl
@[simp] theorem aKH:yM P n fn R .normal [] f w=jI P n fn.results f w R:=fj rfl
theorem ze(ms:List Nat):yM P n fn R .ret ms f w=tV ms w λw=>jI P n fn.results f w R:=fj rfl
theorem SZ(ms:List Nat):yM P n fn R .normal ms f w=tV ms w λw=>jI P n fn.results f w R:=fj rfl
theorem aE5:jI P n #[] f w R=R (.tuple #[]) w:=by simp[jI,yu]
theorem aE6(t:Nat):jI P n #[.tmp t] f w R=R (gb n f (.tmp t)) w:=by
 have h:(yu #[.tmp t] (jH n f)).run P w=.ok (gb n f (.tmp t)) w:=by simp[yu,Gk, - Array.getD_eq_getD_getElem?]
 simp[jI,h]
theorem aE7(t u:Nat):jI P n #[.tmp t,.tmp u] f w R=R (.tuple #[gb n f (.tmp t),gb n f (.tmp u)]) w:=by
 have h:(yu #[.tmp t,.tmp u] (jH n f)).run P w=.ok (.tuple #[gb n f (.tmp t),gb n f (.tmp u)]) w:=by simp[yu,Gk, - Array.getD_eq_getD_getElem?]
 simp[jI,h]
theorem aE8(t u x:Nat):jI P n #[.tmp t,.tmp u,.tmp x] f w R=R (.tuple #[gb n f (.tmp t),gb n f (.tmp u),gb n f (.tmp x)]) w:=by
 have h:(yu #[.tmp t,.tmp u,.tmp x] (jH n f)).run P w=.ok (.tuple #[gb n f (.tmp t),gb n f (.tmp u),gb n f (.tmp x)]) w:=by simp[yu,Gk, - Array.getD_eq_getD_getElem?]
 simp[jI,h]
end
def VN(R:Value->World->Prop)(w:World)(v:Value)(w':World):Prop:=w'=w/\R v w
def QM(R:Value->World->Prop)(w:World)(u v:Value)(w':World):Prop:=w'=w/\R (.tuple #[u,v]) w
def VO(R:Value->World->Prop)(w:World)(u v:Value)(w':World):Prop:=w'=w/\R (.tuple #[v,u]) w
@[simp] theorem aKI(R:Value->World->Prop)(w:World)(v:Value)(w':World):VN R w v w'=(w'=w/\R v w):=fj rfl
@[simp] theorem aKJ(R:Value->World->Prop)(w:World)(u v:Value)(w':World):QM R w u v w'=(w'=w/\R (.tuple #[u,v]) w):=fj rfl
@[simp] theorem aKK(R:Value->World->Prop)(w:World)(u v:Value)(w':World):VO R w u v w'=(w'=w/\R (.tuple #[v,u]) w):=fj rfl
theorem aE9(P:Program)(n:Nat)(R:Value->World->Prop)(f:Nat->Value)(w:World)(a:Nat)(bO:TypeId):
  jI P n #[.cell a bO] f w R=As P bO (gb n f (.tmp a)) w (VN R w):=by
 show _=fN _ _;unfold jI fN;simp only[yu,List.mapM_toArray,List.mapM_cons,List.mapM_nil,Gk,Qt];simp only[Sem.run_bind,Sem.run_pure,Sem.run_map]
 cases H:(asAddr (if a<n then f a else undef)).run P w with
 |halt h ai=>simp
 |ok bp ai=>
  simp only[Result.andThen_ok]
  cases I:(loadVar bO bp).run P ai with
  |halt h aC=>simp
  |ok v aC=>
   apply propext;simp[VN]
   grind
theorem aE_(P:Program)(n:Nat)(R:Value->World->Prop)(f:Nat->Value)(w:World)(t a:Nat)(bO:TypeId):
  jI P n #[.cell a bO,.tmp t] f w R=As P bO (gb n f (.tmp a)) w (VO R w (gb n f (.tmp t))):=by
 show _=fN _ _;unfold jI fN;simp only[yu,List.mapM_toArray,List.mapM_cons,List.mapM_nil,Gk,Qt];simp only[Sem.run_bind,Sem.run_pure,Sem.run_map,Result.andThen_ok]
 cases H:(asAddr (if a<n then f a else undef)).run P w with
 |halt h ai=>simp
 |ok bp ai=>
  simp only[Result.andThen_ok]
  cases I:(loadVar bO bp).run P ai with
  |halt h aC=>simp
  |ok v aC=>
   apply propext;simp[VO]
   grind
def N_(P:Program)(bO:TypeId)(y:Value)(R:Value->World->Prop)(w:World)(v:Value)(w':World):Prop:=As P bO y w' (QM R w v)
@[simp] theorem aKL(P:Program)(bO:TypeId)(y:Value)(R:Value->World->Prop)(w:World)(v:Value)(w':World):N_ P bO y R w v w'=As P bO y w' (QM R w v):=fj rfl
theorem aE'(P:Program)(n:Nat)(R:Value->World->Prop)(f:Nat->Value)(w:World)(a b:Nat)(adl kT:TypeId):
  jI P n #[.cell a adl,.cell b kT] f w R=As P adl (gb n f (.tmp a)) w (N_ P kT (gb n f (.tmp b)) R w):=by
 show _=fN _ _;unfold jI fN;simp only[yu,List.mapM_toArray,List.mapM_cons,List.mapM_nil,Gk,Qt];simp only[Sem.run_bind,Sem.run_pure,Sem.run_map]
 cases H:(asAddr (if a<n then f a else undef)).run P w with
 |halt h ai=>simp
 |ok bp ai=>
  simp only[Result.andThen_ok]
  cases I:(loadVar adl bp).run P ai with
  |halt h aC=>simp
  |ok v aC=>
   simp only[Result.andThen_ok];unfold N_ As fN;simp only[Sem.run_bind]
   cases af:(asAddr (if b<n then f b else undef)).run P aC with
   |halt h be=>simp
   |ok aFa be=>
    simp only[Result.andThen_ok]
    cases aU:(loadVar kT aFa).run P be with
    |halt h bw=>simp
    |ok u bw=>
     apply propext;simp[QM]
     grind
def AJ(l:List Value):Nat->Value:=λi=>l.getD i undef
@[simp] theorem aKM(l:List Value)(i:Nat):AJ l i=l.getD i undef:=fj rfl
theorem WP(args:Array Value)(n:Nat)(h:args.size<=n):args++Array.replicate (n - args.size) undef=jH n (AJ args.toList):=by
 apply Array.ext_getElem?;intro i;rw[LQ n (AJ args.toList) i,Array.getElem?_append];unfold AJ
 grind
theorem ME{P:Program}{n:Nat}{fn:Func}{f:Nat->Value}{R:Value->World->Prop}:∀(ms:List Nat) (w:World),tV ms w (λw=>jI P n fn.results f w R)->LeavesInM Fence.wide 0 P fn (jH n f) (λe w'=>∃v,e=.returned v/\R v w') (iJ ms++[]) .returning w
 |[],w,h=>by
  obtain⟨v,H,I⟩:=h;exact⟨v,H,v,rfl,I⟩
 |L::ms,w,h=>⟨by simp,.inl ⟨L,_,rfl,run_takeDeferred h.1,ME ms _ h.2⟩⟩
theorem ZC{P:Program}{g:FuncId}{fn:Func}{c:Code}{args:Array Value}{w:World}{R:Value->World->Prop}{n:Nat}(bU:P.funcs[g]? =some fn)(av:fn.ntmps=n)(V:fn.body=some c)(am:args.size<=n)
  (h:∀aZ:Value->World->Prop,(∀v w',R v w'->aZ v w')->dH P n (yM P n fn aZ) c [] (AJ args.toList) w):aP P g args w R:=by
 replace h:=h R λ_ _ h=>h;refine(callsIn_wide (n:=0)).1 (callsIn_of_wp_marks bU V trivial ?_ rfl);subst av;rw[WP args _ am];refine wpIn_mono (dH.kj (cx:=⟨none,0,[]⟩) _ _ _ _ _ (.inl rfl) h) ?_;rintro e a w' ⟨ms,f,rfl,aq⟩
 cases e
 case normal=>exact ME ms w' aq
 case ret=>exact ME ms w' aq
 all_goals exact aq.elim
theorem bn{P:Program}{g:FuncId}{fn:Func}{c:Code}{args:Array Value}{w:World}{R:Value->World->Prop}{n:Nat}(bU:P.funcs[g]? =some fn)(av:fn.ntmps=n)(h:∀aZ:Value->World->Prop,(∀v w',R v w'->aZ v w')->dH P n (yM P n fn aZ) c [] (AJ args.toList) w)(V:fn.body=some c:=by exact rfl)(am:args.size<=n:=by simp):aP P g args w R:=ZC bU av V am h
theorem nt{P:Program}{cc:Operand->Value}{o:Oper}{w:World}{K:Value->World->Prop}{s:Sem Value}(h:execOp cc o=(do pure (.value (<-s)))):dG P cc o w K=fN (s.run P w) K:=by
 unfold dG;rw[h];simp only[Sem.run_bind,Sem.run_pure]
 cases s.run P w<;>rfl
theorem adm{P:Program}{cc:Operand->Value}{o:Oper}{w:World}{K:Value->World->Prop}{s:Sem Unit}(h:execOp cc o=(do s;pure .skip)):dG P cc o w K=Gu (s.run P w) (K undef):=by
 unfold dG;rw[h];simp only[Sem.run_bind,Sem.run_pure]
 cases s.run P w<;>rfl
section
variable(P:Program)(cc:Operand->Value)(w:World)(K:Value->World->Prop)(d:Option Tmp)(bO:TypeId)(pos:String)(eC:Array Edge)(g:Option (Nat×Bool))
@[simp] theorem aKN(x:Operand):dG P cc ⟨d,.move x,bO,pos,eC,g⟩ w K=K (cc x) w:=fj rfl
@[simp] theorem aKO(x:Operand):dG P cc ⟨d,.assign x,bO,pos,eC,g⟩ w K=K (cc x) w:=fj rfl
@[simp] theorem aKP(c a b:Operand):dG P cc ⟨d,.pick c a b,bO,pos,eC,g⟩ w K=fN ((do pure (if<-asBool (cc c)then cc a else cc b):Sem Value).run P w) K:=
 nt (by simp[execOp])
@[simp] theorem aKQ(e:TypeId):dG P cc ⟨d,.alloc e,bO,pos,eC,g⟩ w K=QK P e w K:=nt rfl
@[simp] theorem aKR(e:TypeId)(x:Operand):dG P cc ⟨d,.box e x,bO,pos,eC,g⟩ w K=fN ((Instr.box e (cc x)).run P w) K:=nt rfl
@[simp] theorem aKS(t:TypeId)(l:List (Nat×Operand)):dG P cc ⟨d,.build t l.toArray,bO,pos,eC,g⟩ w K=hX P t (l.map λ(i,x)=>(i,cc x)) w K:=nt (by simp[execOp])
@[simp] theorem aoY(t:TypeId)(m:Nat)(l:List (Nat×Operand)):dG P cc ⟨d,.buildSlice t m l.toArray,bO,pos,eC,g⟩ w K=fN ((Instr.buildSlice t m (l.map λ(i,x)=>(i,cc x)).toArray).run P w) K:=nt (by simp[execOp])
@[simp] theorem aKT(t:TypeId)(x:Operand):dG P cc ⟨d,.load t x,bO,pos,eC,g⟩ w K=IT P t (cc x) w K:=nt rfl
@[simp] theorem aKU(t:TypeId)(a x:Operand):dG P cc ⟨d,.store t a x,bO,pos,eC,g⟩ w K=LS P t (cc a) (cc x) w K:=adm rfl
@[simp] theorem aKV(op:BinOp)(t aFb:TypeId)(x y:Operand):dG P cc ⟨d,.binOp op t x y aFb,bO,pos,eC,g⟩ w K=fN ((do eqGuard op t x y (cc x) (cc y);binOp op t (cc x) (cc y):Sem Value).run P w) K:=nt rfl
@[simp] theorem aKW(op:UnOp)(t:TypeId)(x:Operand):dG P cc ⟨d,.unOp op t x,bO,pos,eC,g⟩ w K=fN ((Op.unary op (cc x)).run P w) K:=nt rfl
@[simp] theorem aKX(s t:TypeId)(x:Operand):dG P cc ⟨d,.convert s t x,bO,pos,eC,g⟩ w K=fN ((convert s t (cc x)).run P w) K:=nt rfl
@[simp] theorem aKY(t:TypeId)(x:Operand)(l h m:Option Operand):dG P cc ⟨d,.slice t x l h m,bO,pos,eC,g⟩ w K=fN ((Instr.sliceAt t (cc x) (l.map cc) (h.map cc) (m.map cc)).run P w) K:=nt rfl
@[simp] theorem aKZ(t:TypeId)(x:Operand)(i:Nat):dG P cc ⟨d,.fieldAddr t x i,bO,pos,eC,g⟩ w K=fN ((Instr.fieldAt t (cc x) i).run P w) K:=nt rfl
@[simp] theorem aK0(t:TypeId)(x:Operand)(i:Nat):dG P cc ⟨d,.field t x i,bO,pos,eC,g⟩ w K=fN ((Instr.field t (cc x) i).run P w) K:=nt rfl
@[simp] theorem aK1(t:TypeId)(x i:Operand):dG P cc ⟨d,.indexAddr t x i,bO,pos,eC,g⟩ w K=fN ((Instr.indexAt t (cc x) (cc i)).run P w) K:=nt rfl
@[simp] theorem aK2(t:TypeId)(x i:Operand):dG P cc ⟨d,.index t x i,bO,pos,eC,g⟩ w K=fN ((Instr.index t (cc x) (cc i)).run P w) K:=nt rfl
@[simp] theorem aK3(x:Operand)(i:Nat):dG P cc ⟨d,.extract x i,bO,pos,eC,g⟩ w K=fN ((Instr.extract (cc x) i).run P w) K:=nt rfl
@[simp] theorem aK4(t:TypeId)(J:Option Operand):dG P cc ⟨d,.makeMap t J,bO,pos,eC,g⟩ w K=fN ((Instr.makeMap t (J.map cc)).run P w) K:=nt rfl
@[simp] theorem aK5(fn:Fn)(l m:List Operand):dG P cc ⟨d,.makeFunc fn l.toArray m.toArray,bO,pos,eC,g⟩ w K=fN ((Instr.makeFunc fn (l.map cc).toArray (m.map cc).toArray).run P w) K:=nt (by simp[execOp])
@[simp] theorem aK6(t:TypeId)(x:Operand):dG P cc ⟨d,.makeInterface t x,bO,pos,eC,g⟩ w K=fN ((Instr.makeInterface t (cc x)).run P w) K:=nt rfl
@[simp] theorem aK7(t:TypeId)(x:Operand):dG P cc ⟨d,.sliceToArrayPointer t x,bO,pos,eC,g⟩ w K=fN ((Instr.arrayAt t (cc x)).run P w) K:=nt rfl
@[simp] theorem aK8(t:TypeId)(x i:Operand)(ok:Bool):dG P cc ⟨d,.lookup t x i ok,bO,pos,eC,g⟩ w K=fN ((Instr.lookup t (cc x) (cc i) ok).run P w) K:=nt rfl
@[simp] theorem aK9(t:TypeId)(m k x:Operand):dG P cc ⟨d,.mapUpdate t m k x,bO,pos,eC,g⟩ w K=Gu ((Instr.mapUpdate t (cc m) (cc k) (cc x)).run P w) (K undef):=adm rfl
@[simp] theorem aK_(t:TypeId)(m k x:Operand):dG P cc ⟨d,.insert t m k x,bO,pos,eC,g⟩ w K=Gu ((Instr.mapUpdate t (cc m) (cc k) (cc x)).run P w) (K undef):=adm rfl
@[simp] theorem aK'(t:TypeId)(x y:Operand):dG P cc ⟨d,.makeSlice t x y,bO,pos,eC,g⟩ w K=fN ((Instr.makeSlice t (cc x) (cc y)).run P w) K:=nt rfl
def Eb(P:Program)(v:Value)(w:World)(K:Value->World->Prop):Prop:=dG P (λ_=>v) ⟨none,.nilCheck (.tmp 0),0,"",#[],none⟩ w K
@[simp] theorem aLa(x:Operand):dG P cc ⟨d,.nilCheck x,bO,pos,eC,g⟩ w K=Eb P (cc x) w K:=by
 unfold Eb dG;rfl
@[simp] theorem aLb(a:Addr):Eb P (.pointer (some a)) w K=K (.pointer (some a)) w:=by
 unfold Eb dG;simp[execOp]
@[simp] theorem aLc(t:TypeId)(v:Value):Eb P (.iface t v) w K=K (.iface t v) w:=by
 unfold Eb dG;simp[execOp]
@[simp] theorem aLd(f:FuncId)(x y:Array Value):Eb P (.func (.func f) x y) w K=K (.func (.func f) x y) w:=by
 unfold Eb dG;simp[execOp]
def pQ(P:Program)(b:Builtin)(fJ:Array TypeId)(bO:TypeId)(args:Array Value)(w:World)(K:Value->World->Prop):Prop:=
 fN ((match b with
  |.append=>Builtin.append_ fJ bO args
  |.cap=>Builtin.cap_ fJ bO args
  |.clear=>Builtin.clear_ fJ bO args
  |.copy=>Builtin.copy_ fJ bO args
  |.delete=>Builtin.delete_ fJ bO args
  |.len=>Builtin.len_ fJ bO args
  |.max=>Builtin.max_ fJ bO args
  |.min=>Builtin.min_ fJ bO args
  |_=>stuck "no":Sem Value).run P w) K
theorem IU(b:Builtin)(V:b=.append\/b=.cap\/b=.clear\/b=.copy\/b=.delete\/b=.len\/b=.max\/b=.min)(l:List Operand)(fJ:Array TypeId):
  dG P cc ⟨d,.call ⟨.builtin b,l.toArray,fJ⟩,bO,pos,eC,g⟩ w K=pQ P b fJ bO (l.map cc).toArray w K:=by
 unfold pQ;refine nt ?_;rcases V with rfl|rfl|rfl|rfl|rfl|rfl|rfl|rfl<;>simp[execOp,resolve,invoke,builtin]
@[simp] theorem aLe(l:List Operand)(fJ:Array TypeId):dG P cc ⟨d,.call ⟨.builtin .append,l.toArray,fJ⟩,bO,pos,eC,g⟩ w K=pQ P .append fJ bO (l.map cc).toArray w K:=IU _ _ _ _ _ _ _ _ _ _ (by simp) _ _
@[simp] theorem aLf(l:List Operand)(fJ:Array TypeId):dG P cc ⟨d,.call ⟨.builtin .copy,l.toArray,fJ⟩,bO,pos,eC,g⟩ w K=pQ P .copy fJ bO (l.map cc).toArray w K:=IU _ _ _ _ _ _ _ _ _ _ (by simp) _ _
@[simp] theorem aLg(l:List Operand)(fJ:Array TypeId):dG P cc ⟨d,.call ⟨.builtin .delete,l.toArray,fJ⟩,bO,pos,eC,g⟩ w K=pQ P .delete fJ bO (l.map cc).toArray w K:=IU _ _ _ _ _ _ _ _ _ _ (by simp) _ _
@[simp] theorem aLh(l:List Operand)(fJ:Array TypeId):dG P cc ⟨d,.call ⟨.builtin .clear,l.toArray,fJ⟩,bO,pos,eC,g⟩ w K=pQ P .clear fJ bO (l.map cc).toArray w K:=IU _ _ _ _ _ _ _ _ _ _ (by simp) _ _
@[simp] theorem aLi(x:Operand)(t:TypeId):dG P cc ⟨d,.call ⟨.builtin .len,#[x],#[t]⟩,bO,pos,eC,g⟩ w K=fN ((Builtin.len_ #[t] bO #[cc x]).run P w) K:=(IU P cc w K d bO pos eC g .len (by simp) [x] #[t])
@[simp] theorem aLj(x y:Operand)(fJ:Array TypeId):dG P cc ⟨d,.call ⟨.builtin .max,#[x,y],fJ⟩,bO,pos,eC,g⟩ w K=fN ((Builtin.max_ fJ bO #[cc x,cc y]).run P w) K:=(IU P cc w K d bO pos eC g .max (by simp) [x,y] fJ)
@[simp] theorem aLk(x y:Operand)(fJ:Array TypeId):dG P cc ⟨d,.call ⟨.builtin .min,#[x,y],fJ⟩,bO,pos,eC,g⟩ w K=fN ((Builtin.min_ fJ bO #[cc x,cc y]).run P w) K:=(IU P cc w K d bO pos eC g .min (by simp) [x,y] fJ)
def tx(P:Program)(CB:Value)(args:List Value)(w:World)(K:Value->World->Prop):Prop:=
 match(do let d<-Deferred.ofValue CB args.toArray;invoke d.target d.args:Sem Go.Next).run P w with
 |.ok (.value v) w'=>K v w'
 |.ok .skip w'=>K undef w'
 |.ok (.enter g args) w'=>aP P g args w' K
 |.ok (.round l g tmps x y) w'=>FP P l g tmps x y w' K
 |_=>False
@[simp] theorem aLl(x:Operand)(l:List Operand)(fJ:Array TypeId):dG P cc ⟨d,.call ⟨.value x,l.toArray,fJ⟩,bO,pos,eC,g⟩ w K=tx P (cc x) (l.map cc) w K:=by
 unfold dG tx;simp[execOp,resolve]
@[simp] theorem aix(f:FuncId)(args:List Value)(h:(callFunc f args.toArray).run P w=.ok (.enter f args.toArray) w):tx P (.func (.func f) #[] #[]) args w K=aP P f args.toArray w K:=by
 unfold tx;simp[Deferred.ofValue,invoke,h]
theorem EK(f:FuncId)(c:List Value)(args:List Value)(h:(callFunc f (args++c).toArray).run P w=.ok (.enter f (args++c).toArray) w):tx P (.func (.func f) #[] c.toArray) args w K=aP P f (args++c).toArray w K:=by
 unfold tx;simp[Deferred.ofValue,invoke,h]
def WK(P:Program)(l:Nat)(args:Array Value)(w:World)(R:Value->World->Prop):Prop:=YieldAt Fence.wide 0 P l args w λe w'=>∃v,e=.returned v/\R v w'
theorem MQ{l:Nat}{args:List Value}{R:Value->World->Prop}(h:WK P l args.toArray w R)(r:∀v w',R v w'->K v w'):tx P (.func (.yield l) #[] #[]) args w K:=by
 obtain⟨fn,tmps,x,y,ar,ap⟩:=h;unfold tx;simp[Deferred.ofValue,invoke,ar];exact FP.mono r ap
end
attribute [simp] aE5 aE6 aE7 aE8 aE9 aE_ aE'
section
variable{P:Program}{w:World}{t e bO:TypeId}{z:Value}{bytes:Nat}{K:Value->World->Prop}
theorem FW{fJ:Array TypeId}{args:Array Value}{v:Value}{w':World}(h:(Builtin.append_ fJ bO args).run P w=.ok v w')(r:K v w'):pQ P .append fJ bO args w K:=by
 show fN _ _;simp only[h];exact r
theorem Iq(bl:tM P t e z bytes){v:Value}{n:Nat}{xs:List Value}{u:Value}
  (eT:w.ownsRow 0 e 1 v n xs)(H:u.oneCell'=true)(rU:n+1<=maxLen)(rV:(n+1)*bytes<=140737488355328)
  (h:∀W w',w'.ownsRow 0 e 1 W (n+1) (xs++[u])->D (λk=>v.ownBlock=some k) w w'->(W.ownBlock=v.ownBlock\/fZ w.1.size W)->K W w'):
  pQ P .append #[t,t] bO #[v,.slice (some ⟨w.1.size,0,none⟩) 1 1] (w.alloc (.cells #[u] e)) K:=by
 obtain⟨W,w',ap,a',aX,bq⟩:=aoC bl bO eT H rU rV;exact FW ap (h W w' a' aX bq)
theorem Jj(bl:tM P t e z bytes){v:Value}{n:Nat}{xs:List Value}{y:Value}{m:Nat}{ys:List Value}
  (eT:w.ownsRow 0 e 1 v n xs)(ar:bD w y m ys)(aH:ys.length=m)(H:∀u∈ys,u.oneCell'=true)(rU:n+m<=maxLen)(rV:(n+m)*bytes<=140737488355328)
  (h:∀W w',w'.ownsRow 0 e 1 W (n+m) (xs++ys)->D (λk=>v.ownBlock=some k) w w'->(W.ownBlock=v.ownBlock\/fZ w.1.size W)->K W w'):
  pQ P .append #[t,t] bO #[v,y] w K:=by
 obtain⟨W,w',ap,a',aX,bq⟩:=Wu bl bO eT ar aH H rU rV;exact FW ap (h W w' a' aX bq)
end
section
variable(P:Program)(aM:Array Oper)(n:Nat)
def uJ(i:Nat)(f:Nat->Value)(w:World)(K:Value->World->Prop):Prop:=
 match aM[i]? with
 |none=>False
 |some o=>if Region.wanted o (yielded aM (jH n f))then dG P (gb n f) o w K else K undef w
def hW(i:Nat):Option Tmp:=(aM[i]?).bind (·.dst)
abbrev tG:=Nat×(Nat->Value)×Value
def IV(w:World)(aR:tG):Prop:=uJ P aM n aR.1 aR.2.1 w λW w'=>W=aR.2.2/\w'=w
def yx(Q:(Nat->Value)->World->Prop):List (Nat×Option (List Nat))->List tG->(Nat->Value)->World->Prop
 |[],_,f,w=>Q f w
 |(i,none)::cA,ae,f,w=>uJ P aM n i f w λv w'=>w'=w/\yx Q cA ((i,f,v)::ae) (gT f (hW aM i) v) w
 |(i,some fH)::cA,ae,f,w=>uJ P aM n i f w λv w'=>(∀aR∈ae,aR.1∈fH->IV P aM n w' aR)/\yx Q cA (ae.filter λaR=>decide (aR.1∈fH)) (gT f (hW aM i) v) w'
end
def dd(aM:Array Oper)(i j:Nat):Bool:=((Region.before aM).getD i 0).testBit j
theorem aFc(b':Array Nat)(b:Nat):∀(l:List Edge) (s:Nat),(l.foldl (λs e=>if Region.binds .any e then s|||2^e.on|||b'.getD e.on 0 else s) s).testBit b=true->
  s.testBit b=true\/∃e∈l,Region.binds .any e=true/\(e.on=b\/(b'.getD e.on 0).testBit b=true):=by
 intro l
 induction l with
 |nil=>intro s h;exact .inl h
 |cons e l bG=>
  intro s h;rw[List.foldl_cons]at h;rcases bG _ h with H|⟨dM,wa,V,ap⟩
  ·split at H
   ·grind
   ·exact .inl H
  grind
theorem adn(aM:Array Oper):∀(i:Nat) (o:Oper) (b:Nat),aM[i]? =some o->dd aM i b=true->
  ∃e∈o.after,Region.binds .any e=true/\(e.on=b\/(e.on<i/\dd aM e.on b=true)):=by
 have key:(Region.before aM).size=aM.size/\∀(i:Nat) (o:Oper) (b:Nat),i<aM.size->aM[i]? =some o->((Region.before aM).getD i 0).testBit b=true->
   ∃e∈o.after,Region.binds .any e=true/\(e.on=b\/(e.on<i/\((Region.before aM).getD e.on 0).testBit b=true)):=by
  unfold Region.before;refine Array.foldl_induction (motive:=λk (b':Array Nat)=>b'.size=k/\∀(i:Nat) (o:Oper) (b:Nat),i<k->aM[i]? =some o->(b'.getD i 0).testBit b=true->
   ∃e∈o.after,Region.binds .any e=true/\(e.on=b\/(e.on<i/\(b'.getD e.on 0).testBit b=true))) ⟨rfl,λi _ _ h=>absurd h (by omega)⟩ ?_
  rintro k b' ⟨aw,r⟩;refine⟨by simp[aw],λi o b aa aB V=> ?_⟩;have nN:∀j,j<b'.size->∀x:Nat,(b'.push x).getD j 0=b'.getD j 0:=λj F x=>by
   simp[Array.getElem?_push_lt F,F]
  by_cases US:i<k
  ·grind
  ·have aFd:i=k.1:=by omega
   subst aFd;have sL:aM[k.1]=o:=by
    have:=Array.getElem?_eq_getElem k.2;rw[aB]at this;exact(Option.some.inj this).symm
   have za:∀x:Nat,(b'.push x).getD k.1 0=x:=λx=>by rw[<-aw];simp
   rw[za,<-Array.foldl_toList]at V;rcases aFc b' b _ _ V with H|⟨e,aV,db,dk⟩
   ·simp at H
   grind
 intro i o b aB V;exact key.2 i o b (Array.getElem?_eq_some_iff.1 aB).1 aB V
theorem VP{aM:Array Oper}{listed:Array Bool}(T:∀j nS,aM[j]? =some nS->listed.getD j false=true->∀e∈nS.after,Region.binds .any e=true->listed.getD e.on false=true)(cL:listed.size=aM.size):
  ∀(i j:Nat),dd aM i j=true->listed.getD i false=true->listed.getD j false=true:=by
 intro i
 induction i using Nat.strongRecOn with
 |_ i bG=>
  intro j h aa;have aO:i<aM.size:=by
   rcases Nat.lt_or_ge i listed.size with h'|h'
   ·omega
   ·grind
  obtain⟨e,aV,V,ap⟩:=adn aM i _ j (Array.getElem?_eq_getElem aO) h
  grind
def Cg(o:Oper):Bool:=match o.op with
 |.move _|.assign _|.pick ..|.load ..|.nilCheck _|.binOp ..|.unOp ..|.convert ..|.slice ..|.fieldAddr ..|.field ..|.indexAddr ..|.index ..|.extract ..|.lookup ..|.makeInterface ..|.makeFunc ..|.build ..|.sliceToArrayPointer ..=>false
 |.call c=>(match c.callee with|.builtin b=> !(b==.cap||b==.len||b==.max||b==.min)|_=>true)
 |_=>true
def w_(aM:Array Oper)(E:List Nat):List Nat->Option Nat->List (Nat×Option (List Nat))->Bool
 |_,_,[]=>true
 |p,o',(i,m)::cA=>
  (decide (i<aM.size)&&(aM.getD i default).after.all (λe=> !Region.binds .any e||p.contains e.on))&&cA.all (λk=>k.1 !=i&& !dd aM i k.1)&&
  (match m with
  |none=> !Cg (aM.getD i default)&& !E.contains i&&(match o' with|none=>true|some e=>dd aM i e)
  |some fH=>E.contains i&&p.all (λk=>fH.contains k||dd aM i k||E.contains k||p.any λe=>E.contains e&&dd aM e k))&&
  w_ aM E (i::p) (match m with|none=>o'|some _=>some i) cA
def pH(nn:List (Nat×Option (List Nat))):List Nat:=(nn.filter λx=>x.2.isSome).map (·.1)
def ado(aM:Array Oper):Bool:=
 let all:=List.range aM.size
 all.all (λi=>all.all λj=>i==j||(match hW aM i,hW aM j with|some d,some e=>d !=e|_,_=>true))&&
 all.all (λi=>all.all λj=>match hW aM j with
  |some d=> !((aM.getD i default).looksAt aM).contains d||(i !=j&&(dd aM i j||dd aM j i))
  |none=>true)&&
 all.all (λi=> !(match(aM.getD i default).op with|.select ..=>true|_=>false))
def adp(aM:Array Oper)(E:List Nat)(nn:List (Nat×Option (List Nat))):Bool:=
 (List.range aM.size).all (λi=>(nn.map (·.1)).contains i)&&w_ aM E [] none nn
def LU(aM:Array Oper):Nat->List Nat->List (List Nat)
 |0,_=>[[]]
 |k+1,IW=>if IW.isEmpty then[[]]else
  (IW.filter λe=>IW.all λdM=>dM==e|| !dd aM e dM).flatMap λe=>(LU aM k (IW.filter (·!=e))).map (e::·)
def IX(aM:Array Oper)(qm:List (List (Nat×Option (List Nat)))):Bool:=
 let E:=pH (qm.headD [])
 ado aM&& !qm.isEmpty&&qm.all (adp aM E)&&(LU aM E.length E).all λs=>qm.any λpl=>pH pl==s
def Ch(aM:Array Oper):List Nat->Prop
 |[]=>True
 |i::p=>(i<aM.size/\∀e∈(aM.getD i default).after,Region.binds .any e=true->e.on∈p)/\Ch aM p
theorem adq{aM:Array Oper}{i:Nat}{p:List Nat}(H:i<aM.size)(h:(aM.getD i default).after.all (λe=> !Region.binds .any e||p.contains e.on)=true)(aB:Ch aM p):Ch aM (i::p):=by
 refine⟨⟨H,λe aV V=> ?_⟩,aB⟩;have:=Array.all_eq_true'.1 h e aV;simpa[V]using this
structure VQ(aM:Array Oper):Prop where
 dst:∀i j d,hW aM i=some d->hW aM j=some d->i=j
 kt:∀i o j d,aM[i]? =some o->hW aM j=some d->d∈o.looksAt aM->i≠j/\(dd aM i j=true\/dd aM j i=true)
 aFe:∀(i:Nat) (o:Oper) (cs:Array SelectCase) (b:Bool),aM[i]? =some o->o.op≠.select cs b
theorem adr{aM:Array Oper}{i:Nat}{d:Tmp}(h:hW aM i=some d):i<aM.size:=by
 unfold hW at h
 grind
theorem LV{aM:Array Oper}{i:Nat}{o:Oper}(h:aM[i]? =some o):i<aM.size:=(Array.getElem?_eq_some_iff.1 h).1
theorem aFf{aM:Array Oper}{i:Nat}{o:Oper}(h:aM[i]? =some o):aM.getD i default=o:=by
 simp_all
theorem aFg{aM:Array Oper}(h:ado aM=true):VQ aM:=by
 simp only[ado,Bool.and_eq_true,List.all_eq_true,List.mem_range]at h;obtain⟨⟨H,I⟩,af⟩:=h;refine⟨λi j d aa F=> ?_,λi o j d aB F bi=> ?_,λi o cs b aB aV=> ?_⟩
 ·have:=H i (adr aa) j (adr F)
  grind
 ·have:=I i (LV aB) j (adr F)
  simp_all
 ·have:=af i (LV aB)
  simp_all
section
variable{P:Program}{aM:Array Oper}{n:Nat}
theorem anL{i:Nat}{f f':Nat->Value}{w:World}{K:Value->World->Prop}(ok:VQ aM)(h:∀o,aM[i]? =some o->∀t∈o.looksAt aM,f t=f' t):uJ P aM n i f w K=uJ P aM n i f' w K:=by
 unfold uJ
 cases aB:aM[i]? with
 |none=>rfl
 |some o=>
  have al:=h o aB;have aV:execOp (gb n f) o=execOp (gb n f') o:=by
   refine execOp_congr o (λcs b=>ok.aFe i o cs b aB) λx M=> ?_
   cases x with
   |tmp t=>
    have bd:t∈o.looksAt aM:=by
     unfold Oper.looksAt;rw[List.mem_append];exact .inl (List.mem_filterMap.2 ⟨.tmp t,by simpa using M,rfl⟩)
    simp only[Qt,al t bd]
   |_=>rfl
  have bH:Region.wanted o (yielded aM (jH n f))=Region.wanted o (yielded aM (jH n f')):=by
   unfold Region.wanted
   cases aF:o.guard with
   |none=>rfl
   |some g=>
    obtain⟨j,uK⟩:=g;simp only;congr 1;unfold yielded
    cases bi:(aM[j]?).bind (·.dst)with
    |none=>rfl
    |some d=>
     have bd:d∈o.looksAt aM:=by
      unfold Oper.looksAt;rw[List.mem_append];refine .inr ?_;simp[aF,bi]
     simp only[Option.bind_some,LQ,al d bd]
  simp only[bH,dG,aV]
theorem aFh{cc:Operand->Value}{o:Oper}{w w':World}{g:FuncId}{args:Array Value}(h:Cg o=false):(execOp cc o).run P w≠.ok (.enter g args) w':=by
 intro aV;have aS:∀s:Sem Value,(do pure (Next.value (<-s)):Sem Next).run P w≠.ok (.enter g args) w':=λs e=>by
  simp only[Sem.run_bind,Sem.run_pure]at e
  cases aw:s.run P w<;>rw[aw]at e<;>simp[Result.andThen]at e
 have an:∀s:Sem Unit,(do s;pure Next.skip:Sem Next).run P w≠.ok (.enter g args) w':=λs e=>by
  simp only[Sem.run_bind,Sem.run_pure]at e
  cases aw:s.run P w<;>rw[aw]at e<;>simp[Result.andThen]at e
 obtain⟨dst,op,type,pos,after,guard⟩:=o
 cases op<;>try(simp[Cg]at h;done)
 case call c=>
  obtain⟨callee,aFi,fJ⟩:=c
  cases callee
  case builtin b=>
   have V:b=.cap\/b=.len\/b=.max\/b=.min:=by
    revert h;cases b<;>simp[Cg]
   revert aV;rcases V with rfl|rfl|rfl|rfl<;>simp only[execOp,resolve,invoke,builtin,Sem.run_bind,Sem.run_pure,Result.andThen_ok]<;>intro aV<;>simp_all
  all_goals simp[Cg]at h
 case nilCheck x=>
  cases M:cc x
  case pointer a=>
   cases a<;>simp[execOp,M,runtimePanic]at aV
  case func fn first aFj=>
   cases fn
   case method name=>
    simp only[execOp,M]at aV;split at aV
    ·simp[runtimePanic]at aV
    ·revert aV;simp only[Sem.run_bind,run_program,Result.andThen_ok];rename_i t v _
     cases(nilAhead (P.types.size+Made.depth) t v name).run P w with
     |halt h w=>simp
     |ok b ai=>
      simp only[Result.andThen_ok];split<;>simp
    ·simp at aV
   all_goals simp[execOp,M]at aV
  all_goals simp[execOp,M,runtimePanic]at aV
 case pick c a b=>exact aS (do pure (if<-asBool (cc c)then cc a else cc b)) (by simpa[execOp]using aV)
 all_goals first
  |exact aS _ aV
  |exact an _ aV
  |(simp[execOp]at aV;done)
theorem aFk{cc:Operand->Value}{o:Oper}{w w':World}{l:Nat}{g:FuncId}{tmps:Array Value}{x y:Code}(h:Cg o=false):(execOp cc o).run P w≠.ok (.round l g tmps x y) w':=by
 intro aV;have aS:∀s:Sem Value,(do pure (Next.value (<-s)):Sem Next).run P w≠.ok (.round l g tmps x y) w':=λs e=>by
  simp only[Sem.run_bind,Sem.run_pure]at e
  cases aw:s.run P w<;>rw[aw]at e<;>simp[Result.andThen]at e
 have an:∀s:Sem Unit,(do s;pure Next.skip:Sem Next).run P w≠.ok (.round l g tmps x y) w':=λs e=>by
  simp only[Sem.run_bind,Sem.run_pure]at e
  cases aw:s.run P w<;>rw[aw]at e<;>simp[Result.andThen]at e
 obtain⟨dst,op,type,pos,after,guard⟩:=o
 cases op<;>try(simp[Cg]at h;done)
 case call c=>
  obtain⟨callee,aFi,fJ⟩:=c
  cases callee
  case builtin b=>
   have V:b=.cap\/b=.len\/b=.max\/b=.min:=by
    revert h;cases b<;>simp[Cg]
   revert aV;rcases V with rfl|rfl|rfl|rfl<;>simp only[execOp,resolve,invoke,builtin,Sem.run_bind,Sem.run_pure,Result.andThen_ok]<;>intro aV<;>simp_all
  all_goals simp[Cg]at h
 case nilCheck x=>
  cases M:cc x
  case pointer a=>
   cases a<;>simp[execOp,M,runtimePanic]at aV
  case func fn first aFj=>
   cases fn
   case method name=>
    simp only[execOp,M]at aV;split at aV
    ·simp[runtimePanic]at aV
    ·revert aV;simp only[Sem.run_bind,run_program,Result.andThen_ok];rename_i t v _
     cases(nilAhead (P.types.size+Made.depth) t v name).run P w with
     |halt h w=>simp
     |ok b ai=>
      simp only[Result.andThen_ok];split<;>simp
    ·simp at aV
   all_goals simp[execOp,M]at aV
  all_goals simp[execOp,M,runtimePanic]at aV
 case pick c a b=>exact aS (do pure (if<-asBool (cc c)then cc a else cc b)) (by simpa[execOp]using aV)
 all_goals first
  |exact aS _ aV
  |exact an _ aV
  |(simp[execOp]at aV;done)
theorem aFl{i:Nat}{f:Nat->Value}{w:World}{X:Value->Prop}(T:Cg (aM.getD i default)=false)(h:uJ P aM n i f w λv w'=>w'=w/\X v):∃v,IV P aM n w (i,f,v)/\X v:=by
 unfold uJ at h;unfold IV uJ
 cases aB:aM[i]? with
 |none=>rw[aB]at h;exact h.elim
 |some o=>
  rw[aFf aB]at T;simp only[aB]at h⊢;split at h
  ·rename_i bH;unfold dG at h;split at h
   ·rename_i v w' ap;refine⟨v,?_,h.2⟩;rw[if_pos bH];unfold dG
    grind
   ·rename_i w' ap;refine⟨undef,?_,h.2⟩;rw[if_pos bH];unfold dG
    grind
   ·rename_i g args w' ap;exact absurd ap (aFh T)
   ·rename_i l g tmps x y w' ap;exact absurd ap (aFk T)
   ·exact h.elim
  grind
theorem anM{i:Nat}{f:Nat->Value}{w:World}{Q:Exit->Act->World->Prop}{K:Value->World->Prop}{K':Act->World->Prop}(cx:mw)(ms:List Nat)(r:∀v w',K v w'->K' (hc cx n ms (gT f (hW aM i) v)) w')(h:uJ P aM n i f w K):wpOpIn cx.aR cx.m P aM Q i K' (hc cx n ms f) w:=by
 unfold uJ at h;unfold wpOpIn
 cases aB:aM[i]? with
 |none=>rw[aB]at h;exact h.elim
 |some o=>
  have bi:hW aM i=o.dst:=by simp[hW,aB]
  rw[bi]at r;simp only[aB]at h⊢;split at h
  ·rename_i bH;rw[if_pos (show Region.wanted o (yielded aM (hc cx n ms f).tmps)=true from bH)];exact h.kj r
  ·rename_i bH;rw[if_neg (show¬Region.wanted o (yielded aM (hc cx n ms f).tmps)=true from bH),GO];exact⟨λg _=>cx.fn g,r _ _ h⟩
structure ads(P:Program)(aM:Array Oper)(n:Nat)(p:List Nat)(ae:List tG)(aR:Nat->Value)(w:World)(listed:Array Bool)(f0 f:Nat->Value):Prop where
 size:listed.size=aM.size
 LW:∀j nS,aM[j]? =some nS->listed.getD j false=true->∀e∈nS.after,Region.binds .any e=true->listed.getD e.on false=true
 VR:∀i,listed.getD i false=true->i∈p
 QN:∀i∈p,listed.getD i false=false->∃cY v,(i,cY,v)∈ae/\IV P aM n w (i,cY,v)/\(∀d,hW aM i=some d->aR d=v)/\∀o,aM[i]? =some o->∀t∈o.looksAt aM,
  ((∃j,hW aM j=some t/\dd aM i j=true)->cY t=aR t)/\((¬∃j,hW aM j=some t/\dd aM i j=true)->cY t=f0 t)
 QO:∀t i,i∈p->listed.getD i false=false->hW aM i=some t->f t=f0 t
 Ec:∀t,(∀i∈p,hW aM i=some t->listed.getD i false=true)->f t=aR t
 IY:∀t,(∀i∈p,hW aM i≠some t)->aR t=f0 t
theorem anN{Q:(Nat->Value)->World->Prop}(ok:VQ aM){E:List Nat}{o':Option Nat}{listed:Array Bool}{f0 f:Nat->Value}{w:World}:∀(s:List (Nat×Option (List Nat))) (p:List Nat) (ae:List tG) (aR:Nat->Value),
  w_ aM E p o' s=true->Ch aM p->(∀i∈p,∀k∈s,i≠k.1/\dd aM i k.1=false)->(∀k∈s,listed.getD k.1 false=false)->yx P aM n Q s ae aR w->ads P aM n p ae aR w listed f0 f->
  ∃s' gW Ig E_,w_ aM E gW o' s'=true/\pH s'=pH s/\(∀i∈gW,i∈p\/E.contains i=false)/\Ch aM gW/\(∀i∈gW,∀k∈s',i≠k.1/\dd aM i k.1=false)/\(∀k∈s',listed.getD k.1 false=false)/\yx P aM n Q s' Ig E_ w/\ads P aM n gW Ig E_ w listed f0 f/\
   (∀i,(i∈p\/i∈s.map (·.1))->(i∈gW\/i∈s'.map (·.1)))/\(s'=[]\/∃e fH cA,s'=(e,some fH)::cA):=by
 intro s
 induction s with
 |nil=>grind
 |cons x s bG=>
  obtain⟨i,m⟩:=x;intro p ae aR H yy I af aU bC
  cases m with
  |some fH=>grind
  |none=>
   simp only[w_,Bool.and_eq_true,decide_eq_true_eq,List.all_eq_true,Bool.not_eq_true',bne_iff_ne]at H;obtain⟨⟨⟨⟨aa,adt⟩,F_⟩,⟨⟨aFm,Gv⟩,_⟩⟩,QP⟩:=H;have F_:∀k∈s,k.1≠i/\dd aM i k.1=false:=by
    intro k r;have:=F_ k r;simpa using this
   obtain⟨v,aw,yZ⟩:=aFl aFm aU;have Ed:i∉p:=λah=>(I i ah (i,none) (by simp)).1 rfl;have aLm:listed.getD i false=false:=af (i,none) (by simp);have aiz:∀d,hW aM i=some d->aR d=f0 d:=λd bi=>bC.IY d λj F ll=>Ed (by rw[ok.dst i j d bi ll];exact F);have uL:∀t,hW aM i≠some t->gT aR (hW aM i) v t=aR t:=λt bd=>by unfold gT;rw[if_neg bd]
   have LX:∀t,hW aM i=some t->gT aR (hW aM i) v t=v:=λt bd=>by unfold gT;rw[if_pos bd]
   obtain⟨s',gW,Ig,E_,a',aFn,OY,pd,aX,bq,ec,ft,iI,lP⟩:=bG (i::p) ((i,aR,v)::ae) (gT aR (hW aM i) v) QP (adq aa adt yy)
    (λj F k r=>by
     grind)
    (λk r=>af k (by simp[r])) yZ
    {size:=bC.size
     LW:=bC.LW
     VR:=λj F=>List.mem_cons_of_mem _ (bC.VR j F)
     QN:=by
      intro j F i';rcases List.mem_cons.1 F with rfl|F
      ·refine⟨aR,v,by simp,aw,LX,λo aB t bd=>⟨λ⟨k,oI,jX⟩=> ?_,λmy=> ?_⟩⟩
       ·exact(uL t λe=>(ok.kt j o j t aB e bd).1 rfl).symm
       ·refine bC.IY t λk r Dt=> ?_;have da:j≠k:=λe=>Ed (by rw[e];exact r);rcases(ok.kt j o k t aB Dt bd).2 with am|am
        ·exact my ⟨k,Dt,am⟩
        ·have:=(I k r (j,none) (by simp)).2;rw[this]at am;cases am
      ·obtain⟨cY,u,cB,cb,cj,dw⟩:=bC.QN j F i';have da:i≠j:=λe=>Ed (by rw[e];exact F);refine⟨cY,u,by simp[cB],cb,λd bi=> ?_,λo aB t bd=>⟨λnL=> ?_,(dw o aB t bd).2⟩⟩
       ·rw[uL d λe=>da (ok.dst i j d e bi)];exact cj d bi
       ·rw[uL t λe=> ?_]
        ·exact(dw o aB t bd).1 nL
        ·obtain⟨k,oI,jX⟩:=nL;obtain rfl:=ok.dst i k t e oI;have:=(I j F (i,none) (by simp)).2;rw[this]at jX;cases jX
     QO:=by
      intro t j F i' ll;rcases List.mem_cons.1 F with rfl|F
      ·rw[bC.Ec t λk r Dt=> ?_]
       ·exact aiz t ll
       ·exact absurd (by rw[ok.dst j k t ll Dt];exact r) Ed
      ·exact bC.QO t j F i' ll
     Ec:=by
      intro t bd;have cG:hW aM i≠some t:=λe=>by
       grind
      rw[uL t cG];exact bC.Ec t λj F ll=>bd j (by simp[F]) ll
     IY:=by
      intro t bd;rw[uL t (bd i (by simp))];exact bC.IY t λj F=>bd j (by simp[F])}
   refine⟨s',gW,Ig,E_,a',by rw[aFn];rfl,λj F=> ?_,pd,aX,bq,ec,ft,λj F=>iI j ?_,lP⟩
   ·grind
   grind
def LY(aQ:Nat)(listed:Array Bool):Nat:=((List.range aQ).filter λi=> !listed.getD i false).length
theorem anO{p q:Nat->Bool}{i:Nat}:∀(l:List Nat),i∈l->p i=true->q i=false->(∀j,q j=true->p j=true)->(l.filter q).length<(l.filter p).length:=by
 intro l
 induction l with
 |nil=>intro h;cases h
 |cons x l bG=>
  intro aH ah aq auv;have dR:(l.filter q).length<=(l.filter p).length:=by
   clear bG aH
   induction l with
   |nil=>simp
   |cons y l bG=>
    grind
  grind
theorem aFo{listed:Array Bool}{i:Nat}(h:i<listed.size)(b:Bool):(listed.setIfInBounds i true).getD i b=true:=by
 simp[h]
theorem aFp{aQ i:Nat}{listed:Array Bool}(aa:i<aQ)(aw:listed.size=aQ)(h:listed.getD i false=false):LY aQ (listed.setIfInBounds i true)<LY aQ listed:=by
 unfold LY;refine anO _ (List.mem_range.2 aa) (by simp only[h];rfl) (by simp_all) λj F=> ?_;by_cases hF:i=j
 ·grind
 simp_all
theorem adu{listed:Array Bool}{i:Nat}(h:listed.getD i true=false):listed.getD i false=false:=by
 grind
theorem aFq{listed:Array Bool}{i:Nat}(aa:i<listed.size)(h:listed.getD i false=false):listed.getD i true=false:=by
 simp[aa]at h⊢;exact h
theorem anP{listed:Array Bool}(aw:listed.size=aM.size):∀(p:List Nat),Ch aM p->(∃i∈p,listed.getD i false=false)->Region.ready .any aM listed≠[]:=by
 intro p
 induction p with
 |nil=>grind
 |cons i p bG=>
  rintro⟨⟨H,I⟩,aB⟩ ⟨j,F,al⟩;by_cases nL:∃k∈p,listed.getD k false=false
  ·exact bG aB nL
  ·have fq:∀k∈p,listed.getD k false=true:=λk r=>by
    grind
   have nl:j=i:=by
    rcases List.mem_cons.1 F with h|h
    ·exact h
    ·rw[fq j h]at al;cases al
   subst nl;intro aLn;have:j∈Region.ready .any aM listed:=mem_ready.2 ⟨aFq (by omega) al,aM.getD j default,by simp_all,λe aV V=>fq _ (I e aV V)⟩
   grind
def IZ(aM:Array Oper):Array Bool->List Nat->Prop
 |listed,[]=>Region.ready .any aM listed=[]
 |listed,i::cA=>i∈Region.ready .any aM listed/\IZ aM (listed.setIfInBounds i true) cA
theorem aFr{listed:Array Bool}(an:LY aM.size listed=0):∀i,i<aM.size->listed.getD i false=true:=by
 intro i aa
 cases al:listed.getD i false with
 |true=>rfl
 |false=>
  have:i∈(List.range aM.size).filter λi=> !listed.getD i false:=List.mem_filter.2 ⟨List.mem_range.2 aa,by simp only[al];rfl⟩;unfold LY at an
  grind
theorem aFs:∀(iF t:Nat) (listed:Array Bool),listed.size=aM.size->LY aM.size listed<=iF->IZ aM listed (Region.linearise.go .any aM iF t listed []):=by
 intro iF
 induction iF with
 |zero=>
  intro t listed aw an;simp only[Region.linearise.go,List.reverse_nil,IZ];rw[List.eq_nil_iff_forall_not_mem];intro j F;obtain⟨ab_,o,aB,_⟩:=mem_ready.1 F;have:=aFr (Nat.le_zero.1 an) j (LV aB)
  grind
 |succ iF bG=>
  intro t listed aw an;simp only[Region.linearise.go];change IZ aM listed (match(Region.ready .any aM listed)[t%(Region.ready .any aM listed).length]? with
   |some i=>Region.linearise.go .any aM iF (t /(Region.ready .any aM listed).length) (listed.setIfInBounds i true) [i]
   |none=>[].reverse)
  cases aa:(Region.ready .any aM listed)[t%(Region.ready .any aM listed).length]? with
  |none=>
   show Region.ready .any aM listed=[]
   cases ap:Region.ready .any aM listed with
   |nil=>rfl
   |cons x xs=>
    rw[ap]at aa;have aO:t%(x::xs).length<(x::xs).length:=Nat.mod_lt _ (by simp)
    grind
  |some i=>
   simp only[];rw[linearise_go_acc,List.reverse_singleton,List.singleton_append];have anQ:=List.mem_of_getElem? aa;refine⟨anQ,bG _ _ (by simpa using aw) ?_⟩;obtain⟨H,o,aB,_⟩:=mem_ready.1 anQ;have:=aFp (LV aB) aw (adu H);omega
theorem aFt{E:List Nat}:∀(s:List (Nat×Option (List Nat))) (p:List Nat) (o':Option Nat),w_ aM E p o' s=true->∀i,(i,none)∈s->
  (∃k∈s,dd aM i k.1=true)\/(∃e,o'=some e/\dd aM i e=true)\/o'=none:=by
 intro s
 induction s with
 |nil=>intro _ _ _ i h;cases h
 |cons x s bG=>
  obtain⟨j,m⟩:=x;intro p o' h i aa;simp only[w_,Bool.and_eq_true,decide_eq_true_eq]at h;rcases List.mem_cons.1 aa with e|aa
  ·grind
  ·rcases bG _ _ h.2 i aa with⟨k,r,am⟩|I
   ·grind
   ·cases m with
    |none=>exact .inr I
    |some fH=>
     simp_all
theorem aFu{E:List Nat}:∀(s:List (Nat×Option (List Nat))) (p:List Nat) (o':Option Nat),w_ aM E p o' s=true->∀i fH,(i,some fH)∈s->E.contains i=true:=by
 intro s
 induction s with
 |nil=>intro _ _ _ i _ h;cases h
 |cons x s bG=>
  obtain⟨j,m⟩:=x;intro p o' h i fH aa;simp only[w_,Bool.and_eq_true,decide_eq_true_eq]at h
  grind
theorem aFv{Q:(Nat->Value)->World->Prop}{kF:Exit->Act->World->Prop}(cx:mw)(ms:List Nat)(eP:∀f w,Q f w->kF .normal (hc cx n ms f) w)(ok:VQ aM){E:List Nat}{f0:Nat->Value}:
  ∀(uM:List Nat) (s:List (Nat×Option (List Nat))) (p:List Nat) (o':Option Nat) (ae:List tG) (aR f:Nat->Value) (w:World) (listed:Array Bool),IZ aM listed uM->uM.filter (E.contains ·)=pH s->
  w_ aM E p o' s=true->Ch aM p->(∀i∈p,∀k∈s,i≠k.1/\dd aM i k.1=false)->(∀k∈s,listed.getD k.1 false=false)->(∀i,i<aM.size->i∈p\/i∈s.map (·.1))->
  (∀i∈p,E.contains i=true->listed.getD i false=true)->
  yx P aM n Q s ae aR w->ads P aM n p ae aR w listed f0 f->wpOpsIn cx.aR cx.m P aM kF uM (hc cx n ms f) w:=by
 intro uM
 induction uM with
 |nil=>
  intro s p o' ae aR f w listed uN Ee H yy I af aU _ bC cG;obtain⟨s,p,ae,aR,H,VS,_,yy,I,af,bC,cG,_,eb⟩:=anN ok s p ae aR H yy I af bC cG;have fq:∀i∈p,listed.getD i false=true:=λi aa=>by
   cases aD:listed.getD i false with
   |true=>rfl
   |false=>exact absurd uN (anP cG.size p yy ⟨i,aa,aD⟩)
  rcases eb with rfl|⟨e,fH,cA,rfl⟩
  ·have:f=aR:=funext λt=>cG.Ec t λi aa _=>fq i aa;rw[this];exact eP _ _ bC
  ·rw[<-VS]at Ee;simp[pH]at Ee
 |cons i uM bG=>
  intro s aFw o' ae aR f w listed uN Ee H yy I af aU adv bC cG;obtain⟨aa,uN⟩:=uN;obtain⟨s,p,ae,aR,H,VS,aFx,yy,I,af,bC,cG,eD,eb⟩:=anN ok s aFw ae aR H yy I af bC cG;have aU:∀i,i<aM.size->i∈p\/i∈s.map (·.1):=λi aa=>eD i (aU i aa);have adv:∀i∈p,E.contains i=true->listed.getD i false=true:=λj F adw=>by
   grind
  rw[<-VS]at Ee;clear eD aFx VS;rw[wpOpsIn_cons]
  ·obtain⟨Iw,o,aB,fq⟩:=mem_ready.1 aa;have aO:i<aM.size:=LV aB;have VT:listed.getD i false=false:=adu Iw;have QQ:∀j,dd aM i j=true->listed.getD j false=true:=by
    intro j F;obtain⟨e,aV,V,ap⟩:=adn aM i o j aB F;have:=fq e aV V;rcases ap with ap|⟨_,ap⟩
    ·rw[<-ap];exact this
    ·exact VP cG.LW cG.size _ _ ap this
   have Mj:(listed.setIfInBounds i true).size=aM.size:=by simpa using cG.size
   have anR:∀j nS,aM[j]? =some nS->(listed.setIfInBounds i true).getD j false=true->∀e∈nS.after,Region.binds .any e=true->(listed.setIfInBounds i true).getD e.on false=true:=by
    intro j nS F al e aV V;by_cases hF:i=j
    ·subst hF;have:nS=o:=Option.some.inj (F.symm.trans aB);subst this;exact getD_set_true (fq e aV V)
    ·rw[getD_set_ne false hF]at al;exact getD_set_true (cG.LW j nS F al e aV V)
   have zj:∀j,(listed.setIfInBounds i true).getD j false=false->i≠j/\listed.getD j false=false:=by
    intro j F;have da:i≠j:=by
     rintro rfl;rw[aFo (by rw[cG.size];exact aO)]at F;cases F
    exact⟨da,by rwa[getD_set_ne false da]at F⟩
   have aFy:∀j,listed.getD j false=true->(listed.setIfInBounds i true).getD j false=true:=λj F=>getD_set_true F;by_cases Ed:i∈p
   ·
    obtain⟨cY,v,cB,cb,cj,dw⟩:=cG.QN i Ed VT;have adx:∀eX,aM[i]? =some eX->∀t∈eX.looksAt aM,cY t=f t:=by
     intro eX sL t bd;obtain rfl:eX=o:=Option.some.inj (sL.symm.trans aB);by_cases nL:∃j,hW aM j=some t/\dd aM i j=true
     ·rw[(dw eX sL t bd).1 nL];obtain⟨j,ab_,mA⟩:=nL;exact(cG.Ec t λk r Dt=>by rw[<-ok.dst j k t ab_ Dt];exact QQ j mA).symm
     ·rw[(dw eX sL t bd).2 nL];by_cases bH:∃j,j∈p/\hW aM j=some t
      ·obtain⟨j,Dr,ll⟩:=bH;have i':listed.getD j false=false:=by
        cases al:listed.getD j false with
        |false=>rfl
        |true=>
         rcases(ok.kt i eX j t aB ll bd).2 with am|am
         ·grind
         ·have:=VP cG.LW cG.size _ _ am al;rw[VT]at this;cases this
       exact(cG.QO t j Dr i' ll).symm
      ·have gi:∀j∈p,hW aM j≠some t:=λj F ll=>bH ⟨j,F,ll⟩;rw[cG.Ec t λj F ll=>absurd ll (gi j F),cG.IY t gi]
    have QR:uJ P aM n i f w λW w'=>W=v/\w'=w:=by
     rw[<-anL ok adx];exact cb
    refine anM cx ms (K:=λW w'=>W=v/\w'=w) ?_ QR;rintro W w' ⟨rfl,rfl⟩;have uL:∀t,hW aM i≠some t->gT f (hW aM i) W t=f t:=λt bd=>by unfold gT;rw[if_neg bd]
    have LX:∀t,hW aM i=some t->gT f (hW aM i) W t=W:=λt bd=>by unfold gT;rw[if_pos bd]
    have Gv:E.contains i=false:=by
     cases aD:E.contains i with
     |false=>rfl
     |true=>grind
    refine bG s p o' ae aR _ w' _ uN ?_ H yy I (λk r=> ?_) aU (λj F adw=>aFy j (adv j F adw)) bC ?_
    ·grind
    ·rw[getD_set_ne false λe=>(I i Ed k r).1 e];exact af k r
    ·refine⟨Mj,anR,λj F=> ?_,λj F i'=>cG.QN j F (zj j i').2,λt j F i' ll=> ?_,λt bd=> ?_,cG.IY⟩
     ·by_cases hF:i=j
      ·rw[<-hF];exact Ed
      ·rw[getD_set_ne false hF]at F;exact cG.VR j F
     ·rw[uL t λe=>(zj j i').1 (ok.dst i j t e ll)];exact cG.QO t j F (zj j i').2 ll
     ·by_cases bi:hW aM i=some t
      ·rw[LX t bi,cj t bi]
      ·rw[uL t bi];refine cG.Ec t λj F ll=> ?_;have:=bd j F ll;rwa[getD_set_ne false λe=>bi (by rw[e];exact ll)]at this
   ·
    have xM:i∈s.map (·.1):=(aU i aO).resolve_left Ed;rcases eb with rfl|⟨e,fH,cA,rfl⟩
    ·cases xM
    have lT:=H;simp only[w_,Bool.and_eq_true,decide_eq_true_eq,List.all_eq_true,Bool.not_eq_true',bne_iff_ne,Bool.or_eq_true]at H;obtain⟨⟨⟨⟨wT,adt⟩,F_⟩,⟨aFz,aFA⟩⟩,QP⟩:=H;have ug:listed.getD e false=false:=af (e,some fH) (by simp);have aa4:i=e:=by
     cases Gv:E.contains i with
     |true=>
      rw[List.filter_cons,Gv]at Ee;simp[pH]at Ee;exact Ee.1
     |false=>
      exfalso;rcases List.mem_cons.1 xM with h|h
      ·grind
      ·obtain⟨⟨k,m⟩,r,ady⟩:=List.mem_map.1 h;have ady:k=i:=ady;subst ady
       cases m with
       |some OY=>have:=aFu _ _ _ QP k OY r;rw[Gv]at this;cases this
       |none=>
        rcases aFt _ _ _ QP k r with⟨lo,eH,am⟩|⟨dM,wa,am⟩|h
        ·have:=QQ _ am;rw[af lo (by simp[eH])]at this;cases this
        ·grind
        ·cases h
    subst aa4;have aFB:uM.filter (E.contains ·)=pH cA:=by
     rw[List.filter_cons,aFz]at Ee;simpa[pH]using Ee
    have adx:∀eX,aM[i]? =some eX->∀t∈eX.looksAt aM,aR t=f t:=by
     intro eX sL t bd;refine(cG.Ec t λj F ll=> ?_).symm;rcases(ok.kt i eX j t sL ll bd).2 with am|am
     ·exact QQ j am
     ·have:=(I j F (i,some fH) (by simp)).2;rw[this]at am;cases am
    have QR:=bC;unfold yx at QR;rw[anL ok adx]at QR;refine anM cx ms ?_ QR;rintro v w' ⟨r,yZ⟩;have uL:∀(g:Nat->Value) t,hW aM i≠some t->gT g (hW aM i) v t=g t:=λg t bd=>by unfold gT;rw[if_neg bd]
    have LX:∀(g:Nat->Value) t,hW aM i=some t->gT g (hW aM i) v t=v:=λg t bd=>by unfold gT;rw[if_pos bd]
    refine bG cA (i::p) (some i) _ _ _ w' _ uN aFB QP (adq wT adt yy) (λj F k r=> ?_) (λk r=> ?_) (λj F=> ?_) (λj F adw=> ?_) yZ ?_
    ·rcases List.mem_cons.1 F with rfl|F
     ·grind
     ·exact I j F k (by simp[r])
    ·rw[getD_set_ne false λe=>(F_ k r).1 e.symm];exact af k (by simp[r])
    ·rcases aU j F with h|h
     ·exact .inl (by simp[h])
     ·simp only[List.map_cons,List.mem_cons]at h
      grind
    ·grind
    ·refine⟨Mj,anR,λj F=> ?_,λj F i'=> ?_,λt j F i' ll=> ?_,λt bd=> ?_,λt bd=> ?_⟩
     ·by_cases hF:i=j
      ·rw[hF];simp
      ·rw[getD_set_ne false hF]at F;exact List.mem_cons_of_mem _ (cG.VR j F)
     ·obtain⟨da,i'⟩:=zj j i';have Dr:j∈p:=(List.mem_cons.1 F).resolve_left λe=>da e.symm;obtain⟨cY,u,cB,cb,cj,dw⟩:=cG.QN j Dr i';have abC:j∈fH:=by
       rcases aFA j Dr with((h|h)|h)|h
       ·simpa using h
       ·have:=QQ j h;rw[i']at this;cases this
       ·grind
       ·obtain⟨e,aV,he⟩:=List.any_eq_true.1 h;simp only[Bool.and_eq_true]at he;have:=VP cG.LW cG.size _ _ he.2 (adv e aV he.1);rw[i']at this;cases this
      refine⟨cY,u,List.mem_filter.2 ⟨cB,by simpa using abC⟩,r _ cB abC,λd bi=> ?_,λo aB t bd=>⟨λnL=> ?_,(dw o aB t bd).2⟩⟩
      ·rw[uL aR d λe=>da (ok.dst i j d e bi)];exact cj d bi
      ·rw[uL aR t λe=> ?_]
       ·exact(dw o aB t bd).1 nL
       ·obtain⟨k,oI,jX⟩:=nL;obtain rfl:=ok.dst i k t e oI;have:=(I j Dr (i,some fH) (by simp)).2;rw[this]at jX;cases jX
     ·obtain⟨da,i'⟩:=zj j i';have Dr:j∈p:=(List.mem_cons.1 F).resolve_left λe=>da e.symm;rw[uL f t λe=>da (ok.dst i j t e ll)];exact cG.QO t j Dr i' ll
     ·by_cases bi:hW aM i=some t
      ·rw[LX f t bi,LX aR t bi]
      ·rw[uL f t bi,uL aR t bi];refine cG.Ec t λj F ll=> ?_;have:=bd j (by simp[F]) ll;rwa[getD_set_ne false λe=>bi (by rw[e];exact ll)]at this
     ·rw[uL aR t (bd i (by simp))];exact cG.IY t λj F=>bd j (by simp[F])
end
theorem aFC{E:List Nat}{listed:Array Bool}{i:Nat}(aa:i<listed.size):(E.filter λe=> !(listed.setIfInBounds i true).getD e false)=(E.filter λe=> !listed.getD e false).filter (·!=i):=by
 rw[List.filter_filter];refine List.filter_congr λe _=> ?_;by_cases h:i=e
 ·simp_all
 ·rw[getD_set_ne false h]
  grind
theorem aFD{aM:Array Oper}{E:List Nat}{all:List Nat}(yy:Ch aM all)(adz:∀i,i<aM.size->i∈all)(he:∀e∈E,e<aM.size):
  ∀(uM:List Nat) (listed:Array Bool) (k:Nat),listed.size=aM.size->(∀j nS,aM[j]? =some nS->listed.getD j false=true->∀e∈nS.after,Region.binds .any e=true->listed.getD e.on false=true)->
   IZ aM listed uM->(E.filter λe=> !listed.getD e false).length<=k->uM.filter (E.contains ·)=[]/\(E.filter λe=> !listed.getD e false)=[]\/uM.filter (E.contains ·)∈LU aM k (E.filter λe=> !listed.getD e false):=by
 intro uM
 induction uM with
 |nil=>
  intro listed k aw T uN r;refine .inl ⟨rfl,?_⟩;rw[List.filter_eq_nil_iff];intro e aV al;have al:listed.getD e false=false:=by simpa using al
  exact anP aw all yy ⟨e,adz e (he e aV),al⟩ uN
 |cons i uM bG=>
  intro listed k aw T uN r;obtain⟨aa,uN⟩:=uN;obtain⟨Iw,o,aB,fq⟩:=mem_ready.1 aa;have aO:i<aM.size:=LV aB;have VT:listed.getD i false=false:=adu Iw;have oV:∀j nS,aM[j]? =some nS->(listed.setIfInBounds i true).getD j false=true->∀e∈nS.after,Region.binds .any e=true->(listed.setIfInBounds i true).getD e.on false=true:=by
   intro j nS F al e aV V;by_cases hF:i=j
   ·subst hF;have:nS=o:=Option.some.inj (F.symm.trans aB);subst this;exact getD_set_true (fq e aV V)
   ·rw[getD_set_ne false hF]at al;exact getD_set_true (T j nS F al e aV V)
  have QQ:∀j,dd aM i j=true->listed.getD j false=true:=by
   intro j F;obtain⟨e,aV,V,ap⟩:=adn aM i o j aB F;have:=fq e aV V;rcases ap with ap|⟨_,ap⟩
   ·rw[<-ap];exact this
   ·exact VP T aw _ _ ap this
  have anS:=aFC (E:=E) (listed:=listed) (i:=i) (by omega)
  cases Gv:E.contains i with
  |false=>
   have aLo:(E.filter λe=> !listed.getD e false).filter (·!=i)=E.filter λe=> !listed.getD e false:=by
    rw[List.filter_eq_self];intro e aV;have aFE:=(List.mem_filter.1 aV).1;have:e≠i:=by
     rintro rfl;have:E.contains e=true:=by simpa using aFE
     rw[Gv]at this;cases this
    simpa using this
   grind
  |true=>
   have aFF:i∈E:=by simpa using Gv
   have Ua:i∈E.filter λe=> !listed.getD e false:=List.mem_filter.2 ⟨aFF,by simp only[VT];rfl⟩;refine .inr ?_
   cases k with
   |zero=>grind
   |succ k=>
    have cI:((E.filter λe=> !listed.getD e false).filter (·!=i)).length<(E.filter λe=> !listed.getD e false).length:=by
     have:=anO (p:=λ_=>true) (q:=(·!=i)) (i:=i) (E.filter λe=> !listed.getD e false) Ua rfl (by simp) (λ_ _=>rfl);simpa using this
    have anT:=bG (listed.setIfInBounds i true) k (by simpa using aw) oV uN (by rw[anS];omega);rw[anS]at anT;have KI:uM.filter (E.contains ·)∈LU aM k ((E.filter λe=> !listed.getD e false).filter (·!=i)):=by
     rcases anT with⟨H,I⟩|h
     ·rw[H,I]
      cases k<;>simp[LU]
     ·exact h
    have aLp:((E.filter λe=> !listed.getD e false).all λdM=>dM==i|| !dd aM i dM)=true:=by
     rw[List.all_eq_true];intro dM wa;have al:listed.getD dM false=false:=by simpa using(List.mem_filter.1 wa).2
     cases am:dd aM i dM with
     |false=>simp
     |true=>grind
    rw[List.filter_cons,Gv];simp only[if_true];generalize E.filter (λe=> !listed.getD e false)=IW at*;have da:IW.isEmpty=false:=by
     cases IW with
     |nil=>cases Ua
     |cons=>rfl
    simp only[LU,da,Bool.false_eq_true,if_false]
    grind
theorem aFG{aM:Array Oper}{E:List Nat}:∀(s:List (Nat×Option (List Nat))) (p:List Nat) (o':Option Nat),w_ aM E p o' s=true->Ch aM p->∃q,Ch aM q/\(∀i,(i∈p\/i∈s.map (·.1))->i∈q)/\∀e∈pH s,e<aM.size:=by
 intro s
 induction s with
 |nil=>intro p o' _ h;exact⟨p,h,λi aa=>aa.resolve_right (by simp),λe aV=>by simp[pH]at aV⟩
 |cons x s bG=>
  obtain⟨i,m⟩:=x;intro p o' h aB;simp only[w_,Bool.and_eq_true,decide_eq_true_eq]at h;obtain⟨q,H,I,af⟩:=bG _ _ h.2 (adq h.1.1.1.1 h.1.1.1.2 aB);refine⟨q,H,λj F=>I j ?_,λe aV=> ?_⟩
  ·grind
  ·cases m with
   |none=>exact af e (by simpa[pH]using aV)
   |some fH=>
    simp only[pH,List.filter_cons,Option.isSome_some,if_true,List.map_cons,List.mem_cons]at aV;rcases aV with rfl|aV
    ·exact h.1.1.1.1
    ·exact af e (by simpa[pH]using aV)
theorem aFH(m j:Nat):(Array.replicate m false).getD j false=false:=by
 rcases Nat.lt_or_ge j m with h|h
 ·simp[h]
 grind
theorem anU{P:Program}{n:Nat}{Q:gr}{id:Nat}{l:List Oper}{ms:List Nat}{f:Nat->Value}{w:World}(qm:List (List (Nat×Option (List Nat))))(bg:(Nat->Value)->World->Prop)(aH:P.follows .mixedOrders=true)(ah:IX l.toArray qm=true)
  (h:∀nn∈qm,yx P l.toArray n bg nn [] f w.drew)(bP:∀f w,bg f w->Q .normal ms f w):D_ P n Q id l.toArray ms f w:=by
 simp only[IX,Bool.and_eq_true]at ah;obtain⟨⟨⟨aFI,da⟩,fq⟩,adz⟩:=ah;have VU:∀i,(Array.replicate l.toArray.size false).getD i false=false:=λi=>aFH _ _;have ud:∀j nS,l.toArray[j]? =some nS->(Array.replicate l.toArray.size false).getD j false=true->∀e∈nS.after,Region.binds .any e=true->(Array.replicate l.toArray.size false).getD e.on false=true:=λj nS _ al=>by
  rw[VU]at al;cases al
 cases qm with
 |nil=>simp at da
 |cons nv ps=>
  simp only[List.headD_cons]at fq adz;have Mk:=List.all_eq_true.1 fq;have oB:=Mk nv (by simp);simp only[adp,Bool.and_eq_true,List.all_eq_true,List.mem_range]at oB;obtain⟨q,rm,vJ,vI⟩:=aFG nv [] none oB.2 trivial;intro cx;refine wpIn_region_draw λt=> ?_;simp only[Region.schedule,aH,Bool.true_or,if_true];have uN:IZ l.toArray (Array.replicate l.toArray.size false) (Region.linearise .any l.toArray t):=
   aFs l.toArray.size t _ (by simp) (Nat.le_trans (List.length_filter_le _ _) (by simp))
  have tl:((pH nv).filter λe=> !(Array.replicate l.toArray.size false).getD e false)=pH nv:=by
   rw[List.filter_eq_self];intro e _;rw[VU];rfl
  have nL:=aFD (E:=pH nv) rm (λi aa=>vJ i (.inr (by simpa using oB.1 i aa))) vI (Region.linearise .any l.toArray t) _ (pH nv).length (by simp) ud uN (by rw[tl];exact Nat.le_refl _);rw[tl]at nL;have th:∃pl∈nv::ps,pH pl=(Region.linearise .any l.toArray t).filter ((pH nv).contains ·):=by
   rcases nL with⟨H,I⟩|H
   ·grind
   ·grind
  obtain⟨pl,wu,aV⟩:=th;have gg:=Mk pl wu;simp only[adp,Bool.and_eq_true,List.all_eq_true,List.mem_range]at gg;refine aFv cx ms (E:=pH nv) (f0:=f) (λf w aq=>⟨ms,f,rfl,bP f w aq⟩) (aFg aFI) (Region.linearise .any l.toArray t) pl [] none [] f f _ _ uN aV.symm gg.2 trivial (λ_ h=>by cases h) (λk _=>VU _)
   (λi aa=>.inr (by simpa using gg.1 i aa)) (λ_ h=>by cases h) (h pl wu) ?_
  refine⟨by simp,ud,λi al=> ?_,λ_ h=>(by cases h),λ_ _ h=>(by cases h),λ_ _=>rfl,λ_ _=>rfl⟩;rw[VU]at al;cases al
theorem anV{P:Program}{n:Nat}{Q:gr}{id:Nat}{l:List Oper}{ms:List Nat}{f:Nat->Value}{w:World}(qm:List (List (Nat×Option (List Nat))))(aH:P.follows .mixedOrders=true)(ah:IX l.toArray qm=true)
  (h:∀nn∈qm,yx P l.toArray n (Q .normal ms) nn [] f w.drew):D_ P n Q id l.toArray ms f w:=anU qm (Q .normal ms) aH ah h λ_ _ h=>h
section
variable(P:Program)(l:List Oper)(n:Nat)(Q:(Nat->Value)->World->Prop)
def LZ(o:Option Oper)(f:Nat->Value):Option Bool:=match o.bind (·.dst)with
 |some d=>if d<n then(match f d with|.bool b=>some b|_=>none)else none
 |none=>none
theorem anW(f:Nat->Value)(j:Nat):yielded l.toArray (jH n f) j=LZ n (l[j]?) f:=by
 unfold yielded LZ;simp only[List.getElem?_toArray]
 cases bi:(l[j]?).bind (·.dst)with
 |none=>rfl
 |some d=>
  simp only[Option.bind_some,LQ]
  grind
def Ci(o:Option Oper)(f:Nat->Value)(w:World)(K:Option Tmp->Value->World->Prop):Prop:=
 match o with
 |none=>False
 |some o=>match o.guard with
  |none=>dG P (gb n f) o w (K o.dst)
  |some (j,uK)=>if LZ n (l[j]?) f=some uK then dG P (gb n f) o w (K o.dst)else K o.dst undef w
def yz(g:Option Bool)(uK:Bool)(o:Oper)(f:Nat->Value)(w:World)(K:Option Tmp->Value->World->Prop):Prop:=
 if g=some uK then dG P (gb n f) o w (K o.dst)else K o.dst undef w
theorem adA(i:Nat)(f:Nat->Value)(w:World)(K:Value->World->Prop)(K':Option Tmp->Value->World->Prop)(r:∀o,l[i]? =some o->K=K' o.dst):uJ P l.toArray n i f w K=Ci P l n (l[i]?) f w K':=by
 unfold uJ Ci;rw[List.getElem?_toArray]
 cases aB:l[i]? with
 |none=>rfl
 |some o=>
  rw[r o aB];simp only;unfold Region.wanted
  cases aF:o.guard with
  |none=>simp
  |some g=>
   obtain⟨j,uK⟩:=g;simp only[anW,beq_iff_eq]
@[simp] theorem aLq(d:Option Tmp)(op:Op)(bO:TypeId)(pos:String)(eC:Array Edge)(f:Nat->Value)(w:World)(K:Option Tmp->Value->World->Prop):
  Ci P l n (some ⟨d,op,bO,pos,eC,none⟩) f w K=dG P (gb n f) ⟨d,op,bO,pos,eC,none⟩ w (K d):=fj rfl
@[simp] theorem aLr(d:Option Tmp)(op:Op)(bO:TypeId)(pos:String)(eC:Array Edge)(j:Nat)(uK:Bool)(f:Nat->Value)(w:World)(K:Option Tmp->Value->World->Prop):
  Ci P l n (some ⟨d,op,bO,pos,eC,some (j,uK)⟩) f w K=yz P n (LZ n (l[j]?) f) uK ⟨d,op,bO,pos,eC,some (j,uK)⟩ f w K:=fj rfl
@[simp] theorem aLs(o:Oper)(f:Nat->Value)(w:World)(K:Option Tmp->Value->World->Prop):yz P n (some true) true o f w K=dG P (gb n f) o w (K o.dst):=by unfold yz;simp
@[simp] theorem aLt(o:Oper)(f:Nat->Value)(w:World)(K:Option Tmp->Value->World->Prop):yz P n (some false) false o f w K=dG P (gb n f) o w (K o.dst):=by unfold yz;simp
@[simp] theorem aLu(o:Oper)(f:Nat->Value)(w:World)(K:Option Tmp->Value->World->Prop):yz P n (some true) false o f w K=K o.dst undef w:=by unfold yz;simp
@[simp] theorem aLv(o:Oper)(f:Nat->Value)(w:World)(K:Option Tmp->Value->World->Prop):yz P n (some false) true o f w K=K o.dst undef w:=by unfold yz;simp
@[simp] theorem aLw(b:Bool)(o:Oper)(f:Nat->Value)(w:World)(K:Option Tmp->Value->World->Prop):yz P n none b o f w K=K o.dst undef w:=by unfold yz;simp
def QS(v:Value)(w:World)(_:Option Tmp)(W:Value)(w':World):Prop:=W=v/\w'=w
@[simp] theorem aLx(v:Value)(w:World)(d:Option Tmp)(W:Value)(w':World):QS v w d W w'=(W=v/\w'=w):=fj rfl
def Gw(w:World)(fH:List Nat):List tG->Prop
 |[]=>True
 |aR::ae=>(if aR.1∈fH then Ci P l n (l[aR.1]?) aR.2.1 w (QS aR.2.2 w)else True)/\Gw w fH ae
@[simp] theorem aLy(w:World)(fH:List Nat):Gw P l n w fH []=True:=fj rfl
@[simp] theorem aFJ(w:World)(fH:List Nat)(i:Nat)(f:Nat->Value)(v:Value)(ae:List tG):
  Gw P l n w fH ((i,f,v)::ae)=((if i∈fH then Ci P l n (l[i]?) f w (QS v w)else True)/\Gw P l n w fH ae):=fj rfl
def vG:List (Nat×Option (List Nat))->List tG->(Nat->Value)->World->Prop:=yx P l.toArray n Q
def adB(cA:List (Nat×Option (List Nat)))(ae:List tG)(i:Nat)(f:Nat->Value)(w0:World)(d:Option Tmp)(v:Value)(w':World):Prop:=w'=w0/\vG P l n Q cA ((i,f,v)::ae) (gT f d v) w0
def adC(cA:List (Nat×Option (List Nat)))(fH:List Nat)(ae:List tG)(f:Nat->Value)(d:Option Tmp)(v:Value)(w':World):Prop:=
 Gw P l n w' fH ae/\vG P l n Q cA (ae.filter λaR=>decide (aR.1∈fH)) (gT f d v) w'
@[simp] theorem aLz(cA:List (Nat×Option (List Nat)))(ae:List tG)(i:Nat)(f:Nat->Value)(w0:World)(d:Option Tmp)(v:Value)(w':World):
  adB P l n Q cA ae i f w0 d v w'=(w'=w0/\vG P l n Q cA ((i,f,v)::ae) (gT f d v) w0):=fj rfl
@[simp] theorem aLA(cA:List (Nat×Option (List Nat)))(fH:List Nat)(ae:List tG)(f:Nat->Value)(d:Option Tmp)(v:Value)(w':World):
  adC P l n Q cA fH ae f d v w'=(Gw P l n w' fH ae/\vG P l n Q cA (ae.filter λaR=>decide (aR.1∈fH)) (gT f d v) w'):=fj rfl
@[simp] theorem aLB(ae:List tG)(f:Nat->Value)(w:World):vG P l n Q [] ae f w=Q f w:=fj rfl
theorem anX(i:Nat)(o:Oper)(h:l[i]? =some o):hW l.toArray i=o.dst:=by simp[hW,h]
@[simp] theorem aLC(i:Nat)(cA:List (Nat×Option (List Nat)))(ae:List tG)(f:Nat->Value)(w:World):
  vG P l n Q ((i,none)::cA) ae f w=Ci P l n (l[i]?) f w (adB P l n Q cA ae i f w):=by
 unfold vG;rw[yx];refine adA P l n i f w _ _ λo aB=> ?_;rw[anX l i o aB];rfl
theorem aFK(w:World)(fH:List Nat)(ae:List tG):Gw P l n w fH ae↔∀aR∈ae,aR.1∈fH->IV P l.toArray n w aR:=by
 induction ae with
 |nil=>simp
 |cons aR ae bG=>
  obtain⟨i,f,v⟩:=aR;rw[aFJ,bG];have aS:Ci P l n (l[i]?) f w (QS v w)=IV P l.toArray n w (i,f,v):=(adA P l n i f w _ _ λ_ _=>rfl).symm
  grind
@[simp] theorem aLD(i:Nat)(fH:List Nat)(cA:List (Nat×Option (List Nat)))(ae:List tG)(f:Nat->Value)(w:World):
  vG P l n Q ((i,some fH)::cA) ae f w=Ci P l n (l[i]?) f w (adC P l n Q cA fH ae f):=by
 unfold vG;rw[yx];refine adA P l n i f w _ _ λo aB=> ?_;rw[anX l i o aB];funext v w';show _=(_/\_);rw[propext (aFK P l n w' fH ae)];rfl
end
theorem aFL{P:Program}{n:Nat}{Q:gr}{id:Nat}{l:List Oper}{ms:List Nat}{f:Nat->Value}{w:World}(nn:List (Nat×Option (List Nat)))(aH:P.follows .mixedOrders=true)(ah:IX l.toArray [nn]=true)
  (h:vG P l n (Q .normal ms) nn [] f w.drew):D_ P n Q id l.toArray ms f w:=anV [nn] aH ah λp ah=>by
 simp only[List.mem_singleton]at ah;subst ah;exact h
theorem cD{P:Program}{n:Nat}{Q:gr}{id:Nat}{l:List Oper}{ms:List Nat}{f:Nat->Value}{w:World}(nn:List (Nat×Option (List Nat)))(h:vG P l n (Q .normal ms) nn [] f w.drew)(aH:P.follows .mixedOrders=true:=by kernel_rfl)(ah:IX l.toArray [nn]=true:=by kernel_rfl):D_ P n Q id l.toArray ms f w:=aFL nn aH ah h
theorem aEf{P:Program}{n:Nat}{Q:gr}{id:Nat}{l:List Oper}{ms:List Nat}{f:Nat->Value}{w:World}(qm:List (List (Nat×Option (List Nat))))(aH:P.follows .mixedOrders=true)(ah:IX l.toArray qm=true)
  (h:∀nn∈qm,vG P l n (Q .normal ms) nn [] f w.drew):D_ P n Q id l.toArray ms f w:=anV qm aH ah h
theorem SR{P:Program}{n:Nat}{Q:gr}{id:Nat}{l:List Oper}{ms:List Nat}{f:Nat->Value}{w:World}(bg:(Nat->Value)->World->Prop)(qm:List (List (Nat×Option (List Nat))))(aH:P.follows .mixedOrders=true)(ah:IX l.toArray qm=true)
  (h:∀nn∈qm,vG P l n bg nn [] f w.drew)(bP:∀f w,bg f w->Q .normal ms f w):D_ P n Q id l.toArray ms f w:=anU qm bg aH ah h bP
def yA(P:Program)(l:List Oper)(n:Nat)(Q:(Nat->Value)->World->Prop)(g:Option Bool)(uK:Bool)(o:Oper)(cA:List Oper)(f:Nat->Value)(w:World):Prop:=
 if g=some uK then dG P (gb n f) o w (LR P l.toArray n Q cA f o.dst)else jW P l.toArray n Q cA (gT f o.dst undef) w
@[simp] theorem aLE(P:Program)(l:List Oper)(n:Nat)(Q:(Nat->Value)->World->Prop)(d:Option Tmp)(op:Op)(bO:TypeId)(pos:String)(eC:Array Edge)(j:Nat)(uK:Bool)(cA:List Oper)(f:Nat->Value)(w:World):
  jW P l.toArray n Q (⟨d,op,bO,pos,eC,some (j,uK)⟩::cA) f w=yA P l n Q (LZ n (l[j]?) f) uK ⟨d,op,bO,pos,eC,some (j,uK)⟩ cA f w:=by
 show(if Region.wanted _ _=true then _ else _)=(if _ then _ else _);simp only[Region.wanted,anW,beq_iff_eq];rfl
section
variable(P:Program)(l:List Oper)(n:Nat)(Q:(Nat->Value)->World->Prop)(o:Oper)(cA:List Oper)(f:Nat->Value)(w:World)
@[simp] theorem aLF:yA P l n Q (some true) true o cA f w=dG P (gb n f) o w (LR P l.toArray n Q cA f o.dst):=by unfold yA;simp
@[simp] theorem aLG:yA P l n Q (some false) false o cA f w=dG P (gb n f) o w (LR P l.toArray n Q cA f o.dst):=by unfold yA;simp
@[simp] theorem aLH:yA P l n Q (some true) false o cA f w=jW P l.toArray n Q cA (gT f o.dst undef) w:=by unfold yA;simp
@[simp] theorem aLI:yA P l n Q (some false) true o cA f w=jW P l.toArray n Q cA (gT f o.dst undef) w:=by unfold yA;simp
@[simp] theorem aLJ(b:Bool):yA P l n Q none b o cA f w=jW P l.toArray n Q cA (gT f o.dst undef) w:=by unfold yA;simp
end
def adD:Value->Option Bool
 |.bool b=>some b
 |_=>none
@[simp] theorem aLK(b:Bool):adD (.bool b)=some b:=rfl
@[simp] theorem aLL:adD undef=none:=rfl
@[simp] theorem aLM(n:Nat)(d:Tmp)(op:Op)(bO:TypeId)(pos:String)(eC:Array Edge)(g:Option (Nat×Bool))(f:Nat->Value):LZ n (some ⟨some d,op,bO,pos,eC,g⟩) f=if d<n then adD (f d)else none:=fj rfl
attribute [irreducible] jT As IT LS QK hX Kq QL ln d' VN QM VO N_ jW LR dG dH rt Ew D_ vU pN tV pQ tx Eb fN Gu jI yM jj vC cH aP vG adB adC Gw Ci yz yA QS uJ yx IV
end Go.Kin
