/- A walk by rewriting: the code of a function as a condition on its slots, given as a function from numbers to values, that simp lays open operation by operation; it implies the library's own Code.wp. And a statement whose order Go leaves open, by onW walk in onW order. It speaks of no program. No condition. -/
import Derived.Test.YtoohkhcpboldjaaGreatDoorBase
import Derived.Deep.LoopGhost
import Derived.Sort.LoopGhostIn
import Derived.OrdersIn
import Derived.TacticsIn
import Derived.RangeFuncCalls
import Derived.RangeFuncWrites
import Derived.RangeFuncLeaves
set_option linter.unusedSimpArgs false
set_option linter.unusedVariables false
namespace Go.Kin
open Go Go.RowKit
theorem f_{α:Sort _}{a b:α}(h:a=b):a=b:=h
structure nN where
 V:Option Nat
 m:Nat
 d:List Deferred
def nN.a'(cx:nN):Fence:=match cx.V with
 |none=>Fence.wide
 |some l=>Fence.wide.inRound l
theorem nN.fn(cx:nN)(g:FuncId):cx.a'.fn g:=by
 obtain⟨V,m,d⟩:=cx
 cases V<;>exact trivial
theorem nN.depth(cx:nN):cx.a'.depth=none:=by
 obtain⟨V,m,d⟩:=cx
 cases V<;>rfl
theorem nN.calls(cx:nN)(k:Nat){P:Program}{f:FuncId}{args:Array N}{w:M}{R:Ending->M->Prop}(h:Calls P f args w R):CallsIn cx.a' k P f args w R:=by
 obtain⟨V,m,d⟩:=cx
 cases V with
 |none=>exact callsIn_wide.2 h
 |some l=>exact CallsIn.inRound l (callsIn_wide.2 h)
def lL(n:Nat)(f:Nat->N):Array N:=Array.ofFn λi:Fin n=>f i.1
def EB(ms:List Nat):List Deferred:=ms.map λD=>{target:=.collected D,args:=#[]}
def gS(cx:nN)(n:Nat)(ms:List Nat)(f:Nat->N):Act:=⟨lL n f,EB ms++cx.d⟩
def hW(f:Nat->N)(d:Option Nat)(v:N):Nat->N:=λi=>if d=some i then v else f i
@[simp] theorem Rp(f:Nat->N)(d:Nat)(v:N)(i:Nat):hW f (some d) v i=if d=i then v else f i:=by
 unfold hW;simp
@[simp] theorem aTW(f:Nat->N)(v:N):hW f none v=f:=by funext i;simp[hW]
theorem RA(n:Nat)(f:Nat->N)(t:Nat):(lL n f)[t]? =if t<n then some (f t)else none:=by
 unfold lL;by_cases h:t<n<;>simp[h]
theorem al3(n:Nat)(f:Nat->N)(d:Nat)(v:N):(lL n f).setIfInBounds d v=lL n (hW f (some d) v):=by
 apply OQ;intro i;rw[ac_,RA,RA,Rp];have aA:(lL n f).size=n:=by simp[lL]
 grind
theorem Mf(cx:nN)(n:Nat)(ms:List Nat)(f:Nat->N)(d:Option Nat)(v:N):(gS cx n ms f).put d v=gS cx n ms (hW f d v):=by
 cases d with
 |none=>simp[Act.put]
 |some d=>
  show(⟨(lL n f).setIfInBounds d v,EB ms++cx.d⟩:Act)=⟨_,_⟩;rw[al3]
def hh(n:Nat)(f:Nat->N):Operand->N
 |.tmp t=>if t<n then f t else undef
 |.const v=>v
 |.global g=>az g
 |.func g=>.func (.func g) #[] #[]
@[simp] theorem Wq(n:Nat)(f:Nat->N)(t:Nat):hh n f (.tmp t)=if t<n then f t else undef:=f_ rfl
@[simp] theorem aTX(n:Nat)(f:Nat->N)(v:N):hh n f (.const v)=v:=f_ rfl
@[simp] theorem aTY(n:Nat)(f:Nat->N)(g:Nat):hh n f (.global g)=az g:=f_ rfl
@[simp] theorem aTZ(n:Nat)(f:Nat->N)(g:Nat):hh n f (.func g)=.func (.func g) #[] #[]:=f_ rfl
theorem Li(n:Nat)(f:Nat->N)(t:Nat):(lL n f).getD t undef=if t<n then f t else undef:=by
 rw[Array.getD_eq_getD_getElem?,RA];split<;>rfl
theorem Me(cx:nN)(n:Nat)(ms:List Nat)(f:Nat->N):(gS cx n ms f).eval=hh n f:=by
 funext x
 cases x with
 |tmp t=>exact Li n f t
 |_=>rfl
def bc(P:Program)(g:FuncId)(args:Array N)(w:M)(R:N->M->Prop):Prop:=
 Calls P g args w λe w'=>∃v,e=.returned v/\R v w'
theorem bc.calls{P:Program}{g:FuncId}{args:Array N}{w:M}{R:N->M->Prop}(h:bc P g args w R):Calls P g args w λe w'=>∃v,e=.returned v/\R v w':=h
theorem bc.mono{P:Program}{g:FuncId}{args:Array N}{w:M}{R bk:N->M->Prop}(h:bc P g args w R)(ax:∀v w',R v w'->bk v w'):bc P g args w bk:=
 Calls.mono h λ_ w' ⟨v,aV,aM⟩=>⟨v,aV,ax v w' aM⟩
def KH(P:Program)(l:Nat)(g:FuncId)(tmps:Array N)(x y:Code)(w:M)(K:N->M->Prop):Prop:=
 RoundIn Fence.wide 0 P l g tmps x y w λe w'=>∃v,e=.returned v/\K v w'
theorem KH.mono{P:Program}{l:Nat}{g:FuncId}{tmps:Array N}{x y:Code}{w:M}{K K':N->M->Prop}(r:∀v w',K v w'->K' v w')(h:KH P l g tmps x y w K):KH P l g tmps x y w K':=
 RoundIn.mono h λ_ w' ⟨v,aV,aM⟩=>⟨v,aV,r v w' aM⟩
theorem nN.round(cx:nN)(k:Nat){P:Program}{l:Nat}{g:FuncId}{tmps:Array N}{x y:Code}{w:M}{R:Ending->M->Prop}(h:RoundIn Fence.wide 0 P l g tmps x y w R):RoundIn cx.a' k P l g tmps x y w R:=by
 obtain⟨V,m,d⟩:=cx
 cases V with
 |none=>exact⟨h.1,λc cs _=>h.2 c cs (room_wide _)⟩
 |some V=>exact⟨h.1,λc cs _=>h.2 c cs (room_wide _)⟩
def ed(P:Program)(cw:Operand->N)(o:Oper)(w:M)(K:N->M->Prop):Prop:=
 match(execOp cw o).run P w with
 |.ok (.value v) w'=>K v w'
 |.ok .skip w'=>K undef w'
 |.ok (.enter g args) w'=>bc P g args w' K
 |.ok (.round l g tmps x y) w'=>KH P l g tmps x y w' K
 |_=>False
theorem ed.aN5{P:Program}{cw:Operand->N}{o:Oper}{w:M}{K:N->M->Prop}(h:ed P cw o w K)(c:Call):o.op≠.defer c:=by
 intro av;obtain⟨d,op,bV,pos,eW,g⟩:=o;subst av;unfold ed at h;have aV:execOp cw ⟨d,.defer c,bV,pos,eW,g⟩=(do pure (.defer (<-resolve cw c bV))):=rfl;rw[aV]at h;generalize resolve cw c bV=s at h
 cases ax:s.run P w<;>simp[go_sem,ax]at h
theorem ed.lM{P:Program}{cx:nN}{n:Nat}{ms:List Nat}{f:Nat->N}{o:Oper}{w:M}{K:N->M->Prop}{K':Act->M->Prop}{Q:Exit->Act->M->Prop}
  (r:∀v w',K v w'->K' (gS cx n ms (hW f o.dst v)) w')(h:ed P (hh n f) o w K):o.wpIn cx.a' cx.m P (gS cx n ms f) w K' Q:=by
 refine⟨λg _=>cx.fn g,?_⟩;rw[Oper.semAt_eq _ _ _ h.aN5,Me];unfold ed at h;split at h
 ·rename_i v w' aV;rw[aV,Oper.uponIn_value,Mf];exact r _ _ h
 ·rename_i w' aV;rw[aV,Oper.uponIn_skip,Mf];exact r _ _ h
 ·rename_i g args w' aV;rw[aV,Oper.uponIn_enter];refine⟨λbm=>(by rw[cx.depth]at bm;cases bm),cx.calls _ (Calls.mono h ?_)⟩;rintro e aj8 ⟨v,rfl,aM⟩;show K' ((gS cx n ms f).put o.dst v) aj8;rw[Mf];exact r _ _ aM
 ·rename_i l g tmps x y w' aV;rw[aV,Oper.uponIn_round];refine⟨λbm=>(by rw[cx.depth]at bm;cases bm),cx.round _ (RoundIn.mono h ?_)⟩;rintro e aj8 ⟨v,rfl,aM⟩;show K' ((gS cx n ms f).put o.dst v) aj8;rw[Mf];exact r _ _ aM
 ·exact h.elim
theorem ed.mono{P:Program}{cw:Operand->N}{o:Oper}{w:M}{K K':N->M->Prop}(r:∀v w',K v w'->K' v w')(h:ed P cw o w K):ed P cw o w K':=by
 unfold ed at*;split at h
 ·exact r _ _ h
 ·exact r _ _ h
 ·exact h.mono r
 ·exact KH.mono r h
 ·exact h.elim
theorem aME{P:Program}{cw:Operand->N}{o:Oper}{w w':M}{v:N}{K:N->M->Prop}(h:(execOp cw o).run P w=.ok (.value v) w')(r:K v w'):ed P cw o w K:=by
 unfold ed;rw[h];exact r
def iz(P:Program)(aX:Array Oper)(n:Nat)(Q:(Nat->N)->M->Prop):List Oper->(Nat->N)->M->Prop
 |[],f,w=>Q f w
 |o::cP,f,w=>
  if Region.wanted o (yielded aX (lL n f))then ed P (hh n f) o w (λv w'=>iz P aX n Q cP (hW f o.dst v) w')
  else iz P aX n Q cP (hW f o.dst undef) w
theorem iz.lM{P:Program}{aX:Array Oper}{cx:nN}{n:Nat}{ms:List Nat}{Q:Exit->Act->M->Prop}{lN:(Nat->N)->M->Prop}(au:∀f w,lN f w->Q .normal (gS cx n ms f) w):
  ∀(l:List Oper) (f:Nat->N) (w:M),iz P aX n lN l f w->wpListIn cx.a' cx.m P aX Q l (gS cx n ms f) w
 |[],f,w,h=>au f w h
 |o::cP,f,w,h=>by
  refine wpListIn_step λK fW=> ?_;unfold iz at h;split at h
  ·rename_i bM;rw[be (show Region.wanted o (yielded aX (gS cx n ms f).tmps)=true from bM)];exact h.lM λv w' aM=>fW _ _ (iz.lM au cP _ _ aM)
  ·rename_i bM;rw[aQ (show¬Region.wanted o (yielded aX (gS cx n ms f).tmps)=true from bM),Mf];exact⟨λg _=>cx.fn g,fW _ _ (iz.lM au cP _ _ h)⟩
def RB(P:Program)(aX:Array Oper)(n:Nat)(Q:(Nat->N)->M->Prop)(cP:List Oper)(f:Nat->N)(d:Option Tmp)(v:N)(w:M):Prop:=iz P aX n Q cP (hW f d v) w
@[simp] theorem aEz(P:Program)(aX:Array Oper)(n:Nat)(Q:(Nat->N)->M->Prop)(cP:List Oper)(f:Nat->N)(d:Option Tmp)(v:N)(w:M):RB P aX n Q cP f d v w=iz P aX n Q cP (hW f d v) w:=f_ rfl
@[simp] theorem aT0(P:Program)(aX:Array Oper)(n:Nat)(Q:(Nat->N)->M->Prop)(f:Nat->N)(w:M):iz P aX n Q [] f w=Q f w:=f_ rfl
@[simp] theorem aT1(P:Program)(aX:Array Oper)(n:Nat)(Q:(Nat->N)->M->Prop)(d:Option Tmp)(op:Op)(bV:TypeId)(pos:String)(eW:Array Edge)(cP:List Oper)(f:Nat->N)(w:M):
  iz P aX n Q (⟨d,op,bV,pos,eW,none⟩::cP) f w=ed P (hh n f) ⟨d,op,bV,pos,eW,none⟩ w (RB P aX n Q cP f d):=by
 show(if _ then _ else _)=_;rw[be (by simp[Region.wanted])];rfl
abbrev hM:=Exit->List Nat->(Nat->N)->M->Prop
abbrev ut:=List Nat->(Nat->N)->M->Prop
def j'(K:ut)(Q:hM):hM
 |.normal,ms,f,w=>K ms f w
 |e,ms,f,w=>Q e ms f w
def ki(ms:List Nat)(bq:(Nat->N)->M->Prop):ut:=λzg f w=>zg=ms/\bq f w
def yx(id:Nat)(Q:hM):hM
 |.exit j,ms,f,w=>if j=id then Q .normal ms f w else Q (.exit j) ms f w
 |e,ms,f,w=>Q e ms f w
def mX:Code->Bool
 |.skip=>true
 |.region ..=>true
 |.seq a b=>mX a&&mX b
 |.cond _ a b=>mX a&&mX b
 |.block _ c=>mX c
 |.loop c=>mX c
 |.exit _=>true
 |.ret=>true
 |_=>false
def xO(cx:nN)(n:Nat)(Q:hM):Exit->Act->M->Prop:=λe a w=>∃ms f,a=gS cx n ms f/\Q e ms f w
def Jj(P:Program)(n:Nat)(Q:hM)(c:Code)(ms:List Nat)(f:Nat->N)(w:M):Prop:=∀cx:nN,(cx.V=none\/mX c=true)->(Code.loop c).wpIn cx.a' cx.m P (xO cx n Q) (gS cx n ms f) w
def Io(P:Program)(n:Nat)(Q:hM)(id:Nat)(aX:Array Oper)(ms:List Nat)(f:Nat->N)(w:M):Prop:=∀cx:nN,(Code.region id aX true).wpIn cx.a' cx.m P (xO cx n Q) (gS cx n ms f) w
def GF(P:Program)(n:Nat)(Q:hM)(c:Code)(ms:List Nat)(f:Nat->N)(w:M):Prop:=∀cx:nN,cx.V=none->c.wpIn cx.a' cx.m P (xO cx n Q) (gS cx n ms f) w
def eu(P:Program)(n:Nat):hM->Code->ut
 |Q,.skip,ms,f,w=>Q .normal ms f w
 |Q,.region _ aX false,ms,f,w=>iz P aX n (Q .normal ms) aX.toList f w
 |Q,.region id aX true,ms,f,w=>Io P n Q id aX ms f w
 |Q,.seq a b,ms,f,w=>eu P n (j' (eu P n Q b) Q) a ms f w
 |Q,.cond c a b,ms,f,w=>(hh n f c=.bool true/\eu P n Q a ms f w)\/(hh n f c=.bool false/\eu P n Q b ms f w)
 |Q,.block id c,ms,f,w=>eu P n (yx id Q) c ms f w
 |Q,.loop c,ms,f,w=>Jj P n Q c ms f w
 |Q,.exit id,ms,f,w=>Q (.exit id) ms f w
 |Q,.ret,ms,f,w=>Q .ret ms f w
 |Q,c,ms,f,w=>GF P n Q c ms f w
def tH(P:Program)(n:Nat)(b:N)(Q:hM)(x y:Code)(ms:List Nat)(f:Nat->N)(w:M):Prop:=(b=.bool true/\eu P n Q x ms f w)\/(b=.bool false/\eu P n Q y ms f w)
theorem Ta{cx:nN}{n:Nat}{K:ut}{K':Act->M->Prop}{Q:hM}(h:∀ms f w,K ms f w->K' (gS cx n ms f) w)(e:Exit)(a:Act)(w:M)(ap:xO cx n (j' K Q) e a w):Exit.then K' (xO cx n Q) e a w:=by
 obtain⟨ms,f,rfl,bP⟩:=ap
 cases e
 case normal=>exact h _ _ _ bP
 all_goals exact⟨ms,f,rfl,bP⟩
theorem eu.lM{P:Program}{cx:nN}{n:Nat}:∀(c:Code) (Q:hM) (ms:List Nat) (f:Nat->N) (w:M),(cx.V=none\/mX c=true)->eu P n Q c ms f w->c.wpIn cx.a' cx.m P (xO cx n Q) (gS cx n ms f) w:=by
 intro c
 induction c with
 |skip=>exact λQ ms f w _ h=>wpIn_skip ⟨ms,f,rfl,h⟩
 |region id aX d=>
  intro Q ms f w _ h
  cases d with
  |true=>exact h cx
  |false=>exact wpIn_region_list (iz.lM (λf w au=>⟨ms,f,rfl,au⟩) _ _ _ h)
 |seq a b Ji GH=>
  intro Q ms f w ax h;have ao:cx.V=none\/mX a=true:=ax.imp id λh=>by simp[mX]at h;exact h.1
  have ab:cx.V=none\/mX b=true:=ax.imp id λh=>by simp[mX]at h;exact h.2
  exact wpIn_seq (wpIn_mono (Ji _ ms f w ao h) (Ta λms f w bM=>GH Q ms f w ab bM))
 |cond c a b Ji GH=>
  intro Q ms f w ax h;have ao:cx.V=none\/mX a=true:=ax.imp id λh=>by simp[mX]at h;exact h.1
  have ab:cx.V=none\/mX b=true:=ax.imp id λh=>by simp[mX]at h;exact h.2
  rcases h with⟨Z,h⟩|⟨Z,h⟩
  ·exact wpIn_cond_true (by rw[Me];exact Z) (Ji Q ms f w ao h)
  ·exact wpIn_cond_false (by rw[Me];exact Z) (GH Q ms f w ab h)
 |block id c bL=>
  intro Q ms f w ax h;refine wpIn_block (wpIn_mono (bL _ ms f w ax h) ?_);rintro e a w ⟨ms,f,rfl,bP⟩
  cases e
  case exit j=>
   show if j=id then _ else _
   simp only[yx]at bP;split<;>rename_i I<;>simp only[I,if_true,if_false]at bP<;>exact⟨ms,f,rfl,bP⟩
  all_goals exact⟨ms,f,rfl,bP⟩
 |loop c=>exact λQ ms f w ax h=>h cx ax
 |rangeFunc=>exact λQ ms f w ax h=>h cx (ax.resolve_right (by simp[mX]))
 |exit id=>exact λQ ms f w _ h=>wpIn_exit ⟨ms,f,rfl,h⟩
 |scope=>exact λQ ms f w ax h=>h cx (ax.resolve_right (by simp[mX]))
 |label=>exact λQ ms f w ax h=>h cx (ax.resolve_right (by simp[mX]))
 |goto=>exact λQ ms f w ax h=>h cx (ax.resolve_right (by simp[mX]))
 |ret=>exact λQ ms f w _ h=>wpIn_ret ⟨ms,f,rfl,h⟩
 |refuse=>exact λQ ms f w ax h=>h cx (ax.resolve_right (by simp[mX]))
section
variable (P:Program)(n:Nat)(Q:hM)(ms:List Nat)(f:Nat->N)(w:M)(K:ut)(bq:(Nat->N)->M->Prop)
@[simp] theorem aT2:j' K Q .normal ms f w=K ms f w:=f_ rfl
@[simp] theorem aT3:j' K Q .normal ms=K ms:=f_ rfl
@[simp] theorem aT4:j' K Q .ret ms f w=Q .ret ms f w:=f_ rfl
@[simp] theorem aT5(i:Nat):j' K Q (.exit i) ms f w=Q (.exit i) ms f w:=f_ rfl
@[simp] theorem aN6:ki ms bq ms f w=bq f w:=propext ⟨λh=>h.2,λh=>⟨rfl,h⟩⟩
@[simp] theorem aT6:ki ms bq ms=bq:=funext λf=>funext λw=>aN6 ms f w bq
@[simp] theorem aT7(id:Nat):yx id Q .normal ms f w=Q .normal ms f w:=f_ rfl
@[simp] theorem aT8(id:Nat):yx id Q .ret ms f w=Q .ret ms f w:=f_ rfl
@[simp] theorem aT9(id j:Nat):yx id Q (.exit j) ms f w=if j=id then Q .normal ms f w else Q (.exit j) ms f w:=f_ rfl
@[simp] theorem aT_:eu P n Q .skip ms f w=Q .normal ms f w:=f_ rfl
@[simp] theorem aT'(id:Nat)(l:List Oper):eu P n Q (.region id l.toArray false) ms f w=iz P l.toArray n (Q .normal ms) l f w:=f_ rfl
@[simp] theorem aUa(id:Nat)(aX:Array Oper):eu P n Q (.region id aX true) ms f w=Io P n Q id aX ms f w:=f_ rfl
@[simp] theorem aiZ(a b:Code):eu P n Q (.seq a b) ms f w=eu P n (j' (eu P n Q b) Q) a ms f w:=f_ rfl
@[simp] theorem aUb(c:Operand)(a b:Code):eu P n Q (.cond c a b) ms f w=tH P n (hh n f c) Q a b ms f w:=f_ rfl
@[simp] theorem aUc(id:Nat)(c:Code):eu P n Q (.block id c) ms f w=eu P n (yx id Q) c ms f w:=f_ rfl
@[simp] theorem aJQ(c:Code):eu P n Q (.loop c) ms f w=Jj P n Q c ms f w:=f_ rfl
@[simp] theorem aUd(g:Operand)(ps:Array Tmp)(a b:Code):eu P n Q (.rangeFunc g ps a b) ms f w=GF P n Q (.rangeFunc g ps a b) ms f w:=f_ rfl
@[simp] theorem aUe(id:Nat):eu P n Q (.exit id) ms f w=Q (.exit id) ms f w:=f_ rfl
@[simp] theorem aUf:eu P n Q .ret ms f w=Q .ret ms f w:=f_ rfl
end
section
variable {P:Program}{n:Nat}{Q:hM}{x y:Code}{ms:List Nat}{f:Nat->N}{w:M}
@[simp] theorem anN:tH P n (.bool true) Q x y ms f w=eu P n Q x ms f w:=by simp[tH]
@[simp] theorem anO:tH P n (.bool false) Q x y ms f w=eu P n Q y ms f w:=by simp[tH]
theorem auc{b:Bool}(bj:b=true->eu P n Q x ms f w)(bP:b=false->eu P n Q y ms f w):tH P n (.bool b) Q x y ms f w:=by
 cases b
 ·exact .inr ⟨rfl,bP rfl⟩
 ·exact .inl ⟨rfl,bj rfl⟩
theorem Ip{p:Prop}[Decidable p](bj:p->eu P n Q x ms f w)(bP:¬p->eu P n Q y ms f w):tH P n (.bool (decide p)) Q x y ms f w:=
 auc (λh=>bj (Xp h)) (λh=>bP (of_decide_eq_false h))
end
theorem VS{K K':ut}{Q lN:hM}(r:∀ms f w,K ms f w->K' ms f w)(au:∀e ms f w,Q e ms f w->lN e ms f w):∀e ms f w,j' K Q e ms f w->j' K' lN e ms f w:=by
 intro e ms f w h
 cases e
 case normal=>exact r _ _ _ h
 all_goals exact au _ _ _ _ h
theorem ais{id:Nat}{Q lN:hM}(au:∀e ms f w,Q e ms f w->lN e ms f w):∀e ms f w,yx id Q e ms f w->yx id lN e ms f w:=by
 intro e ms f w h
 cases e
 case exit j=>
  simp only[yx]at*
  grind
 all_goals exact au _ _ _ _ h
theorem iz.mono{P:Program}{aX:Array Oper}{n:Nat}{Q lN:(Nat->N)->M->Prop}(au:∀f w,Q f w->lN f w):∀(l:List Oper) (f:Nat->N) (w:M),iz P aX n Q l f w->iz P aX n lN l f w
 |[],f,w,h=>au f w h
 |o::cP,f,w,h=>by
  unfold iz at h⊢;split at h
  ·rename_i bM;rw[be bM];exact h.mono λv w' aM=>iz.mono au cP _ _ aM
  ·rename_i bM;rw[aQ bM];exact iz.mono au cP _ _ h
theorem Oc{cx:nN}{n:Nat}{Q lN:hM}(au:∀e ms f w,Q e ms f w->lN e ms f w):∀e a w,xO cx n Q e a w->xO cx n lN e a w:=by
 rintro e a w ⟨ms,f,rfl,h⟩;exact⟨ms,f,rfl,au _ _ _ _ h⟩
theorem eu.mono{P:Program}{n:Nat}:∀(c:Code) {Q lN:hM} (_:∀e ms f w,Q e ms f w->lN e ms f w) (ms:List Nat) (f:Nat->N) (w:M),eu P n Q c ms f w->eu P n lN c ms f w:=by
 intro c
 induction c with
 |skip=>exact λau ms f w h=>au _ _ _ _ h
 |region id aX d=>
  intro Q lN au ms f w h
  cases d with
  |true=>exact λcx=>wpIn_mono (h cx) (Oc au)
  |false=>exact iz.mono (au .normal ms) _ _ _ h
 |seq a b Ji GH=>exact λau ms f w h=>Ji (VS (λms f w h=>GH au ms f w h) au) ms f w h
 |cond c a b Ji GH=>
  intro Q lN au ms f w h;rcases h with⟨Z,h⟩|⟨Z,h⟩
  ·exact .inl ⟨Z,Ji au ms f w h⟩
  ·exact .inr ⟨Z,GH au ms f w h⟩
 |block id c bL=>exact λau ms f w h=>bL (ais au) ms f w h
 |loop c=>exact λau ms f w h cx ax=>wpIn_mono (h cx ax) (Oc au)
 |rangeFunc=>exact λau ms f w h cx ax=>wpIn_mono (h cx ax) (Oc au)
 |exit id=>exact λau ms f w h=>au _ _ _ _ h
 |scope=>exact λau ms f w h cx ax=>wpIn_mono (h cx ax) (Oc au)
 |label=>exact λau ms f w h cx ax=>wpIn_mono (h cx ax) (Oc au)
 |goto=>exact λau ms f w h cx ax=>wpIn_mono (h cx ax) (Oc au)
 |ret=>exact λau ms f w h=>au _ _ _ _ h
 |refuse=>exact λau ms f w h cx ax=>wpIn_mono (h cx ax) (Oc au)
theorem tH.mono{P:Program}{n:Nat}{b:N}{Q lN:hM}{x y:Code}{ms:List Nat}{f:Nat->N}{w:M}(au:∀e ms f w,Q e ms f w->lN e ms f w)(h:tH P n b Q x y ms f w):tH P n b lN x y ms f w:=by
 rcases h with⟨Z,h⟩|⟨Z,h⟩
 ·exact .inl ⟨Z,eu.mono _ au ms f w h⟩
 ·exact .inr ⟨Z,eu.mono _ au ms f w h⟩
theorem ki.go{ms:List Nat}{bq:(Nat->N)->M->Prop}{K:ut}(h:∀f w,bq f w->K ms f w):∀zg f w,ki ms bq zg f w->K zg f w:=by
 rintro zg f w ⟨rfl,ad⟩;exact h f w ad
theorem Jf{P:Program}{n:Nat}{b:N}{Q:hM}{K:ut}{x y:Code}{ms:List Nat}{f:Nat->N}{w:M}(bq:(Nat->N)->M->Prop)(h:tH P n b (j' (ki ms bq) Q) x y ms f w)(bW:∀f w,bq f w->K ms f w):tH P n b (j' K Q) x y ms f w:=
 tH.mono (VS (ki.go bW) λ_ _ _ _ h=>h) h
theorem aKH{P:Program}{n id:Nat}{b:N}{Q:hM}{K:ut}{x y:Code}{ms:List Nat}{f:Nat->N}{w:M}(bq:(Nat->N)->M->Prop)(h:tH P n b (yx id (j' (ki ms bq) Q)) x y ms f w)(bW:∀f w,bq f w->K ms f w):tH P n b (yx id (j' K Q)) x y ms f w:=
 tH.mono (ais (VS (ki.go bW) λ_ _ _ _ h=>h)) h
theorem atw{P:Program}{n:Nat}{Q:hM}{K:ut}{c:Code}{ms:List Nat}{f:Nat->N}{w:M}(bq:(Nat->N)->M->Prop)(h:eu P n (j' (ki ms bq) Q) c ms f w)(bW:∀f w,bq f w->K ms f w):eu P n (j' K Q) c ms f w:=
 eu.mono _ (VS (ki.go bW) λ_ _ _ _ h=>h) ms f w h
def ct(bq:Nat->(Nat->N)->M->Prop)(k:Nat):(Nat->N)->M->Prop:=λf w=>∃lD,lD<k/\bq lD f w
theorem ct.intro{bq:Nat->(Nat->N)->M->Prop}{k:Nat}{f:Nat->N}{w:M}(lD:Nat)(h:lD<k)(ad:bq lD f w):ct bq k f w:=⟨lD,h,ad⟩
theorem di{P:Program}{n:Nat}{Q:hM}{c:Code}{ms:List Nat}{f:Nat->N}{w:M}(bq:Nat->(Nat->N)->M->Prop)(k0:Nat)(bi:bq k0 f w)
  (aA:∀cQ:Nat->(Nat->N)->M->Prop,(∀k f w,bq k f w->cQ k f w)->∀k f w,bq k f w->eu P n (j' (ki ms (ct cQ k)) Q) c ms f w):Jj P n Q c ms f w:=by
 intro cx ax;refine wpIn_loop_ghost (λk a w=>∃f,a=gS cx n ms f/\bq k f w) k0 ⟨f,rfl,bi⟩ ?_;rintro k a w ⟨f,rfl,bP⟩;refine wpIn_mono (eu.lM _ _ _ _ _ ax (aA bq (λ_ _ _ h=>h) k f w bP)) (Ta ?_);rintro zg f w ⟨rfl,lD,r,ad⟩
 grind
def gH(V:Result N)(K:N->M->Prop):Prop:=match V with|.ok v w=>K v w|_=>False
def Lm(V:Result Unit)(K:M->Prop):Prop:=match V with|.ok _ w=>K w|_=>False
@[simp] theorem aUg(v:N)(w:M)(K:N->M->Prop):gH (.ok v w) K=K v w:=f_ rfl
@[simp] theorem aUh(v:Unit)(w:M)(K:M->Prop):Lm (.ok v w) K=K w:=f_ rfl
def r'(P:Program)(t:TypeId)(w:M):Nat:=match(sizeOf t).run P w with|.ok n _=>n|_=>0
@[simp] theorem aUi(P:Program)(t:TypeId)(w:M):r' P t w=match(sizeOf t).run P w with|.ok n _=>n|_=>0:=f_ rfl
def kN(P:Program)(t:TypeId):Array N:=match(P.info? t).bind (·.zero)with|some v=>v.cells|none=>#[]
def Od(P:Program)(t:TypeId)(v:N)(w:M)(K:N->M->Prop):Prop:=gH ((Instr.loadAt t v).run P w) K
def RC(P:Program)(t:TypeId)(a v:N)(w:M)(K:N->M->Prop):Prop:=Lm ((Instr.storeAt t a v).run P w) (K undef)
def WE(P:Program)(t:TypeId)(w:M)(K:N->M->Prop):Prop:=gH ((Instr.alloc t true (.tuple #[])).run P w) K
def jb(P:Program)(t:TypeId)(yS:List (Nat×N))(w:M)(K:N->M->Prop):Prop:=gH ((Instr.build t yS.toArray).run P w) K
def jx(us:Array N):Bool:=us.all (·.oneCell')
def dT(cs:Array N)(off:Nat)(us:Array N):Array N:=(cs.toList.take off++us.toList++cs.toList.drop (off+us.size)).toArray
theorem yJ{l:List N}(h:∀u∈l,u.oneCell'=true):jx l.toArray=true:=by
 show(l.toArray).all (·.oneCell')=true
 grind
@[simp] theorem aia(l:List UInt8):jx (br l).toArray=true:=yJ (AB l)
section
variable (P:Program)(t:TypeId)(w:M)(K:N->M->Prop)
@[simp] theorem aUj(v:N)(h:r' P t w<=8):Od P t v w K=gH ((Instr.loadAt t v).run P w) K:=f_ rfl
@[simp] theorem aUk(a v:N)(h:r' P t w<=8):RC P t a v w K=Lm ((Instr.storeAt t a v).run P w) (K undef):=f_ rfl
@[simp] theorem aUl(h:r' P t w<=8):WE P t w K=gH ((Instr.alloc t true (.tuple #[])).run P w) K:=f_ rfl
@[simp] theorem aUm(yS:List (Nat×N))(h:r' P t w<=8):jb P t yS w K=gH ((Instr.build t yS.toArray).run P w) K:=f_ rfl
def Qe(g off:Nat)(o:Option Obj):Prop:=w.1[g]? =o/\Od P t (.pointer (some ⟨g,off,none⟩)) w K
def WF(g off:Nat)(u:N)(o:Option Obj):Prop:=w.1[g]? =o/\RC P t (.pointer (some ⟨g,off,none⟩)) u w K
@[simp] theorem aUn(g off:Nat)(h:8<r' P t w):Od P t (.pointer (some ⟨g,off,none⟩)) w K=Qe P t w K g off (w.1[g]?):=by simp[Qe]
@[simp] theorem aUo(g off:Nat)(u:N)(h:8<r' P t w):RC P t (.pointer (some ⟨g,off,none⟩)) u w K=WF P t w K g off u (w.1[g]?):=by simp[WF]
variable {P t w}in
theorem avz(h:8<r' P t w):(sizeOf t).run P w=.ok (r' P t w) w:=by
 simp only[r',sizeOf,typeInfo,Sem.run_bind,run_program,Result.andThen_ok]at*
 cases au:P.info? t with
 |none=>simp_all
 |some i=>simp
@[simp] theorem aUp(g off:Nat)(cs:Array N)(bv:TypeId)(fr:Nat×Nat)(er:8<r' P t w)(ao:(isAgg t).run P w=.ok true w)(bP:off+r' P t w<=cs.size):
  Qe P t w K g off (some (.cells cs bv fr))=(w.1[g]? =some (.cells cs bv fr)/\K (.agg (cs.extract off (off+r' P t w))) w):=by
 unfold Qe;refine propext (and_congr_right λab=> ?_);have hz:=avz er;revert hz bP;generalize r' P t w=n;intro bP hz;have ak:(loadCells ⟨g,off,none⟩ n).run P w=.ok (cs.extract off (off+n)) w:=by
  have:=run_loadCells_list (P:=P) w ⟨g,off,none⟩ ((cs.toList.drop off).take n) λj v aM=>by
   rw[Ge,cell_of_row w g _ cs bv fr ab];rw[Se,XJ]at aM;split at aM
   ·simpa using aM
   ·cases aM
  rw[show((cs.toList.drop off).take n).length=n by simp;omega]at this;rw[this];congr 1;apply ip;simp[Lz,Ea]
 unfold Od gH;simp[Instr.loadAt,Instr.sureAddr,loadVar,ao,hz,ak]
@[simp] theorem aUq(g off:Nat)(us cs:Array N)(bv:TypeId)(er:8<r' P t w)(aq:us.size=r' P t w)(bP:off+r' P t w<=cs.size)(J:jx us=true):
  WF P t w K g off (.agg us) (some (.cells cs bv (0,0)))=(w.1[g]? =some (.cells cs bv (0,0))/\K undef (w.setRow g (dT cs off us))):=by
 unfold WF;refine propext (and_congr_right λab=> ?_);have hz:=avz er;rw[<-aq]at bP hz;have aA:=run_storeCells_at P g off bv us.toList 0 cs w ab (by simp;omega) (λv aM=>by
  have:=AD.1 (show us.all (·.oneCell')=true from J) v (by simpa using aM);exact this)
 unfold RC Lm;simp[Instr.storeAt,Instr.sureAddr,storeVar,hz,Value.cells];simp at aA;rw[aA];simp[dT]
@[simp] theorem pJ(h:8<r' P t w)(hz:(P.info? t).map (λi=>i.zero.isSome)=some true):WE P t w K=K (.pointer (some ⟨w.1.size,0,none⟩)) (w.alloc (.cells (kN P t) t)):=by
 unfold WE gH
 cases au:P.info? t with
 |none=>simp[au]at hz
 |some i=>
  cases ad:i.zero with
  |none=>simp[au,ad]at hz
  |some v=>simp[Instr.alloc,zeroValue,typeInfo,au,ad,newVar,newRow,kN]
end
def DM(P:Program)(t:TypeId)(v:N)(w:M)(K:N->M->Prop):Prop:=gH ((do loadVar t (<-asAddr v):Sem N).run P w) K
@[simp] theorem aUr(P:Program)(t:TypeId)(v:N)(w:M)(K:N->M->Prop)(h:r' P t w<=8):DM P t v w K=gH ((do loadVar t (<-asAddr v):Sem N).run P w) K:=f_ rfl
@[simp] theorem aUs(P:Program)(t:TypeId)(a:Addr)(w:M)(K:N->M->Prop)(h:8<r' P t w):DM P t (.pointer (some a)) w K=Od P t (.pointer (some a)) w K:=f_ rfl
def BR(jC:Array ResultVar)(tmps:Array N):Sem N:=do
 let cB<-jC.mapM λ
  |.tmp t=>pure (tmps.getD t undef)
  |.cell a t=>do loadVar t (<-asAddr (tmps.getD a undef))
 pure (if h:cB.size=1 then cB[0]else .tuple cB)
def kA(P:Program)(n:Nat)(jC:Array ResultVar)(f:Nat->N)(w:M)(R:N->M->Prop):Prop:=
 ∃v,(BR jC (lL n f)).run P w=.ok v w/\R v w
def wB:List Nat->M->(M->Prop)->Prop
 |[],w,K=>K w
 |D::ms,w,K=>w.1[D]? =some (.deferred (some []))/\wB ms (w.putObj D (.deferred none)) K
@[simp] theorem Tc(w:M)(K:M->Prop):wB [] w K=K w:=f_ rfl
@[simp] theorem adX(D:Nat)(ms:List Nat)(w:M)(K:M->Prop):wB (D::ms) w K=(w.1[D]? =some (.deferred (some []))/\wB ms (w.putObj D (.deferred none)) K):=f_ rfl
def Cv(P:Program)(n:Nat)(fn:Func)(R:N->M->Prop):hM
 |.ret,ms,f,w=>wB ms w λw=>kA P n fn.results f w R
 |.normal,ms,f,w=>wB ms w λw=>kA P n fn.results f w R
 |_,_,_,_=>False
section
variable (P:Program)(n:Nat)(fn:Func)(R:N->M->Prop)(f:Nat->N)(w:M)
@[simp] theorem aUt:Cv P n fn R .ret [] f w=kA P n fn.results f w R:=f_ rfl
@[simp] theorem aUu:Cv P n fn R .normal [] f w=kA P n fn.results f w R:=f_ rfl
theorem Ez(ms:List Nat):Cv P n fn R .ret ms f w=wB ms w λw=>kA P n fn.results f w R:=f_ rfl
theorem adU(ms:List Nat):Cv P n fn R .normal ms f w=wB ms w λw=>kA P n fn.results f w R:=f_ rfl
theorem aN7:kA P n #[] f w R=R (.tuple #[]) w:=by simp[kA,BR]
theorem aN8(t:Nat):kA P n #[.tmp t] f w R=R (hh n f (.tmp t)) w:=by
 have h:(BR #[.tmp t] (lL n f)).run P w=.ok (hh n f (.tmp t)) w:=by simp[BR,Li, - Array.getD_eq_getD_getElem?]
 simp[kA,h]
theorem aN9(t u:Nat):kA P n #[.tmp t,.tmp u] f w R=R (.tuple #[hh n f (.tmp t),hh n f (.tmp u)]) w:=by
 have h:(BR #[.tmp t,.tmp u] (lL n f)).run P w=.ok (.tuple #[hh n f (.tmp t),hh n f (.tmp u)]) w:=by simp[BR,Li, - Array.getD_eq_getD_getElem?]
 simp[kA,h]
theorem aN_(t u x:Nat):kA P n #[.tmp t,.tmp u,.tmp x] f w R=R (.tuple #[hh n f (.tmp t),hh n f (.tmp u),hh n f (.tmp x)]) w:=by
 have h:(BR #[.tmp t,.tmp u,.tmp x] (lL n f)).run P w=.ok (.tuple #[hh n f (.tmp t),hh n f (.tmp u),hh n f (.tmp x)]) w:=by simp[BR,Li, - Array.getD_eq_getD_getElem?]
 simp[kA,h]
end
def ab9(R:N->M->Prop)(w:M)(v:N)(w':M):Prop:=w'=w/\R v w
def WG(R:N->M->Prop)(w:M)(u v:N)(w':M):Prop:=w'=w/\R (.tuple #[u,v]) w
def ab_(R:N->M->Prop)(w:M)(u v:N)(w':M):Prop:=w'=w/\R (.tuple #[v,u]) w
@[simp] theorem aUv(R:N->M->Prop)(w:M)(v:N)(w':M):ab9 R w v w'=(w'=w/\R v w):=f_ rfl
@[simp] theorem aUw(R:N->M->Prop)(w:M)(u v:N)(w':M):WG R w u v w'=(w'=w/\R (.tuple #[u,v]) w):=f_ rfl
@[simp] theorem aUx(R:N->M->Prop)(w:M)(u v:N)(w':M):ab_ R w u v w'=(w'=w/\R (.tuple #[v,u]) w):=f_ rfl
theorem aN'(P:Program)(n:Nat)(R:N->M->Prop)(f:Nat->N)(w:M)(a:Nat)(bV:TypeId):
  kA P n #[.cell a bV] f w R=DM P bV (hh n f (.tmp a)) w (ab9 R w):=by
 show _=gH _ _;unfold kA gH;simp only[BR,XK,XL,XM,Li,Wq];simp only[Sem.run_bind,Sem.run_pure,Sem.run_map]
 cases J:(asAddr (if a<n then f a else undef)).run P w with
 |halt h an=>simp
 |ok bx an=>
  simp only[Result.andThen_ok]
  cases T:(loadVar bV bx).run P an with
  |halt h aJ=>simp
  |ok v aJ=>
   apply propext;simp[ab9]
   grind
theorem aOa(P:Program)(n:Nat)(R:N->M->Prop)(f:Nat->N)(w:M)(t a:Nat)(bV:TypeId):
  kA P n #[.cell a bV,.tmp t] f w R=DM P bV (hh n f (.tmp a)) w (ab_ R w (hh n f (.tmp t))):=by
 show _=gH _ _;unfold kA gH;simp only[BR,XK,XL,XM,Li,Wq];simp only[Sem.run_bind,Sem.run_pure,Sem.run_map,Result.andThen_ok]
 cases J:(asAddr (if a<n then f a else undef)).run P w with
 |halt h an=>simp
 |ok bx an=>
  simp only[Result.andThen_ok]
  cases T:(loadVar bV bx).run P an with
  |halt h aJ=>simp
  |ok v aJ=>
   apply propext;simp[ab_]
   grind
def Uw(P:Program)(bV:TypeId)(y:N)(R:N->M->Prop)(w:M)(v:N)(w':M):Prop:=DM P bV y w' (WG R w v)
@[simp] theorem aUy(P:Program)(bV:TypeId)(y:N)(R:N->M->Prop)(w:M)(v:N)(w':M):Uw P bV y R w v w'=DM P bV y w' (WG R w v):=f_ rfl
theorem aOb(P:Program)(n:Nat)(R:N->M->Prop)(f:Nat->N)(w:M)(a b:Nat)(aj9 kp:TypeId):
  kA P n #[.cell a aj9,.cell b kp] f w R=DM P aj9 (hh n f (.tmp a)) w (Uw P kp (hh n f (.tmp b)) R w):=by
 show _=gH _ _;unfold kA gH;simp only[BR,XK,XL,XM,Li,Wq];simp only[Sem.run_bind,Sem.run_pure,Sem.run_map]
 cases J:(asAddr (if a<n then f a else undef)).run P w with
 |halt h an=>simp
 |ok bx an=>
  simp only[Result.andThen_ok]
  cases T:(loadVar aj9 bx).run P an with
  |halt h aJ=>simp
  |ok v aJ=>
   simp only[Result.andThen_ok];unfold Uw DM gH;simp only[Sem.run_bind]
   cases ag:(asAddr (if b<n then f b else undef)).run P aJ with
   |halt h bs=>simp
   |ok aOc bs=>
    simp only[Result.andThen_ok]
    cases aP:(loadVar kp aOc).run P bs with
    |halt h bD=>simp
    |ok u bD=>
     apply propext;simp[WG]
     grind
def EC(l:List N):Nat->N:=λi=>l.getD i undef
@[simp] theorem aUz(l:List N)(i:Nat):EC l i=l.getD i undef:=f_ rfl
theorem adY(args:Array N)(n:Nat)(h:args.size<=n):args++Array.replicate (n - args.size) undef=lL n (EC args.toList):=by
 apply OQ;intro i;rw[RA n (EC args.toList) i,Ce];unfold EC
 grind
theorem Td{P:Program}{n:Nat}{fn:Func}{f:Nat->N}{R:N->M->Prop}:∀(ms:List Nat) (w:M),wB ms w (λw=>kA P n fn.results f w R)->LeavesInM Fence.wide 0 P fn (lL n f) (λe w'=>∃v,e=.returned v/\R v w') (EB ms++[]) .returning w
 |[],w,h=>by
  obtain⟨v,J,T⟩:=h;exact⟨v,J,v,rfl,T⟩
 |D::ms,w,h=>⟨by simp,.inl ⟨D,_,rfl,run_takeDeferred h.1,Td ms _ h.2⟩⟩
theorem agk{P:Program}{g:FuncId}{fn:Func}{c:Code}{args:Array N}{w:M}{R:N->M->Prop}{n:Nat}(bP:P.funcs[g]? =some fn)(aq:fn.ntmps=n)(ab:fn.body=some c)(ao:args.size<=n)
  (h:∀bk:N->M->Prop,(∀v w',R v w'->bk v w')->eu P n (Cv P n fn bk) c [] (EC args.toList) w):bc P g args w R:=by
 replace h:=h R λ_ _ h=>h;refine(callsIn_wide (n:=0)).1 (callsIn_of_wp_marks bP ab trivial ?_ rfl);subst aq;rw[adY args _ ao];refine wpIn_mono (eu.lM (cx:=⟨none,0,[]⟩) _ _ _ _ _ (.inl rfl) h) ?_;rintro e a w' ⟨ms,f,rfl,au⟩
 cases e
 case normal=>exact Td ms w' au
 case ret=>exact Td ms w' au
 all_goals exact au.elim
theorem bz{P:Program}{g:FuncId}{fn:Func}{c:Code}{args:Array Value}{w:World}{R:Value->World->Prop}{n:Nat}(bP:P.funcs[g]? =some fn)(aq:fn.ntmps=n)(h:∀bk:Value->World->Prop,(∀v w',R v w'->bk v w')->eu P n (Cv P n fn bk) c [] (EC args.toList) w)(ab:fn.body=some c:=by exact rfl)(ao:args.size<=n:=by simp):bc P g args w R:=agk bP aq ab ao h
theorem oR{P:Program}{cw:Operand->N}{o:Oper}{w:M}{K:N->M->Prop}{s:Sem N}(h:execOp cw o=(do pure (.value (<-s)))):ed P cw o w K=gH (s.run P w) K:=by
 unfold ed;rw[h];simp only[Sem.run_bind,Sem.run_pure]
 cases s.run P w<;>rfl
theorem aj_{P:Program}{cw:Operand->N}{o:Oper}{w:M}{K:N->M->Prop}{s:Sem Unit}(h:execOp cw o=(do s;pure .skip)):ed P cw o w K=Lm (s.run P w) (K undef):=by
 unfold ed;rw[h];simp only[Sem.run_bind,Sem.run_pure]
 cases s.run P w<;>rfl
section
variable (P:Program)(cw:Operand->N)(w:M)(K:N->M->Prop)(d:Option Tmp)(bV:TypeId)(pos:String)(eW:Array Edge)(g:Option (Nat×Bool))
@[simp] theorem aUA(x:Operand):ed P cw ⟨d,.move x,bV,pos,eW,g⟩ w K=K (cw x) w:=f_ rfl
@[simp] theorem aUB(x:Operand):ed P cw ⟨d,.assign x,bV,pos,eW,g⟩ w K=K (cw x) w:=f_ rfl
@[simp] theorem aUC(c a b:Operand):ed P cw ⟨d,.pick c a b,bV,pos,eW,g⟩ w K=gH ((do pure (if<-asBool (cw c)then cw a else cw b):Sem N).run P w) K:=
 oR (by simp[execOp])
@[simp] theorem aUD(e:TypeId):ed P cw ⟨d,.alloc e,bV,pos,eW,g⟩ w K=WE P e w K:=oR rfl
@[simp] theorem aUE(e:TypeId)(x:Operand):ed P cw ⟨d,.box e x,bV,pos,eW,g⟩ w K=gH ((Instr.box e (cw x)).run P w) K:=oR rfl
@[simp] theorem aUF(t:TypeId)(l:List (Nat×Operand)):ed P cw ⟨d,.build t l.toArray,bV,pos,eW,g⟩ w K=jb P t (l.map λ(i,x)=>(i,cw x)) w K:=oR (by simp[execOp])
@[simp] theorem aw3(t:TypeId)(m:Nat)(l:List (Nat×Operand)):ed P cw ⟨d,.buildSlice t m l.toArray,bV,pos,eW,g⟩ w K=gH ((Instr.buildSlice t m (l.map λ(i,x)=>(i,cw x)).toArray).run P w) K:=oR (by simp[execOp])
@[simp] theorem aUG(t:TypeId)(x:Operand):ed P cw ⟨d,.load t x,bV,pos,eW,g⟩ w K=Od P t (cw x) w K:=oR rfl
@[simp] theorem aUH(t:TypeId)(a x:Operand):ed P cw ⟨d,.store t a x,bV,pos,eW,g⟩ w K=RC P t (cw a) (cw x) w K:=aj_ rfl
@[simp] theorem aUI(op:BinOp)(t aOd:TypeId)(x y:Operand):ed P cw ⟨d,.binOp op t x y aOd,bV,pos,eW,g⟩ w K=gH ((do eqGuard op t x y (cw x) (cw y);binOp op t (cw x) (cw y):Sem N).run P w) K:=oR rfl
@[simp] theorem aUJ(op:UnOp)(t:TypeId)(x:Operand):ed P cw ⟨d,.unOp op t x,bV,pos,eW,g⟩ w K=gH ((Op.unary op (cw x)).run P w) K:=oR rfl
@[simp] theorem aUK(s t:TypeId)(x:Operand):ed P cw ⟨d,.convert s t x,bV,pos,eW,g⟩ w K=gH ((convert s t (cw x)).run P w) K:=oR rfl
@[simp] theorem aUL(t:TypeId)(x:Operand)(l h m:Option Operand):ed P cw ⟨d,.slice t x l h m,bV,pos,eW,g⟩ w K=gH ((Instr.sliceAt t (cw x) (l.map cw) (h.map cw) (m.map cw)).run P w) K:=oR rfl
@[simp] theorem aUM(t:TypeId)(x:Operand)(i:Nat):ed P cw ⟨d,.fieldAddr t x i,bV,pos,eW,g⟩ w K=gH ((Instr.fieldAt t (cw x) i).run P w) K:=oR rfl
@[simp] theorem aUN(t:TypeId)(x:Operand)(i:Nat):ed P cw ⟨d,.field t x i,bV,pos,eW,g⟩ w K=gH ((Instr.field t (cw x) i).run P w) K:=oR rfl
@[simp] theorem aUO(t:TypeId)(x i:Operand):ed P cw ⟨d,.indexAddr t x i,bV,pos,eW,g⟩ w K=gH ((Instr.indexAt t (cw x) (cw i)).run P w) K:=oR rfl
@[simp] theorem aUP(t:TypeId)(x i:Operand):ed P cw ⟨d,.index t x i,bV,pos,eW,g⟩ w K=gH ((Instr.index t (cw x) (cw i)).run P w) K:=oR rfl
@[simp] theorem aUQ(x:Operand)(i:Nat):ed P cw ⟨d,.extract x i,bV,pos,eW,g⟩ w K=gH ((Instr.extract (cw x) i).run P w) K:=oR rfl
@[simp] theorem aUR(t:TypeId)(V:Option Operand):ed P cw ⟨d,.makeMap t V,bV,pos,eW,g⟩ w K=gH ((Instr.makeMap t (V.map cw)).run P w) K:=oR rfl
@[simp] theorem aUS(fn:Fn)(l m:List Operand):ed P cw ⟨d,.makeFunc fn l.toArray m.toArray,bV,pos,eW,g⟩ w K=gH ((Instr.makeFunc fn (l.map cw).toArray (m.map cw).toArray).run P w) K:=oR (by simp[execOp])
@[simp] theorem aUT(t:TypeId)(x:Operand):ed P cw ⟨d,.makeInterface t x,bV,pos,eW,g⟩ w K=gH ((Instr.makeInterface t (cw x)).run P w) K:=oR rfl
@[simp] theorem aUU(t:TypeId)(x:Operand):ed P cw ⟨d,.sliceToArrayPointer t x,bV,pos,eW,g⟩ w K=gH ((Instr.arrayAt t (cw x)).run P w) K:=oR rfl
@[simp] theorem aUV(t:TypeId)(x i:Operand)(ok:Bool):ed P cw ⟨d,.lookup t x i ok,bV,pos,eW,g⟩ w K=gH ((Instr.lookup t (cw x) (cw i) ok).run P w) K:=oR rfl
@[simp] theorem aUW(t:TypeId)(m k x:Operand):ed P cw ⟨d,.mapUpdate t m k x,bV,pos,eW,g⟩ w K=Lm ((Instr.mapUpdate t (cw m) (cw k) (cw x)).run P w) (K undef):=aj_ rfl
@[simp] theorem aUX(t:TypeId)(m k x:Operand):ed P cw ⟨d,.insert t m k x,bV,pos,eW,g⟩ w K=Lm ((Instr.mapUpdate t (cw m) (cw k) (cw x)).run P w) (K undef):=aj_ rfl
@[simp] theorem aUY(t:TypeId)(x y:Operand):ed P cw ⟨d,.makeSlice t x y,bV,pos,eW,g⟩ w K=gH ((Instr.makeSlice t (cw x) (cw y)).run P w) K:=oR rfl
def Iq(P:Program)(v:N)(w:M)(K:N->M->Prop):Prop:=ed P (λ_=>v) ⟨none,.nilCheck (.tmp 0),0,"",#[],none⟩ w K
@[simp] theorem aUZ(x:Operand):ed P cw ⟨d,.nilCheck x,bV,pos,eW,g⟩ w K=Iq P (cw x) w K:=by
 unfold Iq ed;rfl
@[simp] theorem aU0(a:Addr):Iq P (.pointer (some a)) w K=K (.pointer (some a)) w:=by
 unfold Iq ed;simp[execOp]
@[simp] theorem aU1(t:TypeId)(v:N):Iq P (.iface t v) w K=K (.iface t v) w:=by
 unfold Iq ed;simp[execOp]
@[simp] theorem aU2(f:FuncId)(x y:Array N):Iq P (.func (.func f) x y) w K=K (.func (.func f) x y) w:=by
 unfold Iq ed;simp[execOp]
def pN(P:Program)(b:Builtin)(gm:Array TypeId)(bV:TypeId)(args:Array N)(w:M)(K:N->M->Prop):Prop:=
 gH ((match b with
  |.append=>Builtin.append_ gm bV args
  |.cap=>Builtin.cap_ gm bV args
  |.clear=>Builtin.clear_ gm bV args
  |.copy=>Builtin.copy_ gm bV args
  |.delete=>Builtin.delete_ gm bV args
  |.len=>Builtin.len_ gm bV args
  |.max=>Builtin.max_ gm bV args
  |.min=>Builtin.min_ gm bV args
  |_=>stuck "no":Sem N).run P w) K
theorem Oe(b:Builtin)(ab:b=.append\/b=.cap\/b=.clear\/b=.copy\/b=.delete\/b=.len\/b=.max\/b=.min)(l:List Operand)(gm:Array TypeId):
  ed P cw ⟨d,.call ⟨.builtin b,l.toArray,gm⟩,bV,pos,eW,g⟩ w K=pN P b gm bV (l.map cw).toArray w K:=by
 unfold pN;refine oR ?_;rcases ab with rfl|rfl|rfl|rfl|rfl|rfl|rfl|rfl<;>simp[execOp,resolve,invoke,builtin]
@[simp] theorem aU3(l:List Operand)(gm:Array TypeId):ed P cw ⟨d,.call ⟨.builtin .append,l.toArray,gm⟩,bV,pos,eW,g⟩ w K=pN P .append gm bV (l.map cw).toArray w K:=Oe _ _ _ _ _ _ _ _ _ _ (by simp) _ _
@[simp] theorem aU4(l:List Operand)(gm:Array TypeId):ed P cw ⟨d,.call ⟨.builtin .copy,l.toArray,gm⟩,bV,pos,eW,g⟩ w K=pN P .copy gm bV (l.map cw).toArray w K:=Oe _ _ _ _ _ _ _ _ _ _ (by simp) _ _
@[simp] theorem aU5(l:List Operand)(gm:Array TypeId):ed P cw ⟨d,.call ⟨.builtin .delete,l.toArray,gm⟩,bV,pos,eW,g⟩ w K=pN P .delete gm bV (l.map cw).toArray w K:=Oe _ _ _ _ _ _ _ _ _ _ (by simp) _ _
@[simp] theorem aU6(l:List Operand)(gm:Array TypeId):ed P cw ⟨d,.call ⟨.builtin .clear,l.toArray,gm⟩,bV,pos,eW,g⟩ w K=pN P .clear gm bV (l.map cw).toArray w K:=Oe _ _ _ _ _ _ _ _ _ _ (by simp) _ _
@[simp] theorem aU7(x:Operand)(t:TypeId):ed P cw ⟨d,.call ⟨.builtin .len,#[x],#[t]⟩,bV,pos,eW,g⟩ w K=gH ((Builtin.len_ #[t] bV #[cw x]).run P w) K:=(Oe P cw w K d bV pos eW g .len (by simp) [x] #[t])
@[simp] theorem aU8(x y:Operand)(gm:Array TypeId):ed P cw ⟨d,.call ⟨.builtin .max,#[x,y],gm⟩,bV,pos,eW,g⟩ w K=gH ((Builtin.max_ gm bV #[cw x,cw y]).run P w) K:=(Oe P cw w K d bV pos eW g .max (by simp) [x,y] gm)
@[simp] theorem aU9(x y:Operand)(gm:Array TypeId):ed P cw ⟨d,.call ⟨.builtin .min,#[x,y],gm⟩,bV,pos,eW,g⟩ w K=gH ((Builtin.min_ gm bV #[cw x,cw y]).run P w) K:=(Oe P cw w K d bV pos eW g .min (by simp) [x,y] gm)
def An(P:Program)(GJ:N)(args:List N)(w:M)(K:N->M->Prop):Prop:=
 match(do let d<-Deferred.ofValue GJ args.toArray;invoke d.target d.args:Sem Go.Next).run P w with
 |.ok (.value v) w'=>K v w'
 |.ok .skip w'=>K undef w'
 |.ok (.enter g args) w'=>bc P g args w' K
 |.ok (.round l g tmps x y) w'=>KH P l g tmps x y w' K
 |_=>False
@[simp] theorem aU_(x:Operand)(l:List Operand)(gm:Array TypeId):ed P cw ⟨d,.call ⟨.value x,l.toArray,gm⟩,bV,pos,eW,g⟩ w K=An P (cw x) (l.map cw) w K:=by
 unfold ed An;simp[execOp,resolve]
@[simp] theorem arm(f:FuncId)(args:List N)(h:(callFunc f args.toArray).run P w=.ok (.enter f args.toArray) w):An P (.func (.func f) #[] #[]) args w K=bc P f args.toArray w K:=by
 unfold An;simp[Deferred.ofValue,invoke,h]
theorem EJ(f:FuncId)(c:List N)(args:List N)(h:(callFunc f (args++c).toArray).run P w=.ok (.enter f (args++c).toArray) w):An P (.func (.func f) #[] c.toArray) args w K=bc P f (args++c).toArray w K:=by
 unfold An;simp[Deferred.ofValue,invoke,h]
def adS(P:Program)(l:Nat)(args:Array N)(w:M)(R:N->M->Prop):Prop:=YieldAt Fence.wide 0 P l args w λe w'=>∃v,e=.returned v/\R v w'
theorem SX{l:Nat}{args:List N}{R:N->M->Prop}(h:adS P l args.toArray w R)(r:∀v w',R v w'->K v w'):An P (.func (.yield l) #[] #[]) args w K:=by
 obtain⟨fn,tmps,x,y,ar,ax⟩:=h;unfold An;simp[Deferred.ofValue,invoke,ar];exact KH.mono r ax
end
attribute [simp] aN7 aN8 aN9 aN_ aN' aOa aOb
section
variable {P:Program}{w:M}{t e bV:TypeId}{z:N}{bytes:Nat}{K:N->M->Prop}
theorem KR{gm:Array TypeId}{args:Array N}{v:N}{w':M}(h:(Builtin.append_ gm bV args).run P w=.ok v w')(r:K v w'):pN P .append gm bV args w K:=by
 show gH _ _;simp only[h];exact r
theorem HP(bv:sd P t e z bytes){v:N}{n:Nat}{xs:List N}{u:N}
  (fG:w.ownsRow 0 e 1 v n xs)(J:u.oneCell'=true)(th:n+1<=maxLen)(ti:(n+1)*bytes<=140737488355328)
  (h:∀v' w',w'.ownsRow 0 e 1 v' (n+1) (xs++[u])->H (λk=>v.ownBlock=some k) w w'->(v'.ownBlock=v.ownBlock\/gr w.1.size v')->K v' w'):
  pN P .append #[t,t] bV #[v,.slice (some ⟨w.1.size,0,none⟩) 1 1] (w.alloc (.cells #[u] e)) K:=by
 obtain⟨v',w',ax,bn,bh,bA⟩:=awF bv bV fG J th ti;exact KR ax (h v' w' bn bh bA)
theorem Lx(bv:sd P t e z bytes){v:N}{n:Nat}{xs:List N}{y:N}{m:Nat}{ys:List N}
  (fG:w.ownsRow 0 e 1 v n xs)(ar:bC w y m ys)(aC:ys.length=m)(J:∀u∈ys,u.oneCell'=true)(th:n+m<=maxLen)(ti:(n+m)*bytes<=140737488355328)
  (h:∀v' w',w'.ownsRow 0 e 1 v' (n+m) (xs++ys)->H (λk=>v.ownBlock=some k) w w'->(v'.ownBlock=v.ownBlock\/gr w.1.size v')->K v' w'):
  pN P .append #[t,t] bV #[v,y] w K:=by
 obtain⟨v',w',ax,bn,bh,bA⟩:=ada bv bV fG ar aC J th ti;exact KR ax (h v' w' bn bh bA)
theorem aOe(bv:sd P t e z bytes){y:N}{m:Nat}{ys:List N}
  (ar:bC w y m ys)(aC:ys.length=m)(J:∀u∈ys,u.oneCell'=true)(th:m<=maxLen)(ti:m*bytes<=140737488355328)
  (h:∀v' w',w'.ownsRow 0 e 1 v' m ys->H al w w'->gr w.1.size v'->K v' w'):
  pN P .append #[t,t] bV #[.slice none 0 0,y] w K:=by
 refine Lx bv (pA _ _ _ _) ar aC J (by omega) (by grind) λv' w' bn bh bA=>h v' w' (by simpa using bn) (bh.mono λj _ e=>by simp[Value.ownBlock]at e) ?_;rcases bA with bA|bA
 ·intro j I;rw[bA]at I;simp[Value.ownBlock]at I
 ·exact bA
end
section
variable (P:Program)(aX:Array Oper)(n:Nat)
def xp(i:Nat)(f:Nat->N)(w:M)(K:N->M->Prop):Prop:=
 match aX[i]? with
 |none=>False
 |some o=>if Region.wanted o (yielded aX (lL n f))then ed P (hh n f) o w K else K undef w
def ja(i:Nat):Option Tmp:=(aX[i]?).bind (·.dst)
abbrev wa:=Nat×(Nat->N)×N
def Of(w:M)(a':wa):Prop:=xp P aX n a'.1 a'.2.1 w λv' w'=>v'=a'.2.2/\w'=w
def BU(Q:(Nat->N)->M->Prop):List (Nat×Option (List Nat))->List wa->(Nat->N)->M->Prop
 |[],_,f,w=>Q f w
 |(i,none)::cP,L,f,w=>xp P aX n i f w λv w'=>w'=w/\BU Q cP ((i,f,v)::L) (hW f (ja aX i) v) w
 |(i,some fK)::cP,L,f,w=>xp P aX n i f w λv w'=>(∀a'∈L,a'.1∈fK->Of P aX n w' a')/\BU Q cP (L.filter λa'=>decide (a'.1∈fK)) (hW f (ja aX i) v) w'
end
def dw(aX:Array Oper)(i j:Nat):Bool:=((Region.before aX).getD i 0).testBit j
theorem aOf(cm:Array Nat)(b:Nat):∀(l:List Edge) (s:Nat),(l.foldl (λs e=>if Region.binds .any e then s|||2^e.on|||cm.getD e.on 0 else s) s).testBit b=true->
  s.testBit b=true\/∃e∈l,Region.binds .any e=true/\(e.on=b\/(cm.getD e.on 0).testBit b=true):=by
 intro l
 induction l with
 |nil=>intro s h;exact .inl h
 |cons e l bL=>
  intro s h;rw[yO]at h;rcases bL _ h with J|⟨ek,zz,ab,ax⟩
  ·split at J
   ·grind
   ·exact .inl J
  grind
theorem aj'(aX:Array Oper):∀(i:Nat) (o:Oper) (b:Nat),aX[i]? =some o->dw aX i b=true->
  ∃e∈o.after,Region.binds .any e=true/\(e.on=b\/(e.on<i/\dw aX e.on b=true)):=by
 have key:(Region.before aX).size=aX.size/\∀(i:Nat) (o:Oper) (b:Nat),i<aX.size->aX[i]? =some o->((Region.before aX).getD i 0).testBit b=true->
   ∃e∈o.after,Region.binds .any e=true/\(e.on=b\/(e.on<i/\((Region.before aX).getD e.on 0).testBit b=true)):=by
  unfold Region.before;refine Array.foldl_induction (motive:=λk (cm:Array Nat)=>cm.size=k/\∀(i:Nat) (o:Oper) (b:Nat),i<k->aX[i]? =some o->(cm.getD i 0).testBit b=true->
   ∃e∈o.after,Region.binds .any e=true/\(e.on=b\/(e.on<i/\(cm.getD e.on 0).testBit b=true))) ⟨rfl,λi _ _ h=>absurd h (by omega)⟩ ?_
  rintro k cm ⟨aA,r⟩;refine⟨by simp[aA],λi o b ad av ab=> ?_⟩;have pt:∀j,j<cm.size->∀x:Nat,(cm.push x).getD j 0=cm.getD j 0:=λj I x=>by
   simp[Array.getElem?_push_lt I,I]
  by_cases aiq:i<k
  ·grind
  ·have aOg:i=k.1:=by omega
   subst aOg;have u_:aX[k.1]=o:=by
    have:=yP k.2;rw[av]at this;exact(sb this).symm
   have A_:∀x:Nat,(cm.push x).getD k.1 0=x:=λx=>by rw[<-aA];simp
   rw[A_,<-Array.foldl_toList]at ab;rcases aOf cm b _ _ ab with J|⟨e,aV,cZ,dm⟩
   ·simp at J
   grind
 intro i o b av ab;exact key.2 i o b (B'.1 av).1 av ab
theorem ab'{aX:Array Oper}{listed:Array Bool}(Z:∀j py,aX[j]? =some py->listed.getD j false=true->∀e∈py.after,Region.binds .any e=true->listed.getD e.on false=true)(cU:listed.size=aX.size):
  ∀(i j:Nat),dw aX i j=true->listed.getD i false=true->listed.getD j false=true:=by
 intro i
 induction i using Nat.strongRecOn with
 |_ i bL=>
  intro j h ad;have aO:i<aX.size:=by
   rcases Xw i listed.size with h'|h'
   ·omega
   ·grind
  obtain⟨e,aV,ab,ax⟩:=aj' aX i _ j (yP aO) h
  grind
def FP(o:Oper):Bool:=match o.op with
 |.move _|.assign _|.pick ..|.load ..|.nilCheck _|.binOp ..|.unOp ..|.convert ..|.slice ..|.fieldAddr ..|.field ..|.indexAddr ..|.index ..|.extract ..|.lookup ..|.makeInterface ..|.makeFunc ..|.build ..|.sliceToArrayPointer ..=>false
 |.call c=>(match c.callee with|.builtin b=> !(b==.cap||b==.len||b==.max||b==.min)|_=>true)
 |_=>true
def As(aX:Array Oper)(E:List Nat):List Nat->Option Nat->List (Nat×Option (List Nat))->Bool
 |_,_,[]=>true
 |p,qJ,(i,m)::cP=>
  (decide (i<aX.size)&&(aX.getD i default).after.all (λe=> !Region.binds .any e||p.contains e.on))&&cP.all (λk=>k.1 !=i&& !dw aX i k.1)&&
  (match m with
  |none=> !FP (aX.getD i default)&& !E.contains i&&(match qJ with|none=>true|some e=>dw aX i e)
  |some fK=>E.contains i&&p.all (λk=>fK.contains k||dw aX i k||E.contains k||p.any λe=>E.contains e&&dw aX e k))&&
  As aX E (i::p) (match m with|none=>qJ|some _=>some i) cP
def rr(mh:List (Nat×Option (List Nat))):List Nat:=(mh.filter λx=>x.2.isSome).map (·.1)
def aka(aX:Array Oper):Bool:=
 let all:=List.range aX.size
 all.all (λi=>all.all λj=>i==j||(match ja aX i,ja aX j with|some d,some e=>d !=e|_,_=>true))&&
 all.all (λi=>all.all λj=>match ja aX j with
  |some d=> !((aX.getD i default).looksAt aX).contains d||(i !=j&&(dw aX i j||dw aX j i))
  |none=>true)&&
 all.all (λi=> !(match(aX.getD i default).op with|.select ..=>true|_=>false))
def akb(aX:Array Oper)(E:List Nat)(mh:List (Nat×Option (List Nat))):Bool:=
 (List.range aX.size).all (λi=>(mh.map (·.1)).contains i)&&As aX E [] none mh
def RD(aX:Array Oper):Nat->List Nat->List (List Nat)
 |0,_=>[[]]
 |k+1,Og=>if Og.isEmpty then[[]]else
  (Og.filter λe=>Og.all λek=>ek==e|| !dw aX e ek).flatMap λe=>(RD aX k (Og.filter (·!=e))).map (e::·)
def Oh(aX:Array Oper)(sa:List (List (Nat×Option (List Nat)))):Bool:=
 let E:=rr (sa.headD [])
 aka aX&& !sa.isEmpty&&sa.all (akb aX E)&&(RD aX E.length E).all λs=>sa.any λpl=>rr pl==s
def FQ(aX:Array Oper):List Nat->Prop
 |[]=>True
 |i::p=>(i<aX.size/\∀e∈(aX.getD i default).after,Region.binds .any e=true->e.on∈p)/\FQ aX p
theorem akc{aX:Array Oper}{i:Nat}{p:List Nat}(J:i<aX.size)(h:(aX.getD i default).after.all (λe=> !Region.binds .any e||p.contains e.on)=true)(av:FQ aX p):FQ aX (i::p):=by
 refine⟨⟨J,λe aV ab=> ?_⟩,av⟩;have:=AD.1 h e aV;simpa[ab]using this
structure aca(aX:Array Oper):Prop where
 dst:∀i j d,ja aX i=some d->ja aX j=some d->i=j
 lA:∀i o j d,aX[i]? =some o->ja aX j=some d->d∈o.looksAt aX->i≠j/\(dw aX i j=true\/dw aX j i=true)
 aOh:∀(i:Nat) (o:Oper) (cs:Array SelectCase) (b:Bool),aX[i]? =some o->o.op≠.select cs b
theorem akd{aX:Array Oper}{i:Nat}{d:Tmp}(h:ja aX i=some d):i<aX.size:=by
 unfold ja at h
 grind
theorem RE{aX:Array Oper}{i:Nat}{o:Oper}(h:aX[i]? =some o):i<aX.size:=(B'.1 h).1
theorem aOi{aX:Array Oper}{i:Nat}{o:Oper}(h:aX[i]? =some o):aX.getD i default=o:=by
 simp_all
theorem aOj{aX:Array Oper}(h:aka aX=true):aca aX:=by
 simp only[aka,ot,vg,wl]at h;obtain⟨⟨J,T⟩,ag⟩:=h;refine⟨λi j d ad I=> ?_,λi o j d av I bm=> ?_,λi o cs b av aV=> ?_⟩
 ·have:=J i (akd ad) j (akd I)
  grind
 ·have:=T i (RE av) j (akd I)
  simp_all
 ·have:=ag i (RE av)
  simp_all
section
variable {P:Program}{aX:Array Oper}{n:Nat}
theorem avA{i:Nat}{f f':Nat->N}{w:M}{K:N->M->Prop}(ok:aca aX)(h:∀o,aX[i]? =some o->∀t∈o.looksAt aX,f t=f' t):xp P aX n i f w K=xp P aX n i f' w K:=by
 unfold xp
 cases av:aX[i]? with
 |none=>rfl
 |some o=>
  have ak:=h o av;have aV:execOp (hh n f) o=execOp (hh n f') o:=by
   refine execOp_congr o (λcs b=>ok.aOh i o cs b av) λx W=> ?_
   cases x with
   |tmp t=>
    have bj:t∈o.looksAt aX:=by
     unfold Oper.looksAt;rw[hP];exact .inl (Xz.2 ⟨.tmp t,by simpa using W,rfl⟩)
    simp only[Wq,ak t bj]
   |_=>rfl
  have bM:Region.wanted o (yielded aX (lL n f))=Region.wanted o (yielded aX (lL n f')):=by
   unfold Region.wanted
   cases aH:o.guard with
   |none=>rfl
   |some g=>
    obtain⟨j,tU⟩:=g;simp only;congr 1;unfold yielded
    cases bm:(aX[j]?).bind (·.dst)with
    |none=>rfl
    |some d=>
     have bj:d∈o.looksAt aX:=by
      unfold Oper.looksAt;rw[hP];refine .inr ?_;simp[aH,bm]
     simp only[Option.bind_some,RA,ak d bj]
  simp only[bM,ed,aV]
theorem aOk{cw:Operand->N}{o:Oper}{w w':M}{g:FuncId}{args:Array N}(h:FP o=false):(execOp cw o).run P w≠.ok (.enter g args) w':=by
 intro aV;have aM:∀s:Sem N,(do pure (Next.value (<-s)):Sem Next).run P w≠.ok (.enter g args) w':=λs e=>by
  simp only[Sem.run_bind,Sem.run_pure]at e
  cases aA:s.run P w<;>rw[aA]at e<;>simp[Result.andThen]at e
 have ap:∀s:Sem Unit,(do s;pure Next.skip:Sem Next).run P w≠.ok (.enter g args) w':=λs e=>by
  simp only[Sem.run_bind,Sem.run_pure]at e
  cases aA:s.run P w<;>rw[aA]at e<;>simp[Result.andThen]at e
 obtain⟨dst,op,type,pos,after,guard⟩:=o
 cases op<;>try(simp[FP]at h;done)
 case call c=>
  obtain⟨callee,aOl,gm⟩:=c
  cases callee
  case builtin b=>
   have ab:b=.cap\/b=.len\/b=.max\/b=.min:=by
    revert h;cases b<;>simp[FP]
   revert aV;rcases ab with rfl|rfl|rfl|rfl<;>simp only[execOp,resolve,invoke,builtin,Sem.run_bind,Sem.run_pure,Result.andThen_ok]<;>intro aV<;>simp_all
  all_goals simp[FP]at h
 case nilCheck x=>
  cases W:cw x
  case pointer a=>
   cases a<;>simp[execOp,W,runtimePanic]at aV
  case func fn first aOm=>
   cases fn
   case method name=>
    simp only[execOp,W]at aV;split at aV
    ·simp[runtimePanic]at aV
    ·revert aV;simp only[Sem.run_bind,run_program,Result.andThen_ok];rename_i t v _
     cases(nilAhead (P.types.size+Made.depth) t v name).run P w with
     |halt h w=>simp
     |ok b an=>
      simp only[Result.andThen_ok];split<;>simp
    ·simp at aV
   all_goals simp[execOp,W]at aV
  all_goals simp[execOp,W,runtimePanic]at aV
 case pick c a b=>exact aM (do pure (if<-asBool (cw c)then cw a else cw b)) (by simpa[execOp]using aV)
 all_goals first
  |exact aM _ aV
  |exact ap _ aV
  |(simp[execOp]at aV;done)
theorem aOn{cw:Operand->N}{o:Oper}{w w':M}{l:Nat}{g:FuncId}{tmps:Array N}{x y:Code}(h:FP o=false):(execOp cw o).run P w≠.ok (.round l g tmps x y) w':=by
 intro aV;have aM:∀s:Sem N,(do pure (Next.value (<-s)):Sem Next).run P w≠.ok (.round l g tmps x y) w':=λs e=>by
  simp only[Sem.run_bind,Sem.run_pure]at e
  cases aA:s.run P w<;>rw[aA]at e<;>simp[Result.andThen]at e
 have ap:∀s:Sem Unit,(do s;pure Next.skip:Sem Next).run P w≠.ok (.round l g tmps x y) w':=λs e=>by
  simp only[Sem.run_bind,Sem.run_pure]at e
  cases aA:s.run P w<;>rw[aA]at e<;>simp[Result.andThen]at e
 obtain⟨dst,op,type,pos,after,guard⟩:=o
 cases op<;>try(simp[FP]at h;done)
 case call c=>
  obtain⟨callee,aOl,gm⟩:=c
  cases callee
  case builtin b=>
   have ab:b=.cap\/b=.len\/b=.max\/b=.min:=by
    revert h;cases b<;>simp[FP]
   revert aV;rcases ab with rfl|rfl|rfl|rfl<;>simp only[execOp,resolve,invoke,builtin,Sem.run_bind,Sem.run_pure,Result.andThen_ok]<;>intro aV<;>simp_all
  all_goals simp[FP]at h
 case nilCheck x=>
  cases W:cw x
  case pointer a=>
   cases a<;>simp[execOp,W,runtimePanic]at aV
  case func fn first aOm=>
   cases fn
   case method name=>
    simp only[execOp,W]at aV;split at aV
    ·simp[runtimePanic]at aV
    ·revert aV;simp only[Sem.run_bind,run_program,Result.andThen_ok];rename_i t v _
     cases(nilAhead (P.types.size+Made.depth) t v name).run P w with
     |halt h w=>simp
     |ok b an=>
      simp only[Result.andThen_ok];split<;>simp
    ·simp at aV
   all_goals simp[execOp,W]at aV
  all_goals simp[execOp,W,runtimePanic]at aV
 case pick c a b=>exact aM (do pure (if<-asBool (cw c)then cw a else cw b)) (by simpa[execOp]using aV)
 all_goals first
  |exact aM _ aV
  |exact ap _ aV
  |(simp[execOp]at aV;done)
theorem aOo{i:Nat}{f:Nat->N}{w:M}{X:N->Prop}(Z:FP (aX.getD i default)=false)(h:xp P aX n i f w λv w'=>w'=w/\X v):∃v,Of P aX n w (i,f,v)/\X v:=by
 unfold xp at h;unfold Of xp
 cases av:aX[i]? with
 |none=>rw[av]at h;exact h.elim
 |some o=>
  rw[aOi av]at Z;simp only[av]at h⊢;split at h
  ·rename_i bM;unfold ed at h;split at h
   ·rename_i v w' ax;refine⟨v,?_,h.2⟩;rw[be bM];unfold ed
    grind
   ·rename_i w' ax;refine⟨undef,?_,h.2⟩;rw[be bM];unfold ed
    grind
   ·rename_i g args w' ax;exact absurd ax (aOk Z)
   ·rename_i l g tmps x y w' ax;exact absurd ax (aOn Z)
   ·exact h.elim
  grind
theorem avB{i:Nat}{f:Nat->N}{w:M}{Q:Exit->Act->M->Prop}{K:N->M->Prop}{K':Act->M->Prop}(cx:nN)(ms:List Nat)(r:∀v w',K v w'->K' (gS cx n ms (hW f (ja aX i) v)) w')(h:xp P aX n i f w K):wpOpIn cx.a' cx.m P aX Q i K' (gS cx n ms f) w:=by
 unfold xp at h;unfold wpOpIn
 cases av:aX[i]? with
 |none=>rw[av]at h;exact h.elim
 |some o=>
  have bm:ja aX i=o.dst:=by simp[ja,av]
  rw[bm]at r;simp only[av]at h⊢;split at h
  ·rename_i bM;rw[be (show Region.wanted o (yielded aX (gS cx n ms f).tmps)=true from bM)];exact h.lM r
  ·rename_i bM;rw[aQ (show¬Region.wanted o (yielded aX (gS cx n ms f).tmps)=true from bM),Mf];exact⟨λg _=>cx.fn g,r _ _ h⟩
structure ake(P:Program)(aX:Array Oper)(n:Nat)(p:List Nat)(L:List wa)(a':Nat->N)(w:M)(listed:Array Bool)(f0 f:Nat->N):Prop where
 size:listed.size=aX.size
 RF:∀j py,aX[j]? =some py->listed.getD j false=true->∀e∈py.after,Region.binds .any e=true->listed.getD e.on false=true
 acb:∀i,listed.getD i false=true->i∈p
 WH:∀i∈p,listed.getD i false=false->∃dq v,(i,dq,v)∈L/\Of P aX n w (i,dq,v)/\(∀d,ja aX i=some d->a' d=v)/\∀o,aX[i]? =some o->∀t∈o.looksAt aX,
  ((∃j,ja aX j=some t/\dw aX i j=true)->dq t=a' t)/\((¬∃j,ja aX j=some t/\dw aX i j=true)->dq t=f0 t)
 WI:∀t i,i∈p->listed.getD i false=false->ja aX i=some t->f t=f0 t
 Ir:∀t,(∀i∈p,ja aX i=some t->listed.getD i false=true)->f t=a' t
 Oi:∀t,(∀i∈p,ja aX i≠some t)->a' t=f0 t
theorem avC{Q:(Nat->N)->M->Prop}(ok:aca aX){E:List Nat}{qJ:Option Nat}{listed:Array Bool}{f0 f:Nat->N}{w:M}:∀(s:List (Nat×Option (List Nat))) (p:List Nat) (L:List wa) (a':Nat->N),
  As aX E p qJ s=true->FQ aX p->(∀i∈p,∀k∈s,i≠k.1/\dw aX i k.1=false)->(∀k∈s,listed.getD k.1 false=false)->BU P aX n Q s L a' w->ake P aX n p L a' w listed f0 f->
  ∃s' hZ Nr JS,As aX E hZ qJ s'=true/\rr s'=rr s/\(∀i∈hZ,i∈p\/E.contains i=false)/\FQ aX hZ/\(∀i∈hZ,∀k∈s',i≠k.1/\dw aX i k.1=false)/\(∀k∈s',listed.getD k.1 false=false)/\BU P aX n Q s' Nr JS w/\ake P aX n hZ Nr JS w listed f0 f/\
   (∀i,(i∈p\/i∈s.map (·.1))->(i∈hZ\/i∈s'.map (·.1)))/\(s'=[]\/∃e fK cP,s'=(e,some fK)::cP):=by
 intro s
 induction s with
 |nil=>grind
 |cons x s bL=>
  obtain⟨i,m⟩:=x;intro p L a' J BV T ag aP bH
  cases m with
  |some fK=>grind
  |none=>
   simp only[As,ot,qf,vg,acY,bne_iff_ne]at J;obtain⟨⟨⟨⟨ad,akf⟩,KV⟩,⟨⟨aOp,Ln⟩,_⟩⟩,WJ⟩:=J;have KV:∀k∈s,k.1≠i/\dw aX i k.1=false:=by
    intro k r;have:=KV k r;simpa using this
   obtain⟨v,aA,CF⟩:=aOo aOp aP;have Is:i∉p:=λam=>(T i am (i,none) (by simp)).1 rfl;have aU':listed.getD i false=false:=ag (i,none) (by simp);have aro:∀d,ja aX i=some d->a' d=f0 d:=λd bm=>bH.Oi d λj I mw=>Is (by rw[ok.dst i j d bm mw];exact I);have xq:∀t,ja aX i≠some t->hW a' (ja aX i) v t=a' t:=λt bj=>by unfold hW;rw[aQ bj]
   have RG:∀t,ja aX i=some t->hW a' (ja aX i) v t=v:=λt bj=>by unfold hW;rw[be bj]
   obtain⟨s',hZ,Nr,JS,bn,aOq,avD,k0,bh,bA,ex,fJ,jZ,oU⟩:=bL (i::p) ((i,a',v)::L) (hW a' (ja aX i) v) WJ (akc ad akf BV)
    (λj I k r=>by
     grind)
    (λk r=>ag k (by simp[r])) CF
    {size:=bH.size
     RF:=bH.RF
     acb:=λj I=>acP _ (bH.acb j I)
     WH:=by
      intro j I iP;rcases io.1 I with rfl|I
      ·refine⟨a',v,by simp,aA,RG,λo av t bj=>⟨λ⟨k,sn,oD⟩=> ?_,λmE=> ?_⟩⟩
       ·exact(xq t λe=>(ok.lA j o j t av e bj).1 rfl).symm
       ·refine bH.Oi t λk r wy=> ?_;have dn:j≠k:=λe=>Is (by rw[e];exact r);rcases(ok.lA j o k t av wy bj).2 with ao|ao
        ·exact mE ⟨k,wy,ao⟩
        ·have:=(T k r (j,none) (by simp)).2;rw[this]at ao;cases ao
      ·obtain⟨dq,u,cC,cj,cp,cy⟩:=bH.WH j I iP;have dn:i≠j:=λe=>Is (by rw[e];exact I);refine⟨dq,u,by simp[cC],cj,λd bm=> ?_,λo av t bj=>⟨λmr=> ?_,(cy o av t bj).2⟩⟩
       ·rw[xq d λe=>dn (ok.dst i j d e bm)];exact cp d bm
       ·rw[xq t λe=> ?_]
        ·exact(cy o av t bj).1 mr
        ·obtain⟨k,sn,oD⟩:=mr;obtain rfl:=ok.dst i k t e sn;have:=(T j I (i,none) (by simp)).2;rw[this]at oD;cases oD
     WI:=by
      intro t j I iP mw;rcases io.1 I with rfl|I
      ·rw[bH.Ir t λk r wy=> ?_]
       ·exact aro t mw
       ·exact absurd (by rw[ok.dst j k t mw wy];exact r) Is
      ·exact bH.WI t j I iP mw
     Ir:=by
      intro t bj;have cS:ja aX i≠some t:=λe=>by
       grind
      rw[xq t cS];exact bH.Ir t λj I mw=>bj j (by simp[I]) mw
     Oi:=by
      intro t bj;rw[xq t (bj i (by simp))];exact bH.Oi t λj I=>bj j (by simp[I])}
   refine⟨s',hZ,Nr,JS,bn,by rw[aOq];rfl,λj I=> ?_,k0,bh,bA,ex,fJ,λj I=>jZ j ?_,oU⟩
   ·grind
   grind
def RH(bd:Nat)(listed:Array Bool):Nat:=((List.range bd).filter λi=> !listed.getD i false).length
theorem avE{p q:Nat->Bool}{i:Nat}:∀(l:List Nat),i∈l->p i=true->q i=false->(∀j,q j=true->p j=true)->(l.filter q).length<(l.filter p).length:=by
 intro l
 induction l with
 |nil=>intro h;cases h
 |cons x l bL=>
  intro aC am au aD0;have eh:(l.filter q).length<=(l.filter p).length:=by
   clear bL aC
   induction l with
   |nil=>simp
   |cons y l bL=>
    grind
  grind
theorem aOr{listed:Array Bool}{i:Nat}(h:i<listed.size)(b:Bool):(listed.setIfInBounds i true).getD i b=true:=by
 simp[h]
theorem aOs{bd i:Nat}{listed:Array Bool}(ad:i<bd)(aA:listed.size=bd)(h:listed.getD i false=false):RH bd (listed.setIfInBounds i true)<RH bd listed:=by
 unfold RH;refine avE _ (wl.2 ad) (by simp only[h];rfl) (by simp_all) λj I=> ?_;by_cases iT:i=j
 ·grind
 simp_all
theorem akg{listed:Array Bool}{i:Nat}(h:listed.getD i true=false):listed.getD i false=false:=by
 grind
theorem aOt{listed:Array Bool}{i:Nat}(ad:i<listed.size)(h:listed.getD i false=false):listed.getD i true=false:=by
 simp[ad]at h⊢;exact h
theorem avF{listed:Array Bool}(aA:listed.size=aX.size):∀(p:List Nat),FQ aX p->(∃i∈p,listed.getD i false=false)->Region.ready .any aX listed≠[]:=by
 intro p
 induction p with
 |nil=>grind
 |cons i p bL=>
  rintro⟨⟨J,T⟩,av⟩ ⟨j,I,ak⟩;by_cases mr:∃k∈p,listed.getD k false=false
  ·exact bL av mr
  ·have gV:∀k∈p,listed.getD k false=true:=λk r=>by
    grind
   have ly:j=i:=by
    rcases io.1 I with h|h
    ·exact h
    ·rw[gV j h]at ak;cases ak
   subst ly;intro aVa;have:j∈Region.ready .any aX listed:=mem_ready.2 ⟨aOt (by omega) ak,aX.getD j default,by simp_all,λe aV ab=>gV _ (T e aV ab)⟩
   grind
def Oj(aX:Array Oper):Array Bool->List Nat->Prop
 |listed,[]=>Region.ready .any aX listed=[]
 |listed,i::cP=>i∈Region.ready .any aX listed/\Oj aX (listed.setIfInBounds i true) cP
theorem aOu{listed:Array Bool}(ap:RH aX.size listed=0):∀i,i<aX.size->listed.getD i false=true:=by
 intro i ad
 cases ak:listed.getD i false with
 |true=>rfl
 |false=>
  have:i∈(List.range aX.size).filter λi=> !listed.getD i false:=vh.2 ⟨wl.2 ad,by simp only[ak];rfl⟩;unfold RH at ap
  grind
theorem aOv:∀(eX t:Nat) (listed:Array Bool),listed.size=aX.size->RH aX.size listed<=eX->Oj aX listed (Region.linearise.go .any aX eX t listed []):=by
 intro eX
 induction eX with
 |zero=>
  intro t listed aA ap;simp only[Region.linearise.go,List.reverse_nil,Oj];rw[List.eq_nil_iff_forall_not_mem];intro j I;obtain⟨aiY,o,av,_⟩:=mem_ready.1 I;have:=aOu (Nat.le_zero.1 ap) j (RE av)
  grind
 |succ eX bL=>
  intro t listed aA ap;simp only[Region.linearise.go];change Oj aX listed (match(Region.ready .any aX listed)[t%(Region.ready .any aX listed).length]? with
   |some i=>Region.linearise.go .any aX eX (t /(Region.ready .any aX listed).length) (listed.setIfInBounds i true) [i]
   |none=>[].reverse)
  cases ad:(Region.ready .any aX listed)[t%(Region.ready .any aX listed).length]? with
  |none=>
   show Region.ready .any aX listed=[]
   cases ax:Region.ready .any aX listed with
   |nil=>rfl
   |cons x xs=>
    rw[ax]at ad;have aO:t%(x::xs).length<(x::xs).length:=IE _ (by simp)
    grind
  |some i=>
   simp only[];rw[linearise_go_acc,List.reverse_singleton,List.singleton_append];have avG:=ib ad;refine⟨avG,bL _ _ (by simpa using aA) ?_⟩;obtain⟨J,o,av,_⟩:=mem_ready.1 avG;have:=aOs (RE av) aA (akg J);omega
theorem aOw{E:List Nat}:∀(s:List (Nat×Option (List Nat))) (p:List Nat) (qJ:Option Nat),As aX E p qJ s=true->∀i,(i,none)∈s->
  (∃k∈s,dw aX i k.1=true)\/(∃e,qJ=some e/\dw aX i e=true)\/qJ=none:=by
 intro s
 induction s with
 |nil=>intro _ _ _ i h;cases h
 |cons x s bL=>
  obtain⟨j,m⟩:=x;intro p qJ h i ad;simp only[As,ot,qf]at h;rcases io.1 ad with e|ad
  ·grind
  ·rcases bL _ _ h.2 i ad with⟨k,r,ao⟩|T
   ·grind
   ·cases m with
    |none=>exact .inr T
    |some fK=>
     simp_all
theorem aOx{E:List Nat}:∀(s:List (Nat×Option (List Nat))) (p:List Nat) (qJ:Option Nat),As aX E p qJ s=true->∀i fK,(i,some fK)∈s->E.contains i=true:=by
 intro s
 induction s with
 |nil=>intro _ _ _ i _ h;cases h
 |cons x s bL=>
  obtain⟨j,m⟩:=x;intro p qJ h i fK ad;simp only[As,ot,qf]at h
  grind
theorem aOy{Q:(Nat->N)->M->Prop}{lN:Exit->Act->M->Prop}(cx:nN)(ms:List Nat)(eT:∀f w,Q f w->lN .normal (gS cx n ms f) w)(ok:aca aX){E:List Nat}{f0:Nat->N}:
  ∀(xr:List Nat) (s:List (Nat×Option (List Nat))) (p:List Nat) (qJ:Option Nat) (L:List wa) (a' f:Nat->N) (w:M) (listed:Array Bool),Oj aX listed xr->xr.filter (E.contains ·)=rr s->
  As aX E p qJ s=true->FQ aX p->(∀i∈p,∀k∈s,i≠k.1/\dw aX i k.1=false)->(∀k∈s,listed.getD k.1 false=false)->(∀i,i<aX.size->i∈p\/i∈s.map (·.1))->
  (∀i∈p,E.contains i=true->listed.getD i false=true)->
  BU P aX n Q s L a' w->ake P aX n p L a' w listed f0 f->wpOpsIn cx.a' cx.m P aX lN xr (gS cx n ms f) w:=by
 intro xr
 induction xr with
 |nil=>
  intro s p qJ L a' f w listed xt It J BV T ag aP _ bH cS;obtain⟨s,p,L,a',J,acc,_,BV,T,ag,bH,cS,_,er⟩:=avC ok s p L a' J BV T ag bH cS;have gV:∀i∈p,listed.getD i false=true:=λi ad=>by
   cases aN:listed.getD i false with
   |true=>rfl
   |false=>exact absurd xt (avF cS.size p BV ⟨i,ad,aN⟩)
  rcases er with rfl|⟨e,fK,cP,rfl⟩
  ·have:f=a':=funext λt=>cS.Ir t λi ad _=>gV i ad;rw[this];exact eT _ _ bH
  ·rw[<-acc]at It;simp[rr]at It
 |cons i xr bL=>
  intro s aOz qJ L a' f w listed xt It J BV T ag aP akh bH cS;obtain⟨ad,xt⟩:=xt;obtain⟨s,p,L,a',J,acc,aOA,BV,T,ag,bH,cS,fi,er⟩:=avC ok s aOz L a' J BV T ag bH cS;have aP:∀i,i<aX.size->i∈p\/i∈s.map (·.1):=λi ad=>fi i (aP i ad);have akh:∀i∈p,E.contains i=true->listed.getD i false=true:=λj I aki=>by
   grind
  rw[<-acc]at It;clear fi aOA acc;rw[wpOpsIn_cons]
  ·obtain⟨yl,o,av,gV⟩:=mem_ready.1 ad;have aO:i<aX.size:=RE av;have Ku:listed.getD i false=false:=akg yl;have WK:∀j,dw aX i j=true->listed.getD j false=true:=by
    intro j I;obtain⟨e,aV,ab,ax⟩:=aj' aX i o j av I;have:=gV e aV ab;rcases ax with ax|⟨_,ax⟩
    ·rw[<-ax];exact this
    ·exact ab' cS.RF cS.size _ _ ax this
   have RW:(listed.setIfInBounds i true).size=aX.size:=by simpa using cS.size
   have avH:∀j py,aX[j]? =some py->(listed.setIfInBounds i true).getD j false=true->∀e∈py.after,Region.binds .any e=true->(listed.setIfInBounds i true).getD e.on false=true:=by
    intro j py I ak e aV ab;by_cases iT:i=j
    ·subst iT;have:py=o:=sb (I.symm.trans av);subst this;exact getD_set_true (gV e aV ab)
    ·rw[getD_set_ne false iT]at ak;exact getD_set_true (cS.RF j py I ak e aV ab)
   have CO:∀j,(listed.setIfInBounds i true).getD j false=false->i≠j/\listed.getD j false=false:=by
    intro j I;have dn:i≠j:=by
     rintro rfl;rw[aOr (by rw[cS.size];exact aO)]at I;cases I
    exact⟨dn,by rwa[getD_set_ne false dn]at I⟩
   have aOB:∀j,listed.getD j false=true->(listed.setIfInBounds i true).getD j false=true:=λj I=>getD_set_true I;by_cases Is:i∈p
   ·
    obtain⟨dq,v,cC,cj,cp,cy⟩:=cS.WH i Is Ku;have akj:∀gg,aX[i]? =some gg->∀t∈gg.looksAt aX,dq t=f t:=by
     intro gg u_ t bj;obtain rfl:gg=o:=sb (u_.symm.trans av);by_cases mr:∃j,ja aX j=some t/\dw aX i j=true
     ·rw[(cy gg u_ t bj).1 mr];obtain⟨j,aiY,pR⟩:=mr;exact(cS.Ir t λk r wy=>by rw[<-ok.dst j k t aiY wy];exact WK j pR).symm
     ·rw[(cy gg u_ t bj).2 mr];by_cases bM:∃j,j∈p/\ja aX j=some t
      ·obtain⟨j,HD,mw⟩:=bM;have iP:listed.getD j false=false:=by
        cases ak:listed.getD j false with
        |false=>rfl
        |true=>
         rcases(ok.lA i gg j t av mw bj).2 with ao|ao
         ·grind
         ·have:=ab' cS.RF cS.size _ _ ao ak;rw[Ku]at this;cases this
       exact(cS.WI t j HD iP mw).symm
      ·have hi:∀j∈p,ja aX j≠some t:=λj I mw=>bM ⟨j,I,mw⟩;rw[cS.Ir t λj I mw=>absurd mw (hi j I),cS.Oi t hi]
    have WL:xp P aX n i f w λv' w'=>v'=v/\w'=w:=by
     rw[<-avA ok akj];exact cj
    refine avB cx ms (K:=λv' w'=>v'=v/\w'=w) ?_ WL;rintro v' w' ⟨rfl,rfl⟩;have xq:∀t,ja aX i≠some t->hW f (ja aX i) v' t=f t:=λt bj=>by unfold hW;rw[aQ bj]
    have RG:∀t,ja aX i=some t->hW f (ja aX i) v' t=v':=λt bj=>by unfold hW;rw[be bj]
    have Ln:E.contains i=false:=by
     cases aN:E.contains i with
     |false=>rfl
     |true=>grind
    refine bL s p qJ L a' _ w' _ xt ?_ J BV T (λk r=> ?_) aP (λj I aki=>aOB j (akh j I aki)) bH ?_
    ·grind
    ·rw[getD_set_ne false λe=>(T i Is k r).1 e];exact ag k r
    ·refine⟨RW,avH,λj I=> ?_,λj I iP=>cS.WH j I (CO j iP).2,λt j I iP mw=> ?_,λt bj=> ?_,cS.Oi⟩
     ·by_cases iT:i=j
      ·rw[<-iT];exact Is
      ·rw[getD_set_ne false iT]at I;exact cS.acb j I
     ·rw[xq t λe=>(CO j iP).1 (ok.dst i j t e mw)];exact cS.WI t j I (CO j iP).2 mw
     ·by_cases bm:ja aX i=some t
      ·rw[RG t bm,cp t bm]
      ·rw[xq t bm];refine cS.Ir t λj I mw=> ?_;have:=bj j I mw;rwa[getD_set_ne false λe=>bm (by rw[e];exact mw)]at this
   ·
    have Hh:i∈s.map (·.1):=(aP i aO).resolve_left Is;rcases er with rfl|⟨e,fK,cP,rfl⟩
    ·cases Hh
    have mi:=J;simp only[As,ot,qf,vg,acY,bne_iff_ne,Sk]at J;obtain⟨⟨⟨⟨Al,akf⟩,KV⟩,⟨aOC,aOD⟩⟩,WJ⟩:=J;have xX:listed.getD e false=false:=ag (e,some fK) (by simp);have aOE:i=e:=by
     cases Ln:E.contains i with
     |true=>
      rw[Gi,Ln]at It;simp[rr]at It;exact It.1
     |false=>
      exfalso;rcases io.1 Hh with h|h
      ·grind
      ·obtain⟨⟨k,m⟩,r,akk⟩:=lF.1 h;have akk:k=i:=akk;subst akk
       cases m with
       |some avD=>have:=aOx _ _ _ WJ k avD r;rw[Ln]at this;cases this
       |none=>
        rcases aOw _ _ _ WJ k r with⟨lD,fH,ao⟩|⟨ek,zz,ao⟩|h
        ·have:=WK _ ao;rw[ag lD (by simp[fH])]at this;cases this
        ·grind
        ·cases h
    subst aOE;have aOF:xr.filter (E.contains ·)=rr cP:=by
     rw[Gi,aOC]at It;simpa[rr]using It
    have akj:∀gg,aX[i]? =some gg->∀t∈gg.looksAt aX,a' t=f t:=by
     intro gg u_ t bj;refine(cS.Ir t λj I mw=> ?_).symm;rcases(ok.lA i gg j t u_ mw bj).2 with ao|ao
     ·exact WK j ao
     ·have:=(T j I (i,some fK) (by simp)).2;rw[this]at ao;cases ao
    have WL:=bH;unfold BU at WL;rw[avA ok akj]at WL;refine avB cx ms ?_ WL;rintro v w' ⟨r,CF⟩;have xq:∀(g:Nat->N) t,ja aX i≠some t->hW g (ja aX i) v t=g t:=λg t bj=>by unfold hW;rw[aQ bj]
    have RG:∀(g:Nat->N) t,ja aX i=some t->hW g (ja aX i) v t=v:=λg t bj=>by unfold hW;rw[be bj]
    refine bL cP (i::p) (some i) _ _ _ w' _ xt aOF WJ (akc Al akf BV) (λj I k r=> ?_) (λk r=> ?_) (λj I=> ?_) (λj I aki=> ?_) CF ?_
    ·rcases io.1 I with rfl|I
     ·grind
     ·exact T j I k (by simp[r])
    ·rw[getD_set_ne false λe=>(KV k r).1 e.symm];exact ag k (by simp[r])
    ·rcases aP j I with h|h
     ·exact .inl (by simp[h])
     ·simp only[oq,io]at h
      grind
    ·grind
    ·refine⟨RW,avH,λj I=> ?_,λj I iP=> ?_,λt j I iP mw=> ?_,λt bj=> ?_,λt bj=> ?_⟩
     ·by_cases iT:i=j
      ·rw[iT];simp
      ·rw[getD_set_ne false iT]at I;exact acP _ (cS.acb j I)
     ·obtain⟨dn,iP⟩:=CO j iP;have HD:j∈p:=(io.1 I).resolve_left λe=>dn e.symm;obtain⟨dq,u,cC,cj,cp,cy⟩:=cS.WH j HD iP;have aip:j∈fK:=by
       rcases aOD j HD with((h|h)|h)|h
       ·simpa using h
       ·have:=WK j h;rw[iP]at this;cases this
       ·grind
       ·obtain⟨e,aV,hx⟩:=Xu.1 h;simp only[ot]at hx;have:=ab' cS.RF cS.size _ _ hx.2 (akh e aV hx.1);rw[iP]at this;cases this
      refine⟨dq,u,vh.2 ⟨cC,by simpa using aip⟩,r _ cC aip,λd bm=> ?_,λo av t bj=>⟨λmr=> ?_,(cy o av t bj).2⟩⟩
      ·rw[xq a' d λe=>dn (ok.dst i j d e bm)];exact cp d bm
      ·rw[xq a' t λe=> ?_]
       ·exact(cy o av t bj).1 mr
       ·obtain⟨k,sn,oD⟩:=mr;obtain rfl:=ok.dst i k t e sn;have:=(T j HD (i,some fK) (by simp)).2;rw[this]at oD;cases oD
     ·obtain⟨dn,iP⟩:=CO j iP;have HD:j∈p:=(io.1 I).resolve_left λe=>dn e.symm;rw[xq f t λe=>dn (ok.dst i j t e mw)];exact cS.WI t j HD iP mw
     ·by_cases bm:ja aX i=some t
      ·rw[RG f t bm,RG a' t bm]
      ·rw[xq f t bm,xq a' t bm];refine cS.Ir t λj I mw=> ?_;have:=bj j (by simp[I]) mw;rwa[getD_set_ne false λe=>bm (by rw[e];exact mw)]at this
     ·rw[xq a' t (bj i (by simp))];exact cS.Oi t λj I=>bj j (by simp[I])
end
theorem aOG{E:List Nat}{listed:Array Bool}{i:Nat}(ad:i<listed.size):(E.filter λe=> !(listed.setIfInBounds i true).getD e false)=(E.filter λe=> !listed.getD e false).filter (·!=i):=by
 rw[ac1];refine acZ λe _=> ?_;by_cases h:i=e
 ·simp_all
 ·rw[getD_set_ne false h]
  grind
theorem aOH{aX:Array Oper}{E:List Nat}{all:List Nat}(BV:FQ aX all)(akl:∀i,i<aX.size->i∈all)(hx:∀e∈E,e<aX.size):
  ∀(xr:List Nat) (listed:Array Bool) (k:Nat),listed.size=aX.size->(∀j py,aX[j]? =some py->listed.getD j false=true->∀e∈py.after,Region.binds .any e=true->listed.getD e.on false=true)->
   Oj aX listed xr->(E.filter λe=> !listed.getD e false).length<=k->xr.filter (E.contains ·)=[]/\(E.filter λe=> !listed.getD e false)=[]\/xr.filter (E.contains ·)∈RD aX k (E.filter λe=> !listed.getD e false):=by
 intro xr
 induction xr with
 |nil=>
  intro listed k aA Z xt r;refine .inl ⟨rfl,?_⟩;rw[List.filter_eq_nil_iff];intro e aV ak;have ak:listed.getD e false=false:=by simpa using ak
  exact avF aA all BV ⟨e,akl e (hx e aV),ak⟩ xt
 |cons i xr bL=>
  intro listed k aA Z xt r;obtain⟨ad,xt⟩:=xt;obtain⟨yl,o,av,gV⟩:=mem_ready.1 ad;have aO:i<aX.size:=RE av;have Ku:listed.getD i false=false:=akg yl;have qy:∀j py,aX[j]? =some py->(listed.setIfInBounds i true).getD j false=true->∀e∈py.after,Region.binds .any e=true->(listed.setIfInBounds i true).getD e.on false=true:=by
   intro j py I ak e aV ab;by_cases iT:i=j
   ·subst iT;have:py=o:=sb (I.symm.trans av);subst this;exact getD_set_true (gV e aV ab)
   ·rw[getD_set_ne false iT]at ak;exact getD_set_true (Z j py I ak e aV ab)
  have WK:∀j,dw aX i j=true->listed.getD j false=true:=by
   intro j I;obtain⟨e,aV,ab,ax⟩:=aj' aX i o j av I;have:=gV e aV ab;rcases ax with ax|⟨_,ax⟩
   ·rw[<-ax];exact this
   ·exact ab' Z aA _ _ ax this
  have avI:=aOG (E:=E) (listed:=listed) (i:=i) (by omega)
  cases Ln:E.contains i with
  |false=>
   have adH:(E.filter λe=> !listed.getD e false).filter (·!=i)=E.filter λe=> !listed.getD e false:=by
    rw[List.filter_eq_self];intro e aV;have aOI:=(vh.1 aV).1;have:e≠i:=by
     rintro rfl;have:E.contains e=true:=by simpa using aOI
     rw[Ln]at this;cases this
    simpa using this
   grind
  |true=>
   have aOJ:i∈E:=by simpa using Ln
   have avJ:i∈E.filter λe=> !listed.getD e false:=vh.2 ⟨aOJ,by simp only[Ku];rfl⟩;refine .inr ?_
   cases k with
   |zero=>grind
   |succ k=>
    have cu:((E.filter λe=> !listed.getD e false).filter (·!=i)).length<(E.filter λe=> !listed.getD e false).length:=by
     have:=avE (p:=λ_=>true) (q:=(·!=i)) (i:=i) (E.filter λe=> !listed.getD e false) avJ rfl (by simp) (λ_ _=>rfl);simpa using this
    have avK:=bL (listed.setIfInBounds i true) k (by simpa using aA) qy xt (by rw[avI];omega);rw[avI]at avK;have Qq:xr.filter (E.contains ·)∈RD aX k ((E.filter λe=> !listed.getD e false).filter (·!=i)):=by
     rcases avK with⟨J,T⟩|h
     ·rw[J,T]
      cases k<;>simp[RD]
     ·exact h
    have aVb:((E.filter λe=> !listed.getD e false).all λek=>ek==i|| !dw aX i ek)=true:=by
     rw[vg];intro ek zz;have ak:listed.getD ek false=false:=by simpa using(vh.1 zz).2
     cases ao:dw aX i ek with
     |false=>simp
     |true=>grind
    rw[Gi,Ln];simp only[if_true];generalize E.filter (λe=> !listed.getD e false)=Og at*;have dn:Og.isEmpty=false:=by
     cases Og with
     |nil=>cases avJ
     |cons=>rfl
    simp only[RD,dn,wk,if_false]
    grind
theorem aOK{aX:Array Oper}{E:List Nat}:∀(s:List (Nat×Option (List Nat))) (p:List Nat) (qJ:Option Nat),As aX E p qJ s=true->FQ aX p->∃q,FQ aX q/\(∀i,(i∈p\/i∈s.map (·.1))->i∈q)/\∀e∈rr s,e<aX.size:=by
 intro s
 induction s with
 |nil=>intro p qJ _ h;exact⟨p,h,λi ad=>ad.resolve_right (by simp),λe aV=>by simp[rr]at aV⟩
 |cons x s bL=>
  obtain⟨i,m⟩:=x;intro p qJ h av;simp only[As,ot,qf]at h;obtain⟨q,J,T,ag⟩:=bL _ _ h.2 (akc h.1.1.1.1 h.1.1.1.2 av);refine⟨q,J,λj I=>T j ?_,λe aV=> ?_⟩
  ·grind
  ·cases m with
   |none=>exact ag e (by simpa[rr]using aV)
   |some fK=>
    simp only[rr,Gi,acX,if_true,oq,io]at aV;rcases aV with rfl|aV
    ·exact h.1.1.1.1
    ·exact ag e (by simpa[rr]using aV)
theorem aOL(m j:Nat):(Array.replicate m false).getD j false=false:=by
 rcases Xw j m with h|h
 ·simp[h]
 grind
theorem avL{P:Program}{n:Nat}{Q:hM}{id:Nat}{l:List Oper}{ms:List Nat}{f:Nat->N}{w:M}(sa:List (List (Nat×Option (List Nat))))(bq:(Nat->N)->M->Prop)(aC:P.follows .mixedOrders=true)(am:Oh l.toArray sa=true)
  (h:∀mh∈sa,BU P l.toArray n bq mh [] f w.drew)(bW:∀f w,bq f w->Q .normal ms f w):Io P n Q id l.toArray ms f w:=by
 simp only[Oh,ot]at am;obtain⟨⟨⟨aOM,dn⟩,gV⟩,akl⟩:=am;have acd:∀i,(Array.replicate l.toArray.size false).getD i false=false:=λi=>aOL _ _;have tD:∀j py,l.toArray[j]? =some py->(Array.replicate l.toArray.size false).getD j false=true->∀e∈py.after,Region.binds .any e=true->(Array.replicate l.toArray.size false).getD e.on false=true:=λj py _ ak=>by
  rw[acd]at ak;cases ak
 cases sa with
 |nil=>simp at dn
 |cons mQ ps=>
  simp only[List.headD_cons]at gV akl;have RX:=vg.1 gV;have qe:=RX mQ (by simp);simp only[akb,ot,vg,wl]at qe;obtain⟨q,pj,kO,rx⟩:=aOK mQ [] none qe.2 trivial;intro cx;refine wpIn_region_draw λt=> ?_;simp only[Region.schedule,aC,Bool.true_or,if_true];have xt:Oj l.toArray (Array.replicate l.toArray.size false) (Region.linearise .any l.toArray t):=
   aOv l.toArray.size t _ (by simp) (dK (OO _ _) (by simp))
  have vP:((rr mQ).filter λe=> !(Array.replicate l.toArray.size false).getD e false)=rr mQ:=by
   rw[List.filter_eq_self];intro e _;rw[acd];rfl
  have mr:=aOH (E:=rr mQ) pj (λi ad=>kO i (.inr (by simpa using qe.1 i ad))) rx (Region.linearise .any l.toArray t) _ (rr mQ).length (by simp) tD xt (by rw[vP];exact c_ _);rw[vP]at mr;have mA:∃pl∈mQ::ps,rr pl=(Region.linearise .any l.toArray t).filter ((rr mQ).contains ·):=by
   rcases mr with⟨J,T⟩|J
   ·grind
   ·grind
  obtain⟨pl,HE,aV⟩:=mA;have fs:=RX pl HE;simp only[akb,ot,vg,wl]at fs;refine aOy cx ms (E:=rr mQ) (f0:=f) (λf w au=>⟨ms,f,rfl,bW f w au⟩) (aOj aOM) (Region.linearise .any l.toArray t) pl [] none [] f f _ _ xt aV.symm fs.2 trivial (λ_ h=>by cases h) (λk _=>acd _)
   (λi ad=>.inr (by simpa using fs.1 i ad)) (λ_ h=>by cases h) (h pl HE) ?_
  refine⟨by simp,tD,λi ak=> ?_,λ_ h=>(by cases h),λ_ _ h=>(by cases h),λ_ _=>rfl,λ_ _=>rfl⟩;rw[acd]at ak;cases ak
theorem avM{P:Program}{n:Nat}{Q:hM}{id:Nat}{l:List Oper}{ms:List Nat}{f:Nat->N}{w:M}(sa:List (List (Nat×Option (List Nat))))(aC:P.follows .mixedOrders=true)(am:Oh l.toArray sa=true)
  (h:∀mh∈sa,BU P l.toArray n (Q .normal ms) mh [] f w.drew):Io P n Q id l.toArray ms f w:=avL sa (Q .normal ms) aC am h λ_ _ h=>h
section
variable (P:Program)(l:List Oper)(n:Nat)(Q:(Nat->N)->M->Prop)
def RI(o:Option Oper)(f:Nat->N):Option Bool:=match o.bind (·.dst)with
 |some d=>if d<n then(match f d with|.bool b=>some b|_=>none)else none
 |none=>none
theorem avN(f:Nat->N)(j:Nat):yielded l.toArray (lL n f) j=RI n (l[j]?) f:=by
 unfold yielded RI;simp only[yL]
 cases bm:(l[j]?).bind (·.dst)with
 |none=>rfl
 |some d=>
  simp only[Option.bind_some,RA]
  grind
def FR(o:Option Oper)(f:Nat->N)(w:M)(K:Option Tmp->N->M->Prop):Prop:=
 match o with
 |none=>False
 |some o=>match o.guard with
  |none=>ed P (hh n f) o w (K o.dst)
  |some (j,tU)=>if RI n (l[j]?) f=some tU then ed P (hh n f) o w (K o.dst)else K o.dst undef w
def BW(g:Option Bool)(tU:Bool)(o:Oper)(f:Nat->N)(w:M)(K:Option Tmp->N->M->Prop):Prop:=
 if g=some tU then ed P (hh n f) o w (K o.dst)else K o.dst undef w
theorem akm(i:Nat)(f:Nat->N)(w:M)(K:N->M->Prop)(K':Option Tmp->N->M->Prop)(r:∀o,l[i]? =some o->K=K' o.dst):xp P l.toArray n i f w K=FR P l n (l[i]?) f w K':=by
 unfold xp FR;rw[yL]
 cases av:l[i]? with
 |none=>rfl
 |some o=>
  rw[r o av];simp only;unfold Region.wanted
  cases aH:o.guard with
  |none=>simp
  |some g=>
   obtain⟨j,tU⟩:=g;simp only[avN,beq_iff_eq]
@[simp] theorem aVc(d:Option Tmp)(op:Op)(bV:TypeId)(pos:String)(eW:Array Edge)(f:Nat->N)(w:M)(K:Option Tmp->N->M->Prop):
  FR P l n (some ⟨d,op,bV,pos,eW,none⟩) f w K=ed P (hh n f) ⟨d,op,bV,pos,eW,none⟩ w (K d):=f_ rfl
@[simp] theorem aVd(d:Option Tmp)(op:Op)(bV:TypeId)(pos:String)(eW:Array Edge)(j:Nat)(tU:Bool)(f:Nat->N)(w:M)(K:Option Tmp->N->M->Prop):
  FR P l n (some ⟨d,op,bV,pos,eW,some (j,tU)⟩) f w K=BW P n (RI n (l[j]?) f) tU ⟨d,op,bV,pos,eW,some (j,tU)⟩ f w K:=f_ rfl
@[simp] theorem aVe(o:Oper)(f:Nat->N)(w:M)(K:Option Tmp->N->M->Prop):BW P n (some true) true o f w K=ed P (hh n f) o w (K o.dst):=by unfold BW;simp
@[simp] theorem aVf(o:Oper)(f:Nat->N)(w:M)(K:Option Tmp->N->M->Prop):BW P n (some false) false o f w K=ed P (hh n f) o w (K o.dst):=by unfold BW;simp
@[simp] theorem aVg(o:Oper)(f:Nat->N)(w:M)(K:Option Tmp->N->M->Prop):BW P n (some true) false o f w K=K o.dst undef w:=by unfold BW;simp
@[simp] theorem aVh(o:Oper)(f:Nat->N)(w:M)(K:Option Tmp->N->M->Prop):BW P n (some false) true o f w K=K o.dst undef w:=by unfold BW;simp
@[simp] theorem aVi(b:Bool)(o:Oper)(f:Nat->N)(w:M)(K:Option Tmp->N->M->Prop):BW P n none b o f w K=K o.dst undef w:=by unfold BW;simp
def WM(v:N)(w:M)(_:Option Tmp)(v':N)(w':M):Prop:=v'=v/\w'=w
@[simp] theorem aVj(v:N)(w:M)(d:Option Tmp)(v':N)(w':M):WM v w d v' w'=(v'=v/\w'=w):=f_ rfl
def Lo(w:M)(fK:List Nat):List wa->Prop
 |[]=>True
 |a'::L=>(if a'.1∈fK then FR P l n (l[a'.1]?) a'.2.1 w (WM a'.2.2 w)else True)/\Lo w fK L
@[simp] theorem aVk(w:M)(fK:List Nat):Lo P l n w fK []=True:=f_ rfl
@[simp] theorem aON(w:M)(fK:List Nat)(i:Nat)(f:Nat->N)(v:N)(L:List wa):
  Lo P l n w fK ((i,f,v)::L)=((if i∈fK then FR P l n (l[i]?) f w (WM v w)else True)/\Lo P l n w fK L):=f_ rfl
def yA:List (Nat×Option (List Nat))->List wa->(Nat->N)->M->Prop:=BU P l.toArray n Q
def akn(cP:List (Nat×Option (List Nat)))(L:List wa)(i:Nat)(f:Nat->N)(w0:M)(d:Option Tmp)(v:N)(w':M):Prop:=w'=w0/\yA P l n Q cP ((i,f,v)::L) (hW f d v) w0
def ako(cP:List (Nat×Option (List Nat)))(fK:List Nat)(L:List wa)(f:Nat->N)(d:Option Tmp)(v:N)(w':M):Prop:=
 Lo P l n w' fK L/\yA P l n Q cP (L.filter λa'=>decide (a'.1∈fK)) (hW f d v) w'
@[simp] theorem aVl(cP:List (Nat×Option (List Nat)))(L:List wa)(i:Nat)(f:Nat->N)(w0:M)(d:Option Tmp)(v:N)(w':M):
  akn P l n Q cP L i f w0 d v w'=(w'=w0/\yA P l n Q cP ((i,f,v)::L) (hW f d v) w0):=f_ rfl
@[simp] theorem aVm(cP:List (Nat×Option (List Nat)))(fK:List Nat)(L:List wa)(f:Nat->N)(d:Option Tmp)(v:N)(w':M):
  ako P l n Q cP fK L f d v w'=(Lo P l n w' fK L/\yA P l n Q cP (L.filter λa'=>decide (a'.1∈fK)) (hW f d v) w'):=f_ rfl
@[simp] theorem aVn(L:List wa)(f:Nat->N)(w:M):yA P l n Q [] L f w=Q f w:=f_ rfl
theorem avO(i:Nat)(o:Oper)(h:l[i]? =some o):ja l.toArray i=o.dst:=by simp[ja,h]
@[simp] theorem aVo(i:Nat)(cP:List (Nat×Option (List Nat)))(L:List wa)(f:Nat->N)(w:M):
  yA P l n Q ((i,none)::cP) L f w=FR P l n (l[i]?) f w (akn P l n Q cP L i f w):=by
 unfold yA;rw[BU];refine akm P l n i f w _ _ λo av=> ?_;rw[avO l i o av];rfl
theorem aOO(w:M)(fK:List Nat)(L:List wa):Lo P l n w fK L↔∀a'∈L,a'.1∈fK->Of P l.toArray n w a':=by
 induction L with
 |nil=>simp
 |cons a' L bL=>
  obtain⟨i,f,v⟩:=a';rw[aON,bL];have aM:FR P l n (l[i]?) f w (WM v w)=Of P l.toArray n w (i,f,v):=(akm P l n i f w _ _ λ_ _=>rfl).symm
  grind
@[simp] theorem aVp(i:Nat)(fK:List Nat)(cP:List (Nat×Option (List Nat)))(L:List wa)(f:Nat->N)(w:M):
  yA P l n Q ((i,some fK)::cP) L f w=FR P l n (l[i]?) f w (ako P l n Q cP fK L f):=by
 unfold yA;rw[BU];refine akm P l n i f w _ _ λo av=> ?_;rw[avO l i o av];funext v w';show _=(_/\_);rw[propext (aOO P l n w' fK L)];rfl
end
theorem aOP{P:Program}{n:Nat}{Q:hM}{id:Nat}{l:List Oper}{ms:List Nat}{f:Nat->N}{w:M}(mh:List (Nat×Option (List Nat)))(aC:P.follows .mixedOrders=true)(am:Oh l.toArray [mh]=true)
  (h:yA P l n (Q .normal ms) mh [] f w.drew):Io P n Q id l.toArray ms f w:=avM [mh] aC am λp am=>by
 simp only[sc]at am;subst am;exact h
theorem cT{P:Program}{n:Nat}{Q:hM}{id:Nat}{l:List Oper}{ms:List Nat}{f:Nat->Value}{w:World}(mh:List (Nat×Option (List Nat)))(h:yA P l n (Q .normal ms) mh [] f w.drew)(aC:P.follows .mixedOrders=true:=by kernel_rfl)(am:Oh l.toArray [mh]=true:=by kernel_rfl):Io P n Q id l.toArray ms f w:=aOP mh aC am h
theorem aNx{P:Program}{n:Nat}{Q:hM}{id:Nat}{l:List Oper}{ms:List Nat}{f:Nat->N}{w:M}(sa:List (List (Nat×Option (List Nat))))(aC:P.follows .mixedOrders=true)(am:Oh l.toArray sa=true)
  (h:∀mh∈sa,yA P l n (Q .normal ms) mh [] f w.drew):Io P n Q id l.toArray ms f w:=avM sa aC am h
theorem Ja{P:Program}{n:Nat}{Q:hM}{id:Nat}{l:List Oper}{ms:List Nat}{f:Nat->N}{w:M}(bq:(Nat->N)->M->Prop)(sa:List (List (Nat×Option (List Nat))))(aC:P.follows .mixedOrders=true)(am:Oh l.toArray sa=true)
  (h:∀mh∈sa,yA P l n bq mh [] f w.drew)(bW:∀f w,bq f w->Q .normal ms f w):Io P n Q id l.toArray ms f w:=avL sa bq aC am h bW
def wY(P:Program)(l:List Oper)(n:Nat)(Q:(Nat->N)->M->Prop)(g:Option Bool)(tU:Bool)(o:Oper)(cP:List Oper)(f:Nat->N)(w:M):Prop:=
 if g=some tU then ed P (hh n f) o w (RB P l.toArray n Q cP f o.dst)else iz P l.toArray n Q cP (hW f o.dst undef) w
@[simp] theorem aVq(P:Program)(l:List Oper)(n:Nat)(Q:(Nat->N)->M->Prop)(d:Option Tmp)(op:Op)(bV:TypeId)(pos:String)(eW:Array Edge)(j:Nat)(tU:Bool)(cP:List Oper)(f:Nat->N)(w:M):
  iz P l.toArray n Q (⟨d,op,bV,pos,eW,some (j,tU)⟩::cP) f w=wY P l n Q (RI n (l[j]?) f) tU ⟨d,op,bV,pos,eW,some (j,tU)⟩ cP f w:=by
 show(if Region.wanted _ _=true then _ else _)=(if _ then _ else _);simp only[Region.wanted,avN,beq_iff_eq];rfl
section
variable (P:Program)(l:List Oper)(n:Nat)(Q:(Nat->N)->M->Prop)(o:Oper)(cP:List Oper)(f:Nat->N)(w:M)
@[simp] theorem aVr:wY P l n Q (some true) true o cP f w=ed P (hh n f) o w (RB P l.toArray n Q cP f o.dst):=by unfold wY;simp
@[simp] theorem aVs:wY P l n Q (some false) false o cP f w=ed P (hh n f) o w (RB P l.toArray n Q cP f o.dst):=by unfold wY;simp
@[simp] theorem aVt:wY P l n Q (some true) false o cP f w=iz P l.toArray n Q cP (hW f o.dst undef) w:=by unfold wY;simp
@[simp] theorem aVu:wY P l n Q (some false) true o cP f w=iz P l.toArray n Q cP (hW f o.dst undef) w:=by unfold wY;simp
@[simp] theorem aVv(b:Bool):wY P l n Q none b o cP f w=iz P l.toArray n Q cP (hW f o.dst undef) w:=by unfold wY;simp
end
def akp:N->Option Bool
 |.bool b=>some b
 |_=>none
@[simp] theorem aVw(b:Bool):akp (.bool b)=some b:=rfl
@[simp] theorem aVx:akp undef=none:=rfl
@[simp] theorem aVy(n:Nat)(d:Tmp)(op:Op)(bV:TypeId)(pos:String)(eW:Array Edge)(g:Option (Nat×Bool))(f:Nat->N):RI n (some ⟨some d,op,bV,pos,eW,g⟩) f=if d<n then akp (f d)else none:=f_ rfl
attribute [irreducible] jx DM Od RC WE jb Qe WF kN dT ab9 WG ab_ Uw iz RB ed eu tH Jj Io GF ki wB pN An Iq gH Lm kA Cv j' yx ct bc yA akn ako Lo FR BW wY WM xp BU Of
end Go.Kin
