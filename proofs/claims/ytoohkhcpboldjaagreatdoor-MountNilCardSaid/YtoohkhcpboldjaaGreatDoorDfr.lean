/- A function that defers onW call, and a call that is deferred. They speak of no program. No condition. -/
import Derived.Test.YtoohkhcpboldjaaGreatDoorSoA
import Derived.RangeFuncNested
set_option linter.unusedSimpArgs false
set_option linter.unusedVariables false
namespace Go.Kin
open Go Go.RowKit
def kE(B:Nat)(N bs:World):Prop:=∃fc,N.grownBy bs fc/\∀J,fc=some J->B<=J/\∃o:Obj,N.1[J]? =some o/\o.isCells=false
theorem kE.ch{B:Nat}{N bs:World}(h:kE B N bs):D (λk=>B<=k) N bs:=by
 obtain⟨fc,aF,ap⟩:=h;exact(D.vQ aF).mono λj _ e=>(ap j e).1
theorem kE.blk{B:Nat}{N bs:World}(h:kE B N bs){g:Nat}{cs:Array Value}{bl:TypeId}{fr:Nat×Nat}(V:N.1[g]? =some (.cells cs bl fr)):bs.1[g]? =some (.cells cs bl fr):=by
 obtain⟨fc,aF,ap⟩:=h;refine(aF.block g (lt_of_block V) λe=> ?_).trans V;obtain⟨_,o,aB,T⟩:=ap g e.symm;rw[V]at aB
 cases aB
 cases T
theorem kE.tS{S:Nat->Prop}{B:Nat}{w N bs:World}(h:kE B N bs)(T:D S w N)(eR:w.1.size<=B):D S w bs:=
 T.bJ h.ch λj F e=>absurd e (by omega)
theorem uU{w:World}{L k:Nat}{o:Obj}(h:k≠L):(w.putObj L o).1[k]? =w.1[k]? :=World.putObj_heap_other h
theorem D.putObj{S:Nat->Prop}{w w':World}(h:D S w w'){L:Nat}(dS:S L\/w.1.size<=L)(o:Obj):D S w (w'.putObj L o):=
 h.bJ (D.vQ (grownBy_putObj' w' L o)) λj F e=>by
  cases e
  exact dS.resolve_right (by omega)
def aej(S:Nat->Prop)(n0:Nat)(N bs:World):Prop:=D (λk=>S k\/n0<=k) N bs
structure GK(P:Program)(gf:FuncId)(lb:List Value)(k:Nat)(enc:Nat->List Value)(seq:List Nat)(S:Nat->Prop)(w:World):Prop where
 size:∀x,(enc x).length=k
 Ry:∀args w,(callFunc gf args).run P w=.ok (.enter gf args) w
 run:∀(l:Nat) (cJ ri:List Nat->World->Prop) (N:World),D ak w N->(∀pre W1 eZ,cJ pre W1->D ak W1 eZ->cJ pre eZ)->(∀pre W1 eZ,ri pre W1->D ak W1 eZ->ri pre eZ)->
  (∀pre x W1,cJ pre W1->pre.length<seq.length->WK P l (enc x).toArray W1 λv bs=>(v=.bool true/\cJ (pre++[x]) bs/\aej S w.1.size W1 bs)\/(v=.bool false/\ri (pre++[x]) bs))->
  cJ [] N->aP P gf (.func (.yield l) #[] #[]::lb).toArray N λ_ bs=>cJ seq bs\/∃k,k<=seq.length/\ri (seq.take k) bs
theorem aek{P:Program}{m l:Nat}{args:Array Value}{N:World}{R:Ending->World->Prop}(h:YieldAt Fence.wide m P l args N R):YieldAt Fence.wide 0 P l args N R:=by
 obtain⟨fn,tmps,a,b,H,I⟩:=h;exact⟨fn,tmps,a,b,H,I.1,λc cs _=>I.2 c cs (room_wide _)⟩
theorem GK.Rz{P:Program}{gf:FuncId}{lb:List Value}{k:Nat}{enc:Nat->List Value}{seq:List Nat}{S:Nat->Prop}{w:World}(h:GK P gf lb k enc seq S w)(m:Nat):
  SeqStopsK Fence.wide m P gf lb.toArray (λx=>(enc x).toArray) (aej S w.1.size) (λxs=>xs=seq) (λpre=>∃k,k<=seq.length/\pre=seq.take k) seq.length w:=by
 intro l cJ ri N fu bK Et hu bf;have aF:∀W1 eZ,D ak W1 eZ->W1.grownBy eZ none:=λW1 eZ T=>⟨T.os,T.tape,T.output,T.size,λk r _=>T.block k r id⟩;have bH:D ak w N:=⟨fu.os,fu.tape,fu.output,fu.size,λk r _=>fu.block k r⟩;have:=h.run l cJ ri N bH (λpre W1 eZ F T=>bK pre W1 eZ none F (aF _ _ T) λJ e=>by cases e) (λpre W1 eZ F T=>Et pre W1 eZ none F (aF _ _ T) λJ e=>by cases e) (λpre x W1 F al=> ?_) bf
 ·rw[show#[Value.func (.yield l) #[] #[]]++lb.toArray=(.func (.yield l) #[] #[]::lb).toArray by simp];refine callsIn_wide.2 (Calls.mono this.calls ?_)
  grind
 ·obtain⟨fn,tmps,a,b,H,I⟩:=aek (hu pre x W1 F al);refine⟨fn,tmps,a,b,H,RoundIn.mono I ?_⟩
  grind
def vT(f:Nat->Value):List Tmp->List Value->(Nat->Value)
 |p::ps,v::cn=>vT (gT f (some p) v) ps cn
 |_,_=>f
@[simp] theorem aGL(f:Nat->Value)(cn:List Value):vT f [] cn=f:=by unfold vT;rfl
@[simp] theorem aoZ(f:Nat->Value)(p:Tmp)(ps:List Tmp)(v:Value)(cn:List Value):vT f (p::ps) (v::cn)=vT (gT f (some p) v) ps cn:=rfl
theorem RA(n:Nat):∀(ps:List Tmp) (cn:List Value) (f:Nat->Value),(ps.zip cn).foldl (λt (p,v)=>t.setIfInBounds p v) (jH n f)=jH n (vT f ps cn)
 |[],_,f=>by simp
 |p::ps,[],f=>by simp[vT]
 |p::ps,v::cn,f=>by
  rw[List.zip_cons_cons,List.foldl_cons,aoZ,<-RA n ps cn];simp only[ael]
def RB(S:Nat->Prop)(N:World)(bg:World->Prop)(gB:Code->World->Prop):gr
 |.normal,_,_,bs=>D S N bs/\bg bs
 |.ret,_,_,bs=>D S N bs/\gB .ret bs
 |.exit id,_,_,bs=>D S N bs/\gB (.exit id) bs
 |_,_,_,_=>False
section
variable(S:Nat->Prop)(N:World)(bg:World->Prop)(gB:Code->World->Prop)(ms:List Nat)(f:Nat->Value)(bs:World)
@[simp] theorem aGM:RB S N bg gB .normal ms f bs=(D S N bs/\bg bs):=rfl
@[simp] theorem aGN:RB S N bg gB .ret ms f bs=(D S N bs/\gB .ret bs):=rfl
@[simp] theorem aGO(id:Nat):RB S N bg gB (.exit id) ms f bs=(D S N bs/\gB (.exit id) bs):=rfl
end
theorem Jr{S:Nat->Prop}{B:Nat}{N bs:World}(h:D S N bs)(cf:∀k,S k->k<B):KeepsFrom B N bs:=
 ⟨h.size,λk o eR r _=>h.obj r λe=>by have:=cf k e;omega⟩
theorem Mv{P:Program}{n:Nat}{Q:gr}{g:Operand}{ps:List Tmp}{assign body:Code}{ms:List Nat}{f:Nat->Value}{w w0:World}{gf:FuncId}{lb:List Value}{k:Nat}{enc:Nat->List Value}{seq:List Nat}{S:Nat->Prop}
  (pM:GK P gf lb k enc seq S w0)(bH:D ak w0 w)(aF:gb n f g=.func (.func gf) #[] lb.toArray)(r:ps.length=k)(yL:(lQ assign&&lQ body)=true)(cf:∀k,S k->k<w.1.size)
  (bg:List Nat->World->Prop)(gB:Code->List Nat->World->Prop)(rZ:Nat->(Nat->Value)->World->Prop)
  (bP:∀pre N bs,bg pre N->kE w.1.size N bs->bg pre bs)(Cx:∀c pre N bs,gB c pre N->kE w.1.size N bs->gB c pre bs)(Mw:∀x f N bs,rZ x f N->kE w.1.size N bs->rZ x f bs)(bf:bg [] w)
  (Mx:∀pre x N,bg pre N->dH P n (jj (pN [] λf' bs=>D ak N bs/\bg pre bs/\rZ x f' bs) λ_ _ _ _=>False) assign [] (vT f ps (enc x)) N)
  (My:∀pre x f' N,bg pre N->rZ x f' N->dH P n (RB S N (bg (pre++[x])) λc=>gB c (pre++[x])) body [] f' N)
  (Mz:∀L N,w.1.size<=L->bg seq N->N.1[L]? =some (.deferred (some []))->Q .normal (L::ms) f N)
  (MA:∀L c k N,w.1.size<=L->k<=seq.length->gB c (seq.take k) N->N.1[L]? =some (.deferred (some []))->dH P n Q c (L::ms) f N):
  vU P n Q (.rangeFunc g ps.toArray assign body) ms f w:=by
 unfold vU;intro cx ap;simp only[Bool.and_eq_true]at yL;have gJ:cx.aR=Fence.wide:=by
  obtain⟨J,m,d⟩:=cx
  cases J with
  |none=>rfl
  |some J=>cases ap
 rw[gJ];have pe:=bH.size;have key:(Code.rangeFunc g ps.toArray assign body).wpIn Fence.wide 3 P (uV cx n Q) (hc cx n ms f) w:=by
  refine wpIn_rangeFunc_ownH rfl (by omega) (by rw[GL];exact aF) trivial pM.Ry (pM.Rz 2) (λH I=>D.trans H I)
   (λN l o eX al _ _ _=>D.mono (D.vQ (grownBy_putObj' N l eX)) λj _ e=>.inr (by cases e;omega)) bH.below (λx=>by simp[pM.size,r]) bg gB
   (λpre N bs fc H I af=>bP pre N bs H ⟨fc,I,af⟩) (λc pre N bs fc H I af=>Cx c pre N bs H ⟨fc,I,af⟩) bf
   (λx ih N=>∃f',ih=⟨jH n f',[]⟩/\rZ x f' N) (λx ih _ N bs fc H I af=>by obtain⟨f',e,H⟩:=H;exact⟨f',e,Mw x f' N bs H ⟨fc,I,af⟩⟩) ?_ ?_ ?_ ?_
  ·intro l pre x N K H I;have:=dH.kj (cx:=⟨some l,1,[]⟩) _ _ _ _ _ (.inr yL.1) (Mx pre x N H);have aK:((ps.toArray.zip (enc x).toArray).foldl (λt (p,v)=>t.setIfInBounds p v) (hc cx n ms f).tmps)=jH n (vT f ps (enc x)):=by
    rw[List.zip_toArray,List.foldl_toArray];exact RA n ps (enc x) f
   rw[aK];refine wpIn_mono this ?_;rintro e a w' ⟨vV,f',rfl,aq⟩;unfold jj at aq
   cases e with
   |normal=>
    unfold pN at aq;obtain⟨rfl,af,aU,bC⟩:=aq;exact I _ _ (Jr af λk r=>r.elim) (af.mono λj _ e=>e.elim) aU ⟨f',rfl,bC⟩
   |_=>exact aq
  ·rintro l pre x ih N al _ H ⟨f',rfl,I⟩ aO;refine wpIn_mono (dH.kj (cx:=⟨some l,1,[]⟩) _ _ _ _ _ (.inr yL.2) (My pre x f' N H I)) ?_;rintro e a w' ⟨vV,sS,rfl,aq⟩
   cases e with
   |normal=>exact⟨Jr aq.1 cf,aq.1.mono λj _ e=>.inl e,aq.2⟩
   |ret=>exact⟨Jr aq.1 cf,aq.2⟩
   |exit id=>exact⟨Jr aq.1 cf,aq.2⟩
   |_=>exact aq.elim
  ·rintro L xs N dS rfl H I;exact⟨L::ms,f,rfl,Mz L N dS H I⟩
  ·rintro L c pre N dS ⟨k,r,rfl⟩ H I;exact dH.kj (cx:=⟨none,3,cx.d⟩) c Q (L::ms) f N (.inl rfl) (MA L c k N dS r H I)
 exact λb k cs H I _=>key b k cs H I (room_wide _)
def aem(B:Nat)(N:World)(fc:Option Nat):Prop:=∀J,fc=some J->B<=J/\∃o:Obj,N.1[J]? =some o/\o.isWalk=true
def GM(S:Nat->Prop)(n0:Nat)(N bs:World):Prop:=D (λk=>S k\/(n0<=k/\∀o,N.1[k]? =some o->o.isWalk=false)) N bs
theorem GM.trans{S:Nat->Prop}{n0:Nat}{ag B C:World}(h:GM S n0 ag B)(k:GM S n0 B C):GM S n0 ag C:=by
 refine⟨k.os.trans h.os,k.tape.trans h.tape,k.output.trans h.output,Nat.le_trans h.size k.size,λj F av=> ?_⟩;have aK:=h.block j F av;refine(k.block j (Nat.lt_of_lt_of_le F h.size) λe=>av ?_).trans aK
 grind
structure Cy{ct:Type}(P:Program)(gf:FuncId)(lb:List Value)(k:Nat)(enc:ct->List Value)(Fn Pt:List ct->Prop)(aQ:Nat)(S:Nat->Prop)(w:World):Prop where
 size:∀x,(enc x).length=k
 Ry:∀args w,(callFunc gf args).run P w=.ok (.enter gf args) w
 run:∀(l:Nat) (cJ ri:List ct->World->Prop) (N:World),D ak w N->(∀pre W1 eZ fc,cJ pre W1->W1.grownBy eZ fc->aem N.1.size W1 fc->cJ pre eZ)->(∀pre W1 eZ fc,ri pre W1->W1.grownBy eZ fc->aem N.1.size W1 fc->ri pre eZ)->
  (∀pre x W1,cJ pre W1->pre.length<aQ->WK P l (enc x).toArray W1 λv bs=>(v=.bool true/\cJ (pre++[x]) bs/\GM S w.1.size W1 bs)\/(v=.bool false/\ri (pre++[x]) bs))->
  cJ [] N->aP P gf (.func (.yield l) #[] #[]::lb).toArray N λ_ bs=>(∃xs,Fn xs/\cJ xs bs)\/∃pre,Pt pre/\ri pre bs
section
variable{ct:Type}{P:Program}{gf:FuncId}{lb:List Value}{k:Nat}{enc:ct->List Value}{Fn Pt:List ct->Prop}{aQ:Nat}{S:Nat->Prop}{w:World}
theorem Cy.Rz(h:Cy P gf lb k enc Fn Pt aQ S w)(m:Nat):
  SeqStopsK Fence.wide m P gf lb.toArray (λx=>(enc x).toArray) (GM S w.1.size) Fn Pt aQ w:=by
 intro l cJ ri N fu bK Et hu bf;have bH:D ak w N:=⟨fu.os,fu.tape,fu.output,fu.size,λk r _=>fu.block k r⟩;have:=h.run l cJ ri N bH (λpre W1 eZ fc F aF ap=>bK pre W1 eZ fc F aF ap) (λpre W1 eZ fc F aF ap=>Et pre W1 eZ fc F aF ap) (λpre x W1 F al=> ?_) bf
 ·rw[show#[Value.func (.yield l) #[] #[]]++lb.toArray=(.func (.yield l) #[] #[]::lb).toArray by simp];refine callsIn_wide.2 (Calls.mono this.calls ?_)
  grind
 ·obtain⟨fn,tmps,a,b,H,I⟩:=aek (hu pre x W1 F al);refine⟨fn,tmps,a,b,H,RoundIn.mono I ?_⟩
  grind
def GN(S:Nat->Prop)(B:Nat)(N:World):Nat->Prop:=λk=>S k\/(B<=k/\∀o,N.1[k]? =some o->o.isCells=true)
def RC(S:Nat->Prop)(B:Nat)(N:World)(bg:World->Prop)(gB:Code->World->Prop):gr
 |.normal,_,_,bs=>D (GN S B N) N bs/\bg bs
 |.ret,_,_,bs=>D (GN S B N) N bs/\gB .ret bs
 |.exit id,_,_,bs=>D (GN S B N) N bs/\gB (.exit id) bs
 |_,_,_,_=>False
@[simp] theorem aGP(S:Nat->Prop)(B:Nat)(N:World)(bg:World->Prop)(gB:Code->World->Prop)(ms:List Nat)(f:Nat->Value)(bs:World):RC S B N bg gB .normal ms f bs=(D (GN S B N) N bs/\bg bs):=rfl
@[simp] theorem aGQ(S:Nat->Prop)(B:Nat)(N:World)(bg:World->Prop)(gB:Code->World->Prop)(ms:List Nat)(f:Nat->Value)(bs:World):RC S B N bg gB .ret ms f bs=(D (GN S B N) N bs/\gB .ret bs):=rfl
@[simp] theorem aGR(S:Nat->Prop)(B:Nat)(N:World)(bg:World->Prop)(gB:Code->World->Prop)(id:Nat)(ms:List Nat)(f:Nat->Value)(bs:World):RC S B N bg gB (.exit id) ms f bs=(D (GN S B N) N bs/\gB (.exit id) bs):=rfl
theorem WL{B:Nat}{N bs:World}(h:D (GN S B N) N bs)(cf:∀k,S k->k<B):KeepsFrom B N bs:=
 ⟨h.size,λk o eR r T=>h.obj r λe=>by
  rcases e with e|⟨_,e⟩
  ·have:=cf k e;omega
  grind⟩
theorem ao0{o:Obj}(h:o.isCells=true):o.isWalk=false:=by
 cases bH:o.isWalk with
 |false=>rfl
 |true=>rw[Obj.not_cells_of_walk bH]at h;cases h
theorem aen{n:Nat}{Q:gr}{g:Operand}{ps:List Tmp}{assign body:Code}{ms:List Nat}{f:Nat->Value}{w0:World}
  (pM:Cy P gf lb k enc Fn Pt aQ S w0)(bH:D ak w0 w)(aF:gb n f g=.func (.func gf) #[] lb.toArray)(r:ps.length=k)(yL:(lQ assign&&lQ body)=true)(cf:∀k,S k->k<w.1.size)
  (bg:List ct->World->Prop)(gB:Code->List ct->World->Prop)(rZ:ct->(Nat->Value)->World->Prop)
  (bP:∀pre N bs,bg pre N->kE w.1.size N bs->bg pre bs)(Cx:∀c pre N bs,gB c pre N->kE w.1.size N bs->gB c pre bs)(Mw:∀x f N bs,rZ x f N->kE w.1.size N bs->rZ x f bs)(bf:bg [] w)
  (Mx:∀pre x N,bg pre N->dH P n (jj (pN [] λf' bs=>D ak N bs/\bg pre bs/\rZ x f' bs) λ_ _ _ _=>False) assign [] (vT f ps (enc x)) N)
  (My:∀pre x f' N,bg pre N->rZ x f' N->pre.length<aQ->dH P n (RC S w.1.size N (bg (pre++[x])) λc=>gB c (pre++[x])) body [] f' N)
  (Mz:∀L xs N,w.1.size<=L->Fn xs->bg xs N->N.1[L]? =some (.deferred (some []))->Q .normal (L::ms) f N)
  (MA:∀L c pre N,w.1.size<=L->Pt pre->gB c pre N->N.1[L]? =some (.deferred (some []))->dH P n Q c (L::ms) f N):
  vU P n Q (.rangeFunc g ps.toArray assign body) ms f w:=by
 unfold vU;intro cx ap;simp only[Bool.and_eq_true]at yL;have gJ:cx.aR=Fence.wide:=by
  obtain⟨J,m,d⟩:=cx
  cases J with
  |none=>rfl
  |some J=>cases ap
 rw[gJ];have pe:=bH.size;have key:(Code.rangeFunc g ps.toArray assign body).wpIn Fence.wide 3 P (uV cx n Q) (hc cx n ms f) w:=by
  refine wpIn_rangeFunc_ownH rfl (by omega) (by rw[GL];exact aF) trivial pM.Ry (pM.Rz 2) (λH I=>GM.trans H I)
   (λN l o eX al aB T eo=>D.mono (D.vQ (grownBy_putObj' N l eX)) λj _ e=>.inr (by grind)) bH.below (λx=>by simp[pM.size,r]) bg gB
   (λpre N bs fc H I af=>bP pre N bs H ⟨fc,I,af⟩) (λc pre N bs fc H I af=>Cx c pre N bs H ⟨fc,I,af⟩) bf
   (λx ih N=>∃f',ih=⟨jH n f',[]⟩/\rZ x f' N) (λx ih _ N bs fc H I af=>by obtain⟨f',e,H⟩:=H;exact⟨f',e,Mw x f' N bs H ⟨fc,I,af⟩⟩) ?_ ?_ ?_ ?_
  ·intro l pre x N K H I;have:=dH.kj (cx:=⟨some l,1,[]⟩) _ _ _ _ _ (.inr yL.1) (Mx pre x N H);have aK:((ps.toArray.zip (enc x).toArray).foldl (λt (p,v)=>t.setIfInBounds p v) (hc cx n ms f).tmps)=jH n (vT f ps (enc x)):=by
    rw[List.zip_toArray,List.foldl_toArray];exact RA n ps (enc x) f
   rw[aK];refine wpIn_mono this ?_;rintro e a w' ⟨vV,f',rfl,aq⟩;unfold jj at aq
   cases e with
   |normal=>
    unfold pN at aq;obtain⟨rfl,af,aU,bC⟩:=aq;exact I _ _ (Jr af λk r=>r.elim) (af.mono λj _ e=>e.elim) aU ⟨f',rfl,bC⟩
   |_=>exact aq
  ·rintro l pre x ih N al _ H ⟨f',rfl,I⟩ aO;refine wpIn_mono (dH.kj (cx:=⟨some l,1,[]⟩) _ _ _ _ _ (.inr yL.2) (My pre x f' N H I aO)) ?_;rintro e a w' ⟨vV,sS,rfl,aq⟩
   cases e with
   |normal=>exact⟨WL aq.1 cf,aq.1.mono λj _ e=>e.imp id λe=>⟨by omega,λo aB=>ao0 (e.2 o aB)⟩,aq.2⟩
   |ret=>exact⟨WL aq.1 cf,aq.2⟩
   |exit id=>exact⟨WL aq.1 cf,aq.2⟩
   |_=>exact aq.elim
  ·rintro L xs N dS eU H I;exact⟨L::ms,f,rfl,Mz L xs N dS eU H I⟩
  ·rintro L c pre N dS r H I;exact dH.kj (cx:=⟨none,3,cx.d⟩) c Q (L::ms) f N (.inl rfl) (MA L c pre N dS r H I)
 exact λb k cs H I _=>key b k cs H I (room_wide _)
end
def AI(o:Oper):Bool:=match o.op with
 |.defer _=>true
 |_=>false
def tT(P:Program)(aM:Array Oper)(n:Nat)(Q:Deferred->(Nat->Value)->World->Prop):List Oper->(Nat->Value)->World->Prop
 |[],_,_=>False
 |o::cA,f,w=>match o.op with
  |.defer c=>o.guard=none/\∃d,(resolve (gb n f) c o.type).run P w=.ok d w/\jW P aM n (Q d) cA (gT f o.dst undef) w
  |_=>o.guard=none/\dG P (gb n f) o w (λv w'=>tT P aM n Q cA (gT f o.dst v) w')
theorem tT.kj{P:Program}{aM:Array Oper}{cx:mw}{n:Nat}(ap:cx.J=none){Q:Exit->Act->World->Prop}{kF:Deferred->(Nat->Value)->World->Prop}(aq:∀d f w,kF d f w->Q .normal (hc {cx with d:=d::cx.d} n [] f) w):
  ∀(l:List Oper) (f:Nat->Value) (w:World),tT P aM n kF l f w->wpListIn cx.aR cx.m P aM Q l (hc cx n [] f) w
 |[],f,w,h=>h.elim
 |o::cA,f,w,h=>by
  refine wpListIn_step λK eS=> ?_;have bH:o.guard=none->Region.wanted o (yielded aM (hc cx n [] f).tmps)=true:=λaF=>by simp[Region.wanted,aF]
  by_cases bi:∃c,o.op=.defer c
  ·obtain⟨c,T⟩:=bi;have h':o.guard=none/\∃d,(resolve (gb n f) c o.type).run P w=.ok d w/\jW P aM n (kF d) cA (gT f o.dst undef) w:=by
    unfold tT at h;rw[T]at h;exact h
   obtain⟨aF,d,H,I⟩:=h';rw[if_pos (bH aF)];refine⟨λg _=>cx.fn g,?_⟩;have ao1:cx.aR.round=none:=by
    obtain⟨J,m,d⟩:=cx
    cases ap
    rfl
   have aV:(Oper.semAt cx.aR.round (hc cx n [] f).eval o).run P w=.ok (.defer d) w:=by
    rw[ao1,Oper.semAt_none,GL];obtain⟨dst,op,bO,pos,eC,g⟩:=o;simp only at T H;subst T;show(do pure (Next.defer (<-resolve (gb n f) c bO)):Sem Next).run P w=_;simp only[Sem.run_bind,Sem.run_pure,H,Result.andThen_ok]
   rw[aV,Oper.uponIn_defer];have e:({hc cx n [] f with defers:=d::(hc cx n [] f).defers}:Act).put o.dst undef=hc {cx with d:=d::cx.d} n [] (gT f o.dst undef):=by
    rw[<-GO];rfl
   rw[e];exact eS _ _ (jW.kj (cx:={cx with d:=d::cx.d}) (ms:=[]) (λf w h=>aq d f w h) cA _ _ I)
  ·have h':o.guard=none/\dG P (gb n f) o w (λv w'=>tT P aM n kF cA (gT f o.dst v) w'):=by
    unfold tT at h;revert h
    cases aB:o.op with
    |defer c=>exact absurd ⟨c,aB⟩ bi
    |_=>exact λh=>h
   rw[if_pos (bH h'.1)];exact h'.2.kj λv w' aS=>eS _ _ (tT.kj ap aq cA _ _ aS)
def aeo(P:Program)(aM:Array Oper)(n:Nat)(Q:Deferred->(Nat->Value)->World->Prop)(cA:List Oper)(f:Nat->Value)(d:Option Tmp)(v:Value)(w:World):Prop:=tT P aM n Q cA (gT f d v) w
@[simp] theorem aGS(P:Program)(aM:Array Oper)(n:Nat)(Q:Deferred->(Nat->Value)->World->Prop)(cA:List Oper)(f:Nat->Value)(d:Option Tmp)(v:Value)(w:World):aeo P aM n Q cA f d v w=tT P aM n Q cA (gT f d v) w:=fj rfl
@[simp] theorem aGT(P:Program)(aM:Array Oper)(n:Nat)(Q:Deferred->(Nat->Value)->World->Prop)(d:Option Tmp)(Eu:Array Operand)(cs:Array Operand)(bO:TypeId)(pos:String)(eC:Array Edge)(x:Fn)(cA:List Oper)(f:Nat->Value)(w:World):
  tT P aM n Q (⟨d,.makeFunc x Eu cs,bO,pos,eC,none⟩::cA) f w=dG P (gb n f) ⟨d,.makeFunc x Eu cs,bO,pos,eC,none⟩ w (aeo P aM n Q cA f d):=propext ⟨λh=>h.2,λh=>⟨rfl,h⟩⟩
theorem ao2(P:Program)(aM:Array Oper)(n:Nat)(Q:Deferred->(Nat->Value)->World->Prop)(d:Option Tmp)(c:Call)(bO:TypeId)(pos:String)(eC:Array Edge)(cA:List Oper)(f:Nat->Value)(w:World)(e:Deferred)
  (h:(resolve (gb n f) c bO).run P w=.ok e w)(r:jW P aM n (Q e) cA (gT f d undef) w):tT P aM n Q (⟨d,.defer c,bO,pos,eC,none⟩::cA) f w:=⟨rfl,e,h,r⟩
def bZ:Code->Bool
 |.region _ aM false=> !aM.toList.any AI
 |_=>true
def ao3(P:Program)(n:Nat)(K:Deferred->gr):Code->(Nat->Value)->World->Prop
 |.region _ aM false,f,w=>tT P aM n (λd=>K d .normal []) aM.toList f w
 |_,_,_=>False
def tU(P:Program)(n:Nat)(Q:gr)(lR:Deferred->gr):Code->r_
 |.seq a b,ms,f,w=>(bZ a=true/\dH P n (jj (tU P n Q lR b) Q) a ms f w)\/(bZ a=false/\ms=[]/\ao3 P n (λd=>jj (dH P n (lR d) b) (lR d)) a f w)
 |c,ms,f,w=>dH P n Q c ms f w
def oE:mw:=⟨none,0,[]⟩
def RD(n:Nat)(Q:gr)(lR:Deferred->gr):Exit->Act->World->Prop:=λe a w=>uV oE n Q e a w\/∃d,uV ⟨none,0,[d]⟩ n (lR d) e a w
theorem tU.kj{P:Program}{n:Nat}{Q:gr}{lR:Deferred->gr}:∀(c:Code) (ms:List Nat) (f:Nat->Value) (w:World),tU P n Q lR c ms f w->c.wpIn Fence.wide 0 P (RD n Q lR) (hc oE n ms f) w:=by
 intro c;have WM:∀(c:Code) (ms:List Nat) (f:Nat->Value) (w:World),dH P n Q c ms f w->c.wpIn Fence.wide 0 P (RD n Q lR) (hc oE n ms f) w:=λc ms f w h=>
  wpIn_mono (dH.kj (cx:=oE) c Q ms f w (.inl rfl) h) λe a w h=>.inl h
 induction c with
 |seq a b Ev Cz=>
  intro ms f w h;unfold tU at h;rcases h with⟨_,h⟩|⟨_,rfl,h⟩
  ·refine wpIn_seq (wpIn_mono (dH.kj (cx:=oE) a _ ms f w (.inl rfl) h) ?_);intro e a w an;have H:=MB (cx:=oE) (K':=λa w=>b.wpIn Fence.wide 0 P (RD n Q lR) a w) (λms f w h=>Cz ms f w h) e a w an
   cases e with
   |normal=>exact H
   |_=>exact .inl H
  ·cases a with
   |region id aM d=>
    cases d with
    |true=>exact h.elim
    |false=>
     have aS:tT P aM n (λd=>jj (dH P n (lR d) b) (lR d) .normal []) aM.toList f w:=h;have aw:=tT.kj (cx:=oE) rfl (Q:=λe a w=>∃d,uV ⟨none,0,[d]⟩ n (jj (dH P n (lR d) b) (lR d)) e a w) (λd f w aq=>⟨d,[],f,rfl,aq⟩) aM.toList f w aS;refine wpIn_seq (wpIn_mono (wpIn_region_list aw) ?_);rintro e a w ⟨d,an⟩;have H:=MB (cx:=⟨none,0,[d]⟩) (K':=λa w=>b.wpIn Fence.wide 0 P (RD n Q lR) a w) (λms f w h=>wpIn_mono (dH.kj (cx:=⟨none,0,[d]⟩) b _ ms f w (.inl rfl) h) λe a w h=>.inr ⟨d,h⟩) e a w an
     cases e with
     |normal=>exact H
     |_=>exact .inr ⟨d,H⟩
   |_=>exact h.elim
 |_=>exact λms f w h=>WM _ ms f w h
section
variable(P:Program)(n:Nat)(Q:gr)(lR:Deferred->gr)(ms:List Nat)(f:Nat->Value)(w:World)
@[simp] theorem aGU(id:Nat)(l:List Oper)(b:Code)(h:l.any AI=false):tU P n Q lR (.seq (.region id l.toArray false) b) ms f w=dH P n (jj (tU P n Q lR b) Q) (.region id l.toArray false) ms f w:=by
 have e:bZ (.region id l.toArray false)=true:=by show(!l.any AI)=true;rw[h];rfl
 refine propext ⟨λh=> ?_,λh=>.inl ⟨e,h⟩⟩;rcases h with⟨_,h⟩|⟨h,_⟩
 ·exact h
 ·rw[e]at h;cases h
@[simp] theorem aGV(id:Nat)(aM:Array Oper)(b:Code):tU P n Q lR (.seq (.region id aM true) b) ms f w=dH P n (jj (tU P n Q lR b) Q) (.region id aM true) ms f w:=
 propext ⟨λh=>Or.elim h (λh=>h.2) (λh=>absurd h.1 (by simp[bZ])),λh=>Or.inl ⟨rfl,h⟩⟩
@[simp] theorem aGW(o:Operand)(x y b:Code):tU P n Q lR (.seq (.cond o x y) b) ms f w=dH P n (jj (tU P n Q lR b) Q) (.cond o x y) ms f w:=
 propext ⟨λh=>Or.elim h (λh=>h.2) (λh=>absurd h.1 (by simp[bZ])),λh=>Or.inl ⟨rfl,h⟩⟩
@[simp] theorem aGX(x y b:Code):tU P n Q lR (.seq (.seq x y) b) ms f w=dH P n (jj (tU P n Q lR b) Q) (.seq x y) ms f w:=
 propext ⟨λh=>Or.elim h (λh=>h.2) (λh=>absurd h.1 (by simp[bZ])),λh=>Or.inl ⟨rfl,h⟩⟩
theorem ao4(id:Nat)(l:List Oper)(b:Code)(h:l.any AI=true):tU P n Q lR (.seq (.region id l.toArray false) b) [] f w=tT P l.toArray n (λd=>jj (dH P n (lR d) b) (lR d) .normal []) l f w:=by
 have e:bZ (.region id l.toArray false)=false:=by show(!l.any AI)=false;rw[h];rfl
 refine propext ⟨λh=> ?_,λh=>.inr ⟨e,rfl,h⟩⟩;rcases h with⟨h,_⟩|⟨_,_,h⟩
 ·rw[e]at h;cases h
 ·exact h
end
def CA(P:Program)(d:Deferred)(w:World)(K:World->Prop):Prop:=∃CB cap f args,d.target=.fn CB cap/\(invoke d.target d.args).run P w=.ok (.enter f args) w/\CallsDIn Fence.wide 0 P f args .returning w λe cS w'=>cS=.returning/\∃v,e=.returned v/\K w'
def MC(P:Program)(n:Nat)(fn:Func)(R:Value->World->Prop)(d:Deferred):gr
 |.ret,ms,f,w=>tV ms w λw=>CA P d w λw=>jI P n fn.results f w R
 |.normal,ms,f,w=>tV ms w λw=>CA P d w λw=>jI P n fn.results f w R
 |_,_,_,_=>False
@[simp] theorem aGY(P:Program)(n:Nat)(fn:Func)(R:Value->World->Prop)(d:Deferred)(f:Nat->Value)(w:World):MC P n fn R d .ret [] f w=CA P d w λw=>jI P n fn.results f w R:=by
 unfold MC;exact MD _ _
@[simp] theorem aGZ(P:Program)(n:Nat)(fn:Func)(R:Value->World->Prop)(d:Deferred)(f:Nat->Value)(w:World):MC P n fn R d .normal [] f w=CA P d w λw=>jI P n fn.results f w R:=by
 unfold MC;exact MD _ _
theorem WN{P:Program}{n:Nat}{fn:Func}{f:Nat->Value}{R:Value->World->Prop}{d:Deferred}:∀(ms:List Nat) (w:World),tV ms w (λw=>CA P d w λw=>jI P n fn.results f w R)->LeavesInM Fence.wide 0 P fn (jH n f) (λe w'=>∃v,e=.returned v/\R v w') (iJ ms++[d]) .returning w
 |[],w,h=>by
  rw[MD]at h;obtain⟨CB,cap,g,args,H,I,af⟩:=h;refine⟨by simp,.inr ⟨(λh=>by cases h),CB,cap,g,args,H,I,λ_ _=>trivial,CallsDIn.mono af ?_⟩⟩;rintro e cS w' ⟨rfl,v,rfl,aS⟩;unfold jI at aS;obtain⟨W,a',aX⟩:=aS;exact⟨W,a',W,rfl,aX⟩
 |L::ms,w,h=>by
  rw[WO]at h;exact⟨by simp,.inl ⟨L,_,rfl,run_takeDeferred h.1,WN ms _ h.2⟩⟩
theorem ao5{P:Program}{g:FuncId}{fn:Func}{c:Code}{args:Array Value}{w:World}{R:Value->World->Prop}{n:Nat}(bU:P.funcs[g]? =some fn)(av:fn.ntmps=n)(V:fn.body=some c)(am:args.size<=n)
  (h:∀aZ:Value->World->Prop,(∀v w',R v w'->aZ v w')->tU P n (yM P n fn aZ) (MC P n fn aZ) c [] (AJ args.toList) w):aP P g args w R:=by
 replace h:=h R λ_ _ h=>h;unfold aP;refine(callsIn_wide (n:=0)).1 (callsIn_of_wp_marks bU V trivial ?_ rfl);subst av;rw[WP args _ am];refine wpIn_mono (tU.kj _ _ _ _ h) ?_;rintro e a w' (⟨ms,f,rfl,aq⟩|⟨d,ms,f,rfl,aq⟩)
 ·unfold yM at aq
  cases e
  case normal=>exact ME ms w' aq
  case ret=>exact ME ms w' aq
  all_goals exact aq.elim
 ·cases e
  case normal=>exact WN ms w' aq
  case ret=>exact WN ms w' aq
  all_goals exact aq.elim
theorem WQ{P:Program}{n:Nat}{g:FuncId}{fn:Func}{f:Nat->Value}{R:Value->World->Prop}(n':P.funcs[g]? =some fn):∀(ms:List Nat) (w:World) (fr:Frame) (cs:List Frame),fr.mode=.returning->fr.defers=iJ ms->fr.tmps=jH n f->fr.fn=g->fr.kind=.deferred->tV ms w (λw=>jI P n fn.results f w R)->
  ∃v w' yN,R v w'/\StepsIn (Machine.fenced P Fence.wide) P (lone fr cs w) (lone yN cs w')/\yN.kind=.deferred/\yN.fn=g/\yN.going P w' (.returned v)
 |[],w,fr,cs,aH,bi,bd,bU,r,h=>by
  rw[MD]at h;unfold jI at h;obtain⟨v,H,I⟩:=h;refine⟨v,w,fr,I,StepsIn.refl _,r,bU,aH,bi,fn,by rw[bU];exact n',?_⟩;rw[bd];exact H
 |L::ms,w,fr,cs,aH,bi,bd,bU,r,h=>by
  rw[WO]at h;have H:=step_collected (P:=P) (cs:=cs) (fr:=fr) (calls:=[]) (by rw[aH];simp) bi rfl (run_takeDeferred h.1);have rj:(lone fr cs w).fenced P Fence.wide:=fenced_out (n:=0) trivial (room_wide _) (by rw[aH];simp) bi λg aF=>by simp[Target.leads]at aF
  obtain⟨v,w',yN,a',aX,bq⟩:=WQ n' ms _ {fr with defers:=[]++iJ ms} cs aH rfl bd bU r h.2;exact⟨v,w',yN,a',StepsIn.trans (.one rj H) aX,bq⟩
theorem ao6{P:Program}{g:FuncId}{fn:Func}{c:Code}{args:Array Value}{w:World}{R:World->Prop}{n:Nat}(bU:P.funcs[g]? =some fn)(av:fn.ntmps=n)(V:fn.body=some c)(am:args.size<=n)
  (h:∀aZ:Value->World->Prop,(∀v w',R w'->aZ v w')->dH P n (yM P n fn aZ) c [] (AJ args.toList) w):CallsDIn Fence.wide 0 P g args .returning w λe cS w'=>cS=.returning/\∃v,e=.returned v/\R w':=by
 replace h:=h (λ_ w=>R w) λ_ _ h=>h;refine⟨trivial,λJs cs an ap=> ?_⟩;subst av;have aS:=dH.kj (cx:=oE) _ _ _ _ _ (.inl rfl) h;let b:Frame:={(default:Frame)with fn:=g,kind:=.deferred,roundOf:=none};have ao7:Frame.enter P g args .deferred=b.atR (hc oE fn.ntmps [] (AJ args.toList)) [.code c]:=by
  have e:hc oE fn.ntmps [] (AJ args.toList)={tmps:=args++Array.replicate (fn.ntmps - args.size) undef,defers:=[]}:=by
   rw[WP args _ am];rfl
  rw[e];simp[Frame.enter,Frame.atR,bU,V,b]
 have T:({Js with mode:=.returning}:Frame)=Js:=by
  cases Js
  simp only at an;subst an;rfl
 obtain⟨e,ih,w',aq,rc⟩:=aS b [] (Js::cs) rfl trivial ap;rw[<-ao7]at rc;obtain⟨ms,f,rfl,aq⟩:=aq;unfold yM at aq
 cases e with
 |normal=>
  obtain⟨v,ai,yN,a',aX,bq,ec,ft⟩:=WQ (n:=fn.ntmps) (R:=λ_ w=>R w) bU ms w' {b.atR (hc oE fn.ntmps ms f) []with mode:=.returning} (Js::cs) rfl (by show iJ ms++[]=iJ ms;simp) rfl rfl rfl aq;refine⟨.returned v,.returning,ai,yN,⟨rfl,v,rfl,a'⟩,?_,bq,ec,ft⟩;rw[T];exact StepsIn.trans (StepsIn.trans rc (.one (fenced_calm (fr:=b.atR (hc oE fn.ntmps ms f) []) trivial ap rfl) (stepR_end rfl))) aX
 |ret=>
  obtain⟨ao8,aw⟩:=rc.1 rfl;obtain⟨v,ai,yN,a',aX,bq,ec,ft⟩:=WQ (n:=fn.ntmps) (R:=λ_ w=>R w) bU ms w' {b.atR (hc oE fn.ntmps ms f) ao8 with mode:=.returning} (Js::cs) rfl (by show iJ ms++[]=iJ ms;simp) rfl rfl rfl aq;refine⟨.returned v,.returning,ai,yN,⟨rfl,v,rfl,a'⟩,?_,bq,ec,ft⟩;rw[T];exact StepsIn.trans aw aX
 |_=>exact aq.elim
theorem CA.intro{P:Program}{CB:Fn}{cap aep:Array Value}{w:World}{K:World->Prop}{f:FuncId}{args:Array Value}(aa:(invoke (.fn CB cap) aep).run P w=.ok (.enter f args) w)
  (h:CallsDIn Fence.wide 0 P f args .returning w λe cS w'=>cS=.returning/\∃v,e=.returned v/\K w'):CA P {target:=.fn CB cap,args:=aep} w K:=⟨CB,cap,f,args,rfl,aa,h⟩
theorem ao9.ao_{P:Program}{f:FuncId}{args:Array Value}{w:World}{K K':World->Prop}(h:CallsDIn Fence.wide 0 P f args .returning w λe cS w'=>cS=.returning/\∃v,e=.returned v/\K w')(r:∀w',K w'->K' w'):CallsDIn Fence.wide 0 P f args .returning w λe cS w'=>cS=.returning/\∃v,e=.returned v/\K' w':=by
 refine CallsDIn.mono h ?_
 grind
def RE(bg:Nat->r_)(k:Nat):r_:=λms f w=>∃lo,lo<k/\bg lo ms f w
theorem RE.intro{bg:Nat->r_}{k:Nat}{ms:List Nat}{f:Nat->Value}{w:World}(lo:Nat)(h:lo<k)(aa:bg lo ms f w):RE bg k ms f w:=⟨lo,h,aa⟩
theorem ao'{P:Program}{n:Nat}{Q:gr}{c:Code}{ms:List Nat}{f:Nat->Value}{w:World}(bg:Nat->r_)(pd:Nat)(bf:bg pd ms f w)
  (aw:∀cJ:Nat->r_,(∀k ms f w,bg k ms f w->cJ k ms f w)->∀k ms f w,bg k ms f w->dH P n (jj (RE cJ k) Q) c ms f w):Ew P n Q c ms f w:=by
 unfold Ew;intro cx ap;refine wpIn_loop_ghost (λk a w=>∃ms f,a=hc cx n ms f/\bg k ms f w) pd ⟨ms,f,rfl,bf⟩ ?_;rintro k a w ⟨ms,f,rfl,bU⟩;refine wpIn_mono (dH.kj _ _ _ _ _ ap (aw bg (λ_ _ _ _ h=>h) k ms f w bU)) (MB ?_);rintro vV f w ⟨lo,r,aa⟩
 grind
theorem aeq{K:World->Prop}:∀(ms:List Nat) (w:World),(∀L∈ms,w.1[L]? =some (.deferred (some [])))->ms.Nodup->(∀w',D (λj=>j∈ms) w w'->K w')->tV ms w K
 |[],w,_,_,h=>by
  rw[MD];exact h w (D.refl _ _)
 |L::ms,w,aH,av,h=>by
  rw[List.nodup_cons]at av;rw[WO];have dS:=aH L (by simp);have c:D (λj=>j=L) w (w.putObj L (.deferred none)):=(D.refl (λj=>j=L) w).putObj (.inl rfl) _;refine⟨dS,aeq ms _ (λD' h'=>c.obj (aH D' (by simp[h'])) λe=>av.1 (by rw[<-e];exact h')) av.2 λw' dg=>h w' ?_⟩;exact(c.mono λj _ e=>by simp[e]).trans (dg.mono λj _ e=>List.mem_cons_of_mem _ e)
end Go.Kin
