/- The keys of a map, gathered and sorted. No condition but on their number. -/
import Derived.Test.YtoohkhcpboldjaaGreatDoorSqG
set_option maxRecDepth 100000
set_option maxHeartbeats 1000000
set_option linter.unusedSimpArgs false
set_option linter.unusedVariables false
namespace Go.Kin
open Go Go.RowKit
def as8(B:Nat)(Y:M)(fS:Option Nat):Prop:=∀V,fS=some V->B<=V/\∃o:Obj,Y.1[V]? =some o/\o.isWalk=true
def NK(S:Nat->Prop)(n0:Nat)(Y bG:M):Prop:=H (λk=>S k\/(n0<=k/\∀o,Y.1[k]? =some o->o.isWalk=false)) Y bG
theorem NK.trans{S:Nat->Prop}{n0:Nat}{A B C:M}(h:NK S n0 A B)(k:NK S n0 B C):NK S n0 A C:=by
 refine⟨k.os.trans h.os,k.tape.trans h.tape,k.output.trans h.output,dK h.size k.size,λj I aq=> ?_⟩;have aL:=h.block j I aq;refine(k.block j (gQ I h.size) λe=>aq ?_).trans aL
 grind
structure Ia{α:Type}(P:Program)(gf:FuncId)(lb:List N)(k:Nat)(enc:α->List N)(Fn Pt:List α->Prop)(bd:Nat)(S:Nat->Prop)(w:M):Prop where
 size:∀x,(enc x).length=k
 Yp:∀args w,(callFunc gf args).run P w=.ok (.enter gf args) w
 run:∀(l:Nat) (cQ tw:List α->M->Prop) (Y:M),H al w Y->(∀pre W1 gk fS,cQ pre W1->W1.grownBy gk fS->as8 Y.1.size W1 fS->cQ pre gk)->(∀pre W1 gk fS,tw pre W1->W1.grownBy gk fS->as8 Y.1.size W1 fS->tw pre gk)->
  (∀pre x W1,cQ pre W1->pre.length<bd->adS P l (enc x).toArray W1 λv bG=>(v=.bool true/\cQ (pre++[x]) bG/\NK S w.1.size W1 bG)\/(v=.bool false/\tw (pre++[x]) bG))->
  cQ [] Y->bc P gf (.func (.yield l) #[] #[]::lb).toArray Y λ_ bG=>(∃xs,Fn xs/\cQ xs bG)\/∃pre,Pt pre/\tw pre bG
section
variable {α:Type}{P:Program}{gf:FuncId}{lb:List N}{k:Nat}{enc:α->List N}{Fn Pt:List α->Prop}{bd:Nat}{S:Nat->Prop}{w:M}
theorem Ia.Yq(h:Ia P gf lb k enc Fn Pt bd S w)(m:Nat):
  SeqStopsK Fence.wide m P gf lb.toArray (λx=>(enc x).toArray) (NK S w.1.size) Fn Pt bd w:=by
 intro l cQ tw Y fX bJ Jg jm bi;have bM:H al w Y:=⟨fX.os,fX.tape,fX.output,fX.size,λk r _=>fX.block k r⟩;have:=h.run l cQ tw Y bM (λpre W1 gk fS I aH ax=>bJ pre W1 gk fS I aH ax) (λpre W1 gk fS I aH ax=>Jg pre W1 gk fS I aH ax) (λpre x W1 I ak=> ?_) bi
 ·rw[show#[Value.func (.yield l) #[] #[]]++lb.toArray=(.func (.yield l) #[] #[]::lb).toArray by simp];refine callsIn_wide.2 (Calls.mono this.calls ?_)
  grind
 ·obtain⟨fn,tmps,a,b,J,T⟩:=al2 (jm pre x W1 I ak);refine⟨fn,tmps,a,b,J,RoundIn.mono T ?_⟩
  grind
def NL(S:Nat->Prop)(B:Nat)(Y:M):Nat->Prop:=λk=>S k\/(B<=k/\∀o,Y.1[k]? =some o->o.isCells=true)
def abl(S:Nat->Prop)(B:Nat)(Y:M)(bq:M->Prop)(hy:Code->M->Prop):hM
 |.normal,_,_,bG=>H (NL S B Y) Y bG/\bq bG
 |.ret,_,_,bG=>H (NL S B Y) Y bG/\hy .ret bG
 |.exit id,_,_,bG=>H (NL S B Y) Y bG/\hy (.exit id) bG
 |_,_,_,_=>False
@[simp] theorem aSQ(S:Nat->Prop)(B:Nat)(Y:M)(bq:M->Prop)(hy:Code->M->Prop)(ms:List Nat)(f:Nat->N)(bG:M):abl S B Y bq hy .normal ms f bG=(H (NL S B Y) Y bG/\bq bG):=rfl
@[simp] theorem aSR(S:Nat->Prop)(B:Nat)(Y:M)(bq:M->Prop)(hy:Code->M->Prop)(ms:List Nat)(f:Nat->N)(bG:M):abl S B Y bq hy .ret ms f bG=(H (NL S B Y) Y bG/\hy .ret bG):=rfl
@[simp] theorem aSS(S:Nat->Prop)(B:Nat)(Y:M)(bq:M->Prop)(hy:Code->M->Prop)(id:Nat)(ms:List Nat)(f:Nat->N)(bG:M):abl S B Y bq hy (.exit id) ms f bG=(H (NL S B Y) Y bG/\hy (.exit id) bG):=rfl
theorem aiu{B:Nat}{Y bG:M}(h:H (NL S B Y) Y bG)(cl:∀k,S k->k<B):KeepsFrom B Y bG:=
 ⟨h.size,λk o gY r Z=>h.obj r λe=>by
  rcases e with e|⟨_,e⟩
  ·have:=cl k e;omega
  grind⟩
theorem aJY{o:Obj}(h:o.isCells=true):o.isWalk=false:=by
 cases bM:o.isWalk with
 |false=>rfl
 |true=>rw[Obj.not_cells_of_walk bM]at h;cases h
theorem as9{n:Nat}{Q:hM}{g:Operand}{ps:List Tmp}{assign body:Code}{ms:List Nat}{f:Nat->N}{w0:M}
  (rH:Ia P gf lb k enc Fn Pt bd S w0)(bM:H al w0 w)(aH:hh n f g=.func (.func gf) #[] lb.toArray)(r:ps.length=k)(Cs:(mX assign&&mX body)=true)(cl:∀k,S k->k<w.1.size)
  (bq:List α->M->Prop)(hy:Code->List α->M->Prop)(ur:α->(Nat->N)->M->Prop)
  (bW:∀pre Y bG,bq pre Y->lK w.1.size Y bG->bq pre bG)(GE:∀c pre Y bG,hy c pre Y->lK w.1.size Y bG->hy c pre bG)(SP:∀x f Y bG,ur x f Y->lK w.1.size Y bG->ur x f bG)(bi:bq [] w)
  (SQ:∀pre x Y,bq pre Y->eu P n (j' (ki [] λf' bG=>H al Y bG/\bq pre bG/\ur x f' bG) λ_ _ _ _=>False) assign [] (zf f ps (enc x)) Y)
  (SR:∀pre x f' Y,bq pre Y->ur x f' Y->pre.length<bd->eu P n (abl S w.1.size Y (bq (pre++[x])) λc=>hy c (pre++[x])) body [] f' Y)
  (SU:∀D xs Y,w.1.size<=D->Fn xs->bq xs Y->Y.1[D]? =some (.deferred (some []))->Q .normal (D::ms) f Y)
  (SV:∀D c pre Y,w.1.size<=D->Pt pre->hy c pre Y->Y.1[D]? =some (.deferred (some []))->eu P n Q c (D::ms) f Y):
  GF P n Q (.rangeFunc g ps.toArray assign body) ms f w:=by
 unfold GF;intro cx ax;simp only[ot]at Cs;have hn:cx.a'=Fence.wide:=by
  obtain⟨V,m,d⟩:=cx
  cases V with
  |none=>rfl
  |some V=>cases ax
 rw[hn];have qV:=bM.size;have key:(Code.rangeFunc g ps.toArray assign body).wpIn Fence.wide 3 P (xO cx n Q) (gS cx n ms f) w:=by
  refine wpIn_rangeFunc_ownH rfl (by omega) (by rw[Me];exact aH) trivial rH.Yp (rH.Yq 2) (λJ T=>NK.trans J T)
   (λY l o gg ak av Z ej=>H.mono (H.yQ (grownBy_putObj' Y l gg)) λj _ e=>.inr (by grind)) bM.below (λx=>by simp[rH.size,r]) bq hy
   (λpre Y bG fS J T ag=>bW pre Y bG J ⟨fS,T,ag⟩) (λc pre Y bG fS J T ag=>GE c pre Y bG J ⟨fS,T,ag⟩) bi
   (λx jv Y=>∃f',jv=⟨lL n f',[]⟩/\ur x f' Y) (λx jv _ Y bG fS J T ag=>by obtain⟨f',e,J⟩:=J;exact⟨f',e,SP x f' Y bG J ⟨fS,T,ag⟩⟩) ?_ ?_ ?_ ?_
  ·intro l pre x Y K J T;have:=eu.lM (cx:=⟨some l,1,[]⟩) _ _ _ _ _ (.inr Cs.1) (SQ pre x Y J);have aL:((ps.toArray.zip (enc x).toArray).foldl (λt (p,v)=>t.setIfInBounds p v) (gS cx n ms f).tmps)=lL n (zf f ps (enc x)):=by
    rw[acM,acN];exact Yr n ps (enc x) f
   rw[aL];refine wpIn_mono this ?_;rintro e a w' ⟨zg,f',rfl,au⟩;unfold j' at au
   cases e with
   |normal=>
    unfold ki at au;obtain⟨rfl,ag,aP,bH⟩:=au;exact T _ _ (Ph ag λk r=>r.elim) (ag.mono λj _ e=>e.elim) aP ⟨f',rfl,bH⟩
   |_=>exact au
  ·rintro l pre x jv Y ak _ J ⟨f',rfl,T⟩ aO;refine wpIn_mono (eu.lM (cx:=⟨some l,1,[]⟩) _ _ _ _ _ (.inr Cs.2) (SR pre x f' Y J T aO)) ?_;rintro e a w' ⟨zg,vs,rfl,au⟩
   cases e with
   |normal=>exact⟨aiu au.1 cl,au.1.mono λj _ e=>e.imp id λe=>⟨by omega,λo av=>aJY (e.2 o av)⟩,au.2⟩
   |ret=>exact⟨aiu au.1 cl,au.2⟩
   |exit id=>exact⟨aiu au.1 cl,au.2⟩
   |_=>exact au.elim
  ·rintro D xs Y dX eF J T;exact⟨D::ms,f,rfl,SU D xs Y dX eF J T⟩
  ·rintro D c pre Y dX r J T;exact eu.lM (cx:=⟨none,3,cx.d⟩) c Q (D::ms) f Y (.inl rfl) (SV D c pre Y dX r J T)
 exact λb k cs J T _=>key b k cs J T (room_wide _)
end
end Go.Kin
namespace Go.Proofs.YtoohkhcpboldjaaGreatDoor.S16
open Go.RowKit Go.Kin Go.Maps Go.Sort Tryz
abbrev dR:=SS.dR
abbrev lt:dp->dp->Bool:=SS.lt (bb:=true)
theorem HU(n:Nat)(aq:n<=255)(w:M):bc prog 194 #[.int .u64 n] w λv' w'=>v'=aa (bitsLen n)/\w'=w:=SS.HU n aq w
theorem Rl{w:M}{blk:Nat}{d:Array dp}(h:dM nn w blk d)(cap:Nat)(cU:d.size<=255):
  bc prog 139 #[dR blk d.size cap] w λ_ w'=>∃dr,dM nn w' blk dr/\PermIn 0 d.size d dr/\SortedIn lt 0 d.size dr/\H (aj blk) w w':=SS.Rl (bb:=true) h cap cU
theorem aiv(w:M)(A:Option Addr)(cap:Nat):bc prog 223 #[.slice A 0 cap,aa 0,aa 0] w λ_ w'=>H al w w':=by
 refine bz func223 ntmps223 λbk af=> ?_;have dx:IntKind.i64.wrap 1=1:=rfl;simp[go_sem,dx];refine di (λV f u=>V=0/\f 6=aa 1/\f 2=aa 0/\u=w) 0 ⟨rfl,by simp,by simp,rfl⟩ ?_;rintro cQ bJ V f u ⟨rfl,f6,bg,rfl⟩;simp[go_sem,f6,bg];exact af _ _ (H.refl _ _)
theorem VT(w:M)(A:Option Addr)(cap:Nat):bc prog 139 #[.slice A 0 cap] w λ_ w'=>H al w w':=by
 refine bz func139 ntmps139 λbk af=> ?_;have ak:bc prog 194 #[.int .u64 0] w λv' w'=>v'=aa 0/\w'=w:=HU 0 (by omega) w;simp[go_sem];refine ak.mono ?_;rintro _ ai ⟨rfl,bM⟩;subst ai;simp[go_sem];have am:bc prog 193 #[.slice A 0 cap,aa 0,aa 0,aa 0] w λ_ w'=>H al w w':=by
  refine bz func193 ntmps193 λbk af=> ?_;simp[go_sem];refine di (λV f u=>V=0/\f 0=.slice A 0 cap/\f 1=aa 0/\f 2=aa 0/\u=w) 0 ⟨rfl,by simp,by simp,by simp,rfl⟩ ?_;rintro cQ bJ V f u ⟨rfl,f0,aW,bg,rfl⟩;have sm:IntKind.i64.wrap 0=0:=rfl;simp[go_sem,f0,aW,bg,sm];refine(aiv u A cap).mono ?_;intro _ an aK;simp[go_sem];exact af _ _ aK
 refine am.mono ?_;intro _ an aK;simp[go_sem];exact af _ _ aK
theorem VU{P:Program}{k:TypeId}{jF:Type}{ez:jF->N}{w:M}{b V n eM:Nat}{a':jF->Option N}{left:jF->Bool}(h:pu w P k ez b V n a' left eM):∃o:Obj,w.1[V]? =some o/\o.isWalk=true:=by
 obtain⟨D,lf,h,T⟩:=h;obtain⟨ha,mD,xN,Vv,gs,cC,cj,cp,cy,cO,cA⟩:=h;exact⟨_,cO,rfl⟩
def Bs(a':dp->Option N)(xs:List dp):Prop:=xs.Nodup/\∀a,a∈xs↔(a' a).isSome=true
section
variable {w u:M}{blk b q n:Nat}{a':dp->Option N}{S:Nat->Prop}
theorem aiw(h:iv w prog 39 nn b n a')(au:w.cell? (bl q 0)=some (.map (some b)))(aJZ:¬S b)(cl:∀k,S k->k<w.1.size):
  Ia prog 140 [az q] 1 (λa=>[Value.int .u16 (a:dp).val]) (Bs a') (λ_=>True) n S w:=by
 refine⟨λx=>rfl,λargs w=>by simp[go_sem],?_⟩;intro l cQ tw Y fX bJ Jg jm bi;have aO:=h.lt;have Tl:Y.cell? (bl q 0)=some (.map (some b)):=fX.cell au id;obtain⟨ai,eM,ax,aH,zZ,aY,bK⟩:=(h.ch fX id).range FG underlying135;obtain⟨V,yt⟩:=aD (Y.1.size);rw[yt]at ax aH;have VB:=fX.size;have Pm:∀{A B:M},H al A B->A.grownBy B none:=λ{A B} Z=>⟨Z.os,Z.tape,Z.output,Z.size,λk r _=>Z.block k r id⟩;have aix:∀{A B:M},H (aj V) A B->A.grownBy B (some V):=λ{A B} Z=>⟨Z.os,Z.tape,Z.output,Z.size,λk r aq=>Z.block k r λe=>aq (by simp only[aj]at e;rw[e])⟩;refine bz func140 ntmps140 λbk af=> ?_;simp[go_sem,Tl,ax];refine di (λt f u=>∃left pre,f 0=.func (.yield l) #[] #[]/\f 5=az V/\pu u prog 39 nn b V n a' left t/\cQ pre u/\pre.Nodup/\(∀a,left a=true↔((a' a).isSome=true/\a∉pre))/\(∀a∈pre,(a' a).isSome=true)/\pre.length+t<=n) eM
  ⟨_,[],by simp,by simp,aH,bJ _ _ _ none bi (Pm aY) (λV e=>by cases e),List.nodup_nil,λa=>by simp,λa ao=>by simp at ao,by simp;omega⟩ ?_
 rintro bq bW t f u ⟨left,pre,f0,f5,yu,I,kz,aiy,Qm,cu⟩;rcases yu.next FG 0 with⟨ak,pw⟩|⟨a,v,u2,el,ak,HS,pw,xf,BH,aK,_,BI⟩
 ·simp[go_sem,f5,pw];refine af _ _ (.inl ⟨pre,⟨kz,λa=>⟨Qm a,λao=> ?_⟩⟩,I⟩)
  grind
 ·obtain⟨AH,aJ0⟩:=(aiy a).1 ak;have pR:=bJ pre u u2 (some V) I (aix aK) λOU e=>by
   cases e
   exact⟨by omega,VU yu⟩
  have ar:=jm pre a u2 pR (by omega);simp[go_sem,f5,pw,BI,f0,nn];refine SX _ _ _ ar ?_;rintro _ w' (⟨rfl,kT,r⟩|⟨rfl,Ey⟩)
  ·simp[go_sem];have Np:pu w' prog 39 nn b V n a' (λc=>left c&&decide (c≠a)) el:=xf.ch r (λe=>by
    grind) (λe=>by
    rcases e with e|⟨e,aR⟩
    ·have:=cl V e;omega
    ·obtain⟨o,av,ej⟩:=VU xf
     grind)
   refine ct.intro el BH (bW _ _ _ ⟨_,pre++[a],by simp[f0],by simp[f5],Np,kT,?_,λc=> ?_,λc Z=> ?_,by simp;omega⟩)
   ·grind
   ·grind
   grind
  ·simp[go_sem];exact af _ _ (.inr ⟨_,trivial,Ey⟩)
theorem afA(b:Nat)(w:M):bc prog 81 #[.map (some b)] w λv' w'=>v'=.func (.func 140) #[] #[.pointer (some ⟨w.1.size,0,none⟩)]/\w'=w.alloc (.cells #[.map (some b)] 135):=by
 refine bz func81 ntmps81 λbk af=> ?_;simp[go_sem];exact af _ _ ⟨rfl,rfl⟩
theorem bV:sd prog 30 39 (.int .u16 0) 2:=⟨underlying30,by kernel_rfl,rfl⟩
theorem aiz{B:Nat}{Y bG:M}{e s n:Nat}{v:N}{xs:List N}(h:Y.ownsRow 0 e s v n xs)(ax:lK B Y bG):bG.ownsRow 0 e s v n xs:=by
 refine⟨h.1,h.2.imp id ?_⟩;rintro⟨g,cap,dF,J,T,ag,aP⟩;exact⟨g,cap,dF,J,T,ax.blk ag,aP⟩
theorem Js{Y:M}{e s n:Nat}{v:N}{xs:List N}(h:Y.ownsRow 0 e s v n xs):∀k,v.ownBlock=some k->∀o,Y.1[k]? =some o->o.isCells=true:=by
 rcases h.2 with⟨rfl,_⟩|⟨g,cap,dF,rfl,_,ab,_⟩
 ·intro k r;simp[Value.ownBlock]at r
 ·intro k r o av;simp[Value.ownBlock]at r;subst r;rw[ab]at av
  cases av
  rfl
def jh(xs:List dp):List N:=xs.map nn
theorem aiA{gf:FuncId}{lb:List N}{Fn Pt:List dp->Prop}{n:Nat}(w:M)(aq:n<=100000)
  (rH:∀g ai,H al w ai->w.1.size<=g->g<ai.1.size->Ia prog gf lb 1 (λa=>[Value.int .u16 (a:dp).val]) Fn Pt n (aj g) ai):
  bc prog 192 #[.slice none 0 0,.func (.func gf) #[] lb.toArray] w λv' w'=>∃xs,Fn xs/\w'.ownsRow 0 39 1 v' xs.length (jh xs)/\H al w w'/\gr w.1.size v':=by
 refine bz func192 ntmps192 λbk af=> ?_;have dD:=cr w (.cells #[.slice none 0 0] 30);have aU:=(H.refl al w).alloc (.cells #[.slice none 0 0] 30);simp[go_sem];obtain⟨g,aH⟩:=aD (w.1.size);rw[aH]at dD⊢;generalize w.alloc (.cells #[.slice none 0 0] 30)=ai at*;have jj:=lt_of_block dD;refine as9 (rH g ai aU (by omega) jj) (H.refl _ _) rfl rfl (by kernel_rfl) (λk r=>by cases r;exact jj)
  (λpre Y=>∃v,Y.1[g]? =some (.cells #[v] 30 (0,0))/\Y.ownsRow 0 39 1 v pre.length (jh pre)/\gr ai.1.size v/\H al w Y/\ai.1.size<=Y.1.size) (λc pre Y=>False) (λx f' _=>f' 2=az g/\f' 5=.int .u16 x.val) ?_ ?_ ?_ ?_ ?_ ?_ ?_ ?_
 ·rintro pre Y bG ⟨v,J,T,ag,aP,bH⟩ ax;exact⟨v,ax.blk J,aiz T ax,ag,ax.xN aP aU.size,dK bH ax.ch.size⟩
 ·exact λ_ _ _ _ h _=>h
 ·exact λ_ _ _ _ h _=>h
 ·exact⟨_,dD,⟨by simp[jh],.inl ⟨rfl,rfl⟩⟩,λk r=>by simp[Value.ownBlock]at r,aU,c_ _⟩
 ·rintro pre x Y bW;simp[go_sem];exact⟨H.refl _ _,bW⟩
 ·rintro pre x f' Y ⟨v,J,T,ag,aP,bH⟩ ⟨Fu,Sa⟩ cu;have eY:=λi=>aG J i;have kP:=λi=>dJ J i;have sC:∀u∈jh [x],u.oneCell'=true:=by simp[jh,nn,Value.oneCell']
  have Rm:=Js T;have EW:v.ownBlock≠some g:=λe=>by have:=ag g e;omega
  obtain⟨A,m,c,aM⟩:∃A m c,v=.slice A m c:=by
   rcases T.2 with⟨e,_⟩|⟨nE,cap,dF,e,_⟩
   ·exact⟨_,_,_,e⟩
   ·exact⟨_,_,_,e⟩
  rw[aM]at J T ag eY Rm EW;simp[go_sem,Fu,Sa,eY];refine HP bV T rfl (by unfold maxLen;omega) (by omega) λv' w' bn bh bA=> ?_;have bt:=bh.obj J (λe=>EW e);have Hg:=λi=>aG bt i;have aiB:=λi=>dJ bt i;obtain⟨gM,m',dA,QQ⟩:∃A m c,v'=.slice A m c:=by
   rcases bn.2 with⟨e,_⟩|⟨nE,cap,dF,e,_⟩
   ·exact⟨_,_,_,e⟩
   ·exact⟨_,_,_,e⟩
  have kc:gr ai.1.size v':=by
   rcases bA with e|e
   ·intro k r;rw[e]at r;exact ag k r
   ·exact e.mono bH
  rw[QQ]at bn bA kc⊢;simp[go_sem,Fu,Hg,aiB];have cs:H (aj g) w' (w'.setCell ⟨g,0,none⟩ (.slice gM m' dA)):=(H.refl (aj g) w').setCell (p:=bl g 0) (.inl rfl) _;have dn:∀k,(Value.slice gM m' dA).ownBlock=some k->¬aj g k:=λk r e=>by
   simp only[aj]at e;have:=kc k r;omega
  refine⟨(bh.mono λj I e=>.inr ⟨ag j e,Rm j e⟩).bZ cs λj I e=>.inl e,_,by rw[bt,fU];rfl,?_,kc,(aP.bZ bh λj I e=>by have:=ag j e;omega).bZ cs λj I e=>by simp only[aj]at e;omega,?_⟩
  ·have:=gu bn cs dn;simpa[jh,nn]using this
  ·have:=bh.size;have:=cs.size;omega
 ·rintro D xs Y dX eF ⟨v,J,T,ag,aP,bH⟩ bm;have eY:=λi=>aG J i;obtain⟨A,m,c,aM⟩:∃A m c,v=.slice A m c:=by
   rcases T.2 with⟨e,_⟩|⟨nE,cap,dF,e,_⟩
   ·exact⟨_,_,_,e⟩
   ·exact⟨_,_,_,e⟩
  have aJ1:D≠g:=by omega
  rw[aM]at J T ag eY;simp[go_sem,eY,Ez,bm];refine af _ _ ⟨xs,eF,?_,aP.putObj (.inr (by omega)) _,ag.mono (by omega)⟩;have Z:H (aj D) Y (Y.putObj D (.deferred none)):=(H.refl (aj D) Y).putObj (.inl rfl) _;refine gu T Z λk r e=> ?_;simp only[aj]at e;subst e;have:=Js T k r _ bm
  cases this
 ·exact λ_ _ _ _ _ _ h=>h.elim
theorem aiC{gf:FuncId}{lb:List N}{Fn Pt:List dp->Prop}{n:Nat}(w:M)(aq:n<=100000)
  (rH:∀g ai,H al w ai->w.1.size<=g->g<ai.1.size->Ia prog gf lb 1 (λa=>[Value.int .u16 (a:dp).val]) Fn Pt n (aj g) ai):
  bc prog 138 #[.func (.func gf) #[] lb.toArray] w λv' w'=>∃xs,Fn xs/\w'.ownsRow 0 39 1 v' xs.length (jh xs)/\H al w w'/\gr w.1.size v':=by
 refine bz func138 ntmps138 λbk af=> ?_;simp[go_sem];refine(aiA w aq rH).mono ?_;rintro v ai ⟨xs,J,T,ag,aP⟩;simp[go_sem];exact af _ _ ⟨xs,J,T,ag,aP⟩
theorem afB(w:M)(h:iv w prog 39 nn b n a')(aq:n<=100000)(JO:∀xs,Bs a' xs->xs.length<=255)(ai:M)(dx:H al w ai)(au:ai.cell? (bl q 0)=some (.map (some b))):
  bc prog 80 #[.func (.func 140) #[] #[az q]] ai λv' w'=>∃xs,Bs a' xs/\xs.Pairwise (λa b=>a<b)/\bC w' v' xs.length (jh xs)/\H al ai w'/\gr ai.1.size v':=by
 refine bz func80 ntmps80 λbk af=> ?_;have ab:=(h.ch dx id).lt;simp[go_sem];have aiD:=aiC (gf:=140) (lb:=[az q]) (Fn:=Bs a') (Pt:=λ_=>True) ai aq λg an Z aH jj=>
  aiw ((h.ch dx id).ch Z id) (Z.cell au id) (λe=>by simp only[aj]at e;omega) (λk r=>by simp only[aj]at r;omega)
 refine aiD.mono ?_;rintro v an ⟨xs,fW,fG,aK,kc⟩;have cu:=JO xs fW;simp[go_sem];by_cases bi:0<xs.length
 ·obtain⟨g,cap,dF,aM,dm,_⟩:=RQ fG bi;subst aM;have KN:dM nn an g xs.toArray:=dM.fF (cap:=cap) (n:=xs.length) fG (by simp[jh]) (by simp);have aA:=Rl KN cap (by simpa using cu);simp only[XD]at aA;refine aA.mono ?_;rintro _ aJ ⟨dr,ag,fg,cl,aI⟩;simp[go_sem];have cU:dr.size=xs.length:=by rw[fg.1];simp
  have Dk:dr.toList.Perm xs:=by
   have:=fg.2.2;have aL:(dr.extract 0 xs.length).toList=dr.toList:=by rw[<-cU];simp
   have aR:(xs.toArray.extract 0 xs.length).toList=xs:=by simp
   rw[aL,aR]at this;exact this
  have kz:dr.toList.Nodup:=Dk.nodup_iff.2 fW.1;have aJ2:ai.1.size<=g:=kc g rfl;refine af _ _ ⟨dr.toList,⟨kz,λa=>by rw[Dk.mem_iff];exact fW.2 a⟩,?_,?_,aK.bZ aI λj I e=>by simp only[aj]at e;omega,kc⟩
  ·rw[OP];intro i j ad I iT;have Hp:i<dr.size:=by simpa using ad
   have kT:j<dr.size:=by simpa using I
   have J:=cl i j (gG _) iT (by omega);have aL:dr[i]! =dr.toList[i]:=by simp[Hp]
   have aR:dr[j]! =dr.toList[j]:=by simp[kT]
   rw[aL,aR]at J;have dn:dr.toList[i]≠dr.toList[j]:=OP.1 kz i j ad I iT;simp only[lt,SS.lt,Sj]at J
   grind
  ·obtain⟨aJ3,bv,fm,p'⟩:=ag;have Bv:xs.length<=cap/\cap<=maxLen:=by
    rcases fG.2 with⟨e,_⟩|⟨nE,aio,aJ4,e,_,_,J,T,_⟩
    ·cases e
    ·omega
   have aO:dr.toList.length=xs.length:=by simpa using cU
   rw[aO];refine⟨_,cap,rfl,Bv.1,Bv.2,λ_=>⟨_,rfl,λj u ap=> ?_⟩⟩;unfold jh at ap;rw[oo]at ap
   cases bm:dr.toList[j]? with
   |none=>rw[bm]at ap;cases ap
   |some a=>
    rw[bm]at ap
    cases ap
    have I:j<dr.size:=by
     have:=(jG.1 bm).1;simpa using this
    have:=p' j I;rw[Ge,xB,aG fm,this]
    grind
 ·obtain rfl:xs=[]:=wh (by omega);rcases fG.2 with⟨aM,_⟩|⟨g,cap,dF,aM,_,dm,_⟩
  ·subst aM;refine(VT an none 0).mono ?_;intro _ aJ aI;simp[go_sem];exact af _ _ ⟨[],fW,IJ,bC.nil _,aK.trans aI,λk r=>by simp[Value.ownBlock]at r⟩
  ·subst aM;refine(VT an (some ⟨g,0,none⟩) cap).mono ?_;intro _ aJ aI;simp[go_sem];exact af _ _ ⟨[],fW,IJ,(bC.fF fG).ch aI λ_ _ e=>e,aK.trans aI,kc⟩
end
end Go.Proofs.YtoohkhcpboldjaaGreatDoor.S16
namespace Go.Proofs.YtoohkhcpboldjaaGreatDoor.S32
open Go.RowKit Go.Kin Go.Maps Go.Sort Tryz
abbrev dR:=SS.dR
abbrev lt:gn->gn->Bool:=SS.lt (bb:=false)
theorem HU(n:Nat)(aq:n<=255)(w:M):bc prog 194 #[.int .u64 n] w λv' w'=>v'=aa (bitsLen n)/\w'=w:=SS.HU n aq w
theorem Rl{w:M}{blk:Nat}{d:Array gn}(h:dM uz w blk d)(cap:Nat)(cU:d.size<=255):
  bc prog 216 #[dR blk d.size cap] w λ_ w'=>∃dr,dM uz w' blk dr/\PermIn 0 d.size d dr/\SortedIn lt 0 d.size dr/\H (aj blk) w w':=SS.Rl (bb:=false) h cap cU
theorem aiv(w:M)(A:Option Addr)(cap:Nat):bc prog 271 #[.slice A 0 cap,aa 0,aa 0] w λ_ w'=>H al w w':=by
 refine bz func271 ntmps271 λbk af=> ?_;have dx:IntKind.i64.wrap 1=1:=rfl;simp[go_sem,dx];refine di (λV f u=>V=0/\f 6=aa 1/\f 2=aa 0/\u=w) 0 ⟨rfl,by simp,by simp,rfl⟩ ?_;rintro cQ bJ V f u ⟨rfl,f6,bg,rfl⟩;simp[go_sem,f6,bg];exact af _ _ (H.refl _ _)
theorem VT(w:M)(A:Option Addr)(cap:Nat):bc prog 216 #[.slice A 0 cap] w λ_ w'=>H al w w':=by
 refine bz func216 ntmps216 λbk af=> ?_;have ak:bc prog 194 #[.int .u64 0] w λv' w'=>v'=aa 0/\w'=w:=HU 0 (by omega) w;simp[go_sem];refine ak.mono ?_;rintro _ ai ⟨rfl,bM⟩;subst ai;simp[go_sem];have am:bc prog 246 #[.slice A 0 cap,aa 0,aa 0,aa 0] w λ_ w'=>H al w w':=by
  refine bz func246 ntmps246 λbk af=> ?_;simp[go_sem];refine di (λV f u=>V=0/\f 0=.slice A 0 cap/\f 1=aa 0/\f 2=aa 0/\u=w) 0 ⟨rfl,by simp,by simp,by simp,rfl⟩ ?_;rintro cQ bJ V f u ⟨rfl,f0,aW,bg,rfl⟩;have sm:IntKind.i64.wrap 0=0:=rfl;simp[go_sem,f0,aW,bg,sm];refine(aiv u A cap).mono ?_;intro _ an aK;simp[go_sem];exact af _ _ aK
 refine am.mono ?_;intro _ an aK;simp[go_sem];exact af _ _ aK
theorem VU{P:Program}{k:TypeId}{jF:Type}{ez:jF->N}{w:M}{b V n eM:Nat}{a':jF->Option N}{left:jF->Bool}(h:pu w P k ez b V n a' left eM):∃o:Obj,w.1[V]? =some o/\o.isWalk=true:=by
 obtain⟨D,lf,h,T⟩:=h;obtain⟨ha,mD,xN,Vv,gs,cC,cj,cp,cy,cO,cA⟩:=h;exact⟨_,cO,rfl⟩
def Bs(a':gn->Option N)(xs:List gn):Prop:=xs.Nodup/\∀a,a∈xs↔(a' a).isSome=true
section
variable {w u:M}{blk b q n:Nat}{a':gn->Option N}{S:Nat->Prop}
theorem aiw(h:iv w prog 40 uz b n a')(au:w.cell? (bl q 0)=some (.map (some b)))(aJZ:¬S b)(cl:∀k,S k->k<w.1.size):
  Ia prog 217 [az q] 1 (λa=>[Value.int .u32 (a:gn).val]) (Bs a') (λ_=>True) n S w:=by
 refine⟨λx=>rfl,λargs w=>by simp[go_sem],?_⟩;intro l cQ tw Y fX bJ Jg jm bi;have aO:=h.lt;have Tl:Y.cell? (bl q 0)=some (.map (some b)):=fX.cell au id;obtain⟨ai,eM,ax,aH,zZ,aY,bK⟩:=(h.ch fX id).range PW underlying316;obtain⟨V,yt⟩:=aD (Y.1.size);rw[yt]at ax aH;have VB:=fX.size;have Pm:∀{A B:M},H al A B->A.grownBy B none:=λ{A B} Z=>⟨Z.os,Z.tape,Z.output,Z.size,λk r _=>Z.block k r id⟩;have aix:∀{A B:M},H (aj V) A B->A.grownBy B (some V):=λ{A B} Z=>⟨Z.os,Z.tape,Z.output,Z.size,λk r aq=>Z.block k r λe=>aq (by simp only[aj]at e;rw[e])⟩;refine bz func217 ntmps217 λbk af=> ?_;simp[go_sem,Tl,ax];refine di (λt f u=>∃left pre,f 0=.func (.yield l) #[] #[]/\f 5=az V/\pu u prog 40 uz b V n a' left t/\cQ pre u/\pre.Nodup/\(∀a,left a=true↔((a' a).isSome=true/\a∉pre))/\(∀a∈pre,(a' a).isSome=true)/\pre.length+t<=n) eM
  ⟨_,[],by simp,by simp,aH,bJ _ _ _ none bi (Pm aY) (λV e=>by cases e),List.nodup_nil,λa=>by simp,λa ao=>by simp at ao,by simp;omega⟩ ?_
 rintro bq bW t f u ⟨left,pre,f0,f5,yu,I,kz,aiy,Qm,cu⟩;rcases yu.next PW 0 with⟨ak,pw⟩|⟨a,v,u2,el,ak,HS,pw,xf,BH,aK,_,BI⟩
 ·simp[go_sem,f5,pw];refine af _ _ (.inl ⟨pre,⟨kz,λa=>⟨Qm a,λao=> ?_⟩⟩,I⟩)
  grind
 ·obtain⟨AH,aJ0⟩:=(aiy a).1 ak;have pR:=bJ pre u u2 (some V) I (aix aK) λOU e=>by
   cases e
   exact⟨by omega,VU yu⟩
  have ar:=jm pre a u2 pR (by omega);simp[go_sem,f5,pw,BI,f0,uz];refine SX _ _ _ ar ?_;rintro _ w' (⟨rfl,kT,r⟩|⟨rfl,Ey⟩)
  ·simp[go_sem];have Np:pu w' prog 40 uz b V n a' (λc=>left c&&decide (c≠a)) el:=xf.ch r (λe=>by
    grind) (λe=>by
    rcases e with e|⟨e,aR⟩
    ·have:=cl V e;omega
    ·obtain⟨o,av,ej⟩:=VU xf
     grind)
   refine ct.intro el BH (bW _ _ _ ⟨_,pre++[a],by simp[f0],by simp[f5],Np,kT,?_,λc=> ?_,λc Z=> ?_,by simp;omega⟩)
   ·grind
   ·grind
   grind
  ·simp[go_sem];exact af _ _ (.inr ⟨_,trivial,Ey⟩)
theorem afA(b:Nat)(w:M):bc prog 179 #[.map (some b)] w λv' w'=>v'=.func (.func 217) #[] #[.pointer (some ⟨w.1.size,0,none⟩)]/\w'=w.alloc (.cells #[.map (some b)] 316):=by
 refine bz func179 ntmps179 λbk af=> ?_;simp[go_sem];exact af _ _ ⟨rfl,rfl⟩
theorem bV:sd prog 194 40 (.int .u32 0) 4:=⟨underlying194,by kernel_rfl,rfl⟩
theorem aiz{B:Nat}{Y bG:M}{e s n:Nat}{v:N}{xs:List N}(h:Y.ownsRow 0 e s v n xs)(ax:lK B Y bG):bG.ownsRow 0 e s v n xs:=by
 refine⟨h.1,h.2.imp id ?_⟩;rintro⟨g,cap,dF,J,T,ag,aP⟩;exact⟨g,cap,dF,J,T,ax.blk ag,aP⟩
theorem Js{Y:M}{e s n:Nat}{v:N}{xs:List N}(h:Y.ownsRow 0 e s v n xs):∀k,v.ownBlock=some k->∀o,Y.1[k]? =some o->o.isCells=true:=by
 rcases h.2 with⟨rfl,_⟩|⟨g,cap,dF,rfl,_,ab,_⟩
 ·intro k r;simp[Value.ownBlock]at r
 ·intro k r o av;simp[Value.ownBlock]at r;subst r;rw[ab]at av
  cases av
  rfl
def jh(xs:List gn):List N:=xs.map uz
theorem aiA{gf:FuncId}{lb:List N}{Fn Pt:List gn->Prop}{n:Nat}(w:M)(aq:n<=100000)
  (rH:∀g ai,H al w ai->w.1.size<=g->g<ai.1.size->Ia prog gf lb 1 (λa=>[Value.int .u32 (a:gn).val]) Fn Pt n (aj g) ai):
  bc prog 245 #[.slice none 0 0,.func (.func gf) #[] lb.toArray] w λv' w'=>∃xs,Fn xs/\w'.ownsRow 0 40 1 v' xs.length (jh xs)/\H al w w'/\gr w.1.size v':=by
 refine bz func245 ntmps245 λbk af=> ?_;have dD:=cr w (.cells #[.slice none 0 0] 194);have aU:=(H.refl al w).alloc (.cells #[.slice none 0 0] 194);simp[go_sem];obtain⟨g,aH⟩:=aD (w.1.size);rw[aH]at dD⊢;generalize w.alloc (.cells #[.slice none 0 0] 194)=ai at*;have jj:=lt_of_block dD;refine as9 (rH g ai aU (by omega) jj) (H.refl _ _) rfl rfl (by kernel_rfl) (λk r=>by cases r;exact jj)
  (λpre Y=>∃v,Y.1[g]? =some (.cells #[v] 194 (0,0))/\Y.ownsRow 0 40 1 v pre.length (jh pre)/\gr ai.1.size v/\H al w Y/\ai.1.size<=Y.1.size) (λc pre Y=>False) (λx f' _=>f' 2=az g/\f' 5=.int .u32 x.val) ?_ ?_ ?_ ?_ ?_ ?_ ?_ ?_
 ·rintro pre Y bG ⟨v,J,T,ag,aP,bH⟩ ax;exact⟨v,ax.blk J,aiz T ax,ag,ax.xN aP aU.size,dK bH ax.ch.size⟩
 ·exact λ_ _ _ _ h _=>h
 ·exact λ_ _ _ _ h _=>h
 ·exact⟨_,dD,⟨by simp[jh],.inl ⟨rfl,rfl⟩⟩,λk r=>by simp[Value.ownBlock]at r,aU,c_ _⟩
 ·rintro pre x Y bW;simp[go_sem];exact⟨H.refl _ _,bW⟩
 ·rintro pre x f' Y ⟨v,J,T,ag,aP,bH⟩ ⟨Fu,Sa⟩ cu;have eY:=λi=>aG J i;have kP:=λi=>dJ J i;have sC:∀u∈jh [x],u.oneCell'=true:=by simp[jh,uz,Value.oneCell']
  have Rm:=Js T;have EW:v.ownBlock≠some g:=λe=>by have:=ag g e;omega
  obtain⟨A,m,c,aM⟩:∃A m c,v=.slice A m c:=by
   rcases T.2 with⟨e,_⟩|⟨nE,cap,dF,e,_⟩
   ·exact⟨_,_,_,e⟩
   ·exact⟨_,_,_,e⟩
  rw[aM]at J T ag eY Rm EW;simp[go_sem,Fu,Sa,eY];refine HP bV T rfl (by unfold maxLen;omega) (by omega) λv' w' bn bh bA=> ?_;have bt:=bh.obj J (λe=>EW e);have Hg:=λi=>aG bt i;have aiB:=λi=>dJ bt i;obtain⟨gM,m',dA,QQ⟩:∃A m c,v'=.slice A m c:=by
   rcases bn.2 with⟨e,_⟩|⟨nE,cap,dF,e,_⟩
   ·exact⟨_,_,_,e⟩
   ·exact⟨_,_,_,e⟩
  have kc:gr ai.1.size v':=by
   rcases bA with e|e
   ·intro k r;rw[e]at r;exact ag k r
   ·exact e.mono bH
  rw[QQ]at bn bA kc⊢;simp[go_sem,Fu,Hg,aiB];have cs:H (aj g) w' (w'.setCell ⟨g,0,none⟩ (.slice gM m' dA)):=(H.refl (aj g) w').setCell (p:=bl g 0) (.inl rfl) _;have dn:∀k,(Value.slice gM m' dA).ownBlock=some k->¬aj g k:=λk r e=>by
   simp only[aj]at e;have:=kc k r;omega
  refine⟨(bh.mono λj I e=>.inr ⟨ag j e,Rm j e⟩).bZ cs λj I e=>.inl e,_,by rw[bt,fU];rfl,?_,kc,(aP.bZ bh λj I e=>by have:=ag j e;omega).bZ cs λj I e=>by simp only[aj]at e;omega,?_⟩
  ·have:=gu bn cs dn;simpa[jh,uz]using this
  ·have:=bh.size;have:=cs.size;omega
 ·rintro D xs Y dX eF ⟨v,J,T,ag,aP,bH⟩ bm;have eY:=λi=>aG J i;obtain⟨A,m,c,aM⟩:∃A m c,v=.slice A m c:=by
   rcases T.2 with⟨e,_⟩|⟨nE,cap,dF,e,_⟩
   ·exact⟨_,_,_,e⟩
   ·exact⟨_,_,_,e⟩
  have aJ1:D≠g:=by omega
  rw[aM]at J T ag eY;simp[go_sem,eY,Ez,bm];refine af _ _ ⟨xs,eF,?_,aP.putObj (.inr (by omega)) _,ag.mono (by omega)⟩;have Z:H (aj D) Y (Y.putObj D (.deferred none)):=(H.refl (aj D) Y).putObj (.inl rfl) _;refine gu T Z λk r e=> ?_;simp only[aj]at e;subst e;have:=Js T k r _ bm
  cases this
 ·exact λ_ _ _ _ _ _ h=>h.elim
theorem aiC{gf:FuncId}{lb:List N}{Fn Pt:List gn->Prop}{n:Nat}(w:M)(aq:n<=100000)
  (rH:∀g ai,H al w ai->w.1.size<=g->g<ai.1.size->Ia prog gf lb 1 (λa=>[Value.int .u32 (a:gn).val]) Fn Pt n (aj g) ai):
  bc prog 215 #[.func (.func gf) #[] lb.toArray] w λv' w'=>∃xs,Fn xs/\w'.ownsRow 0 40 1 v' xs.length (jh xs)/\H al w w'/\gr w.1.size v':=by
 refine bz func215 ntmps215 λbk af=> ?_;simp[go_sem];refine(aiA w aq rH).mono ?_;rintro v ai ⟨xs,J,T,ag,aP⟩;simp[go_sem];exact af _ _ ⟨xs,J,T,ag,aP⟩
theorem afB(w:M)(h:iv w prog 40 uz b n a')(aq:n<=100000)(JO:∀xs,Bs a' xs->xs.length<=255)(ai:M)(dx:H al w ai)(au:ai.cell? (bl q 0)=some (.map (some b))):
  bc prog 178 #[.func (.func 217) #[] #[az q]] ai λv' w'=>∃xs,Bs a' xs/\xs.Pairwise (λa b=>a<b)/\bC w' v' xs.length (jh xs)/\H al ai w'/\gr ai.1.size v':=by
 refine bz func178 ntmps178 λbk af=> ?_;have ab:=(h.ch dx id).lt;simp[go_sem];have aiD:=aiC (gf:=217) (lb:=[az q]) (Fn:=Bs a') (Pt:=λ_=>True) ai aq λg an Z aH jj=>
  aiw ((h.ch dx id).ch Z id) (Z.cell au id) (λe=>by simp only[aj]at e;omega) (λk r=>by simp only[aj]at r;omega)
 refine aiD.mono ?_;rintro v an ⟨xs,fW,fG,aK,kc⟩;have cu:=JO xs fW;simp[go_sem];by_cases bi:0<xs.length
 ·obtain⟨g,cap,dF,aM,dm,_⟩:=RQ fG bi;subst aM;have KN:dM uz an g xs.toArray:=dM.fF (cap:=cap) (n:=xs.length) fG (by simp[jh]) (by simp);have aA:=Rl KN cap (by simpa using cu);simp only[XD]at aA;refine aA.mono ?_;rintro _ aJ ⟨dr,ag,fg,cl,aI⟩;simp[go_sem];have cU:dr.size=xs.length:=by rw[fg.1];simp
  have Dk:dr.toList.Perm xs:=by
   have:=fg.2.2;have aL:(dr.extract 0 xs.length).toList=dr.toList:=by rw[<-cU];simp
   have aR:(xs.toArray.extract 0 xs.length).toList=xs:=by simp
   rw[aL,aR]at this;exact this
  have kz:dr.toList.Nodup:=Dk.nodup_iff.2 fW.1;have aJ2:ai.1.size<=g:=kc g rfl;refine af _ _ ⟨dr.toList,⟨kz,λa=>by rw[Dk.mem_iff];exact fW.2 a⟩,?_,?_,aK.bZ aI λj I e=>by simp only[aj]at e;omega,kc⟩
  ·rw[OP];intro i j ad I iT;have Hp:i<dr.size:=by simpa using ad
   have kT:j<dr.size:=by simpa using I
   have J:=cl i j (gG _) iT (by omega);have aL:dr[i]! =dr.toList[i]:=by simp[Hp]
   have aR:dr[j]! =dr.toList[j]:=by simp[kT]
   rw[aL,aR]at J;have dn:dr.toList[i]≠dr.toList[j]:=OP.1 kz i j ad I iT;simp only[lt,SS.lt,Sj]at J
   grind
  ·obtain⟨aJ3,bv,fm,p'⟩:=ag;have Bv:xs.length<=cap/\cap<=maxLen:=by
    rcases fG.2 with⟨e,_⟩|⟨nE,aio,aJ4,e,_,_,J,T,_⟩
    ·cases e
    ·omega
   have aO:dr.toList.length=xs.length:=by simpa using cU
   rw[aO];refine⟨_,cap,rfl,Bv.1,Bv.2,λ_=>⟨_,rfl,λj u ap=> ?_⟩⟩;unfold jh at ap;rw[oo]at ap
   cases bm:dr.toList[j]? with
   |none=>rw[bm]at ap;cases ap
   |some a=>
    rw[bm]at ap
    cases ap
    have I:j<dr.size:=by
     have:=(jG.1 bm).1;simpa using this
    have:=p' j I;rw[Ge,xB,aG fm,this]
    grind
 ·obtain rfl:xs=[]:=wh (by omega);rcases fG.2 with⟨aM,_⟩|⟨g,cap,dF,aM,_,dm,_⟩
  ·subst aM;refine(VT an none 0).mono ?_;intro _ aJ aI;simp[go_sem];exact af _ _ ⟨[],fW,IJ,bC.nil _,aK.trans aI,λk r=>by simp[Value.ownBlock]at r⟩
  ·subst aM;refine(VT an (some ⟨g,0,none⟩) cap).mono ?_;intro _ aJ aI;simp[go_sem];exact af _ _ ⟨[],fW,IJ,(bC.fF fG).ch aI λ_ _ e=>e,aK.trans aI,kc⟩
end
end Go.Proofs.YtoohkhcpboldjaaGreatDoor.S32
