/- Overlays' maps: entries deleted, and copied, in ranges. No condition but on sizes. -/
import Derived.Maps.RangeWalk
import Derived.Maps.OwnSet
import Derived.Maps.Views
import Derived.Test.YtoohkhcpboldjaaGreatDoorBsl
import Derived.DeepKeys4
set_option maxRecDepth 100000
set_option linter.unusedSimpArgs false
set_option linter.unusedVariables false
namespace Go.Kin
open Go Go.RowKit
section
variable(P:Program)(cc:Operand->Value)(w:World)(K:Value->World->Prop)(d:Option Tmp)(bO:TypeId)(pos:String)(eC:Array Edge)(g:Option (Nat×Bool))
@[simp] theorem aIG(t:TypeId)(x:Operand):dG P cc ⟨d,.range t x,bO,pos,eC,g⟩ w K=fN ((Instr.range t (cc x)).run P w) K:=nt rfl
@[simp] theorem aIH(x:Operand)(s:Bool):dG P cc ⟨d,.next x s,bO,pos,eC,g⟩ w K=fN ((Instr.next (cc x) s bO).run P w) K:=nt rfl
@[simp] theorem aII(x:Operand):dG P cc ⟨d,.entry x,bO,pos,eC,g⟩ w K=fN ((Instr.entry (cc x)).run P w) K:=nt rfl
def GP(P:Program)(recv:Value)(name:String)(args:List Value)(w:World)(K:Value->World->Prop):Prop:=
 match(callMethod recv name args.toArray:Sem Go.Next).run P w with
 |.ok (.value v) w'=>K v w'
 |.ok .skip w'=>K undef w'
 |.ok (.enter g args) w'=>aP P g args w' K
 |.ok (.round l g tmps x y) w'=>FP P l g tmps x y w' K
 |_=>False
@[simp] theorem aIJ(x:Operand)(name:String)(l:List Operand)(fJ:Array TypeId):dG P cc ⟨d,.call ⟨.invoke x name,l.toArray,fJ⟩,bO,pos,eC,g⟩ w K=GP P (cc x) name (l.map cc) w K:=by
 unfold dG GP;simp[execOp,resolve,invoke];rw[List.take_of_length_le (by simp)];exact Iff.rfl
theorem Si{recv:Value}{name:String}{args:List Value}{f:FuncId}{ajM:Array Value}{P:Program}{w:World}{K:Value->World->Prop}(h:(callMethod recv name args.toArray).run P w=.ok (.enter f ajM) w):GP P recv name args w K=aP P f ajM w K:=by
 unfold GP;rw[h]
end
end Go.Kin
namespace Go.Kin
abbrev cX:=List UInt8
end Go.Kin
namespace Go.Proofs.YtoohkhcpboldjaaGreatDoor
open Go.RowKit Go.Kin
theorem app(n:Nat)(w:World)(av:n<=1000000):(Instr.makeSlice 101 (.int .i64 n) (.int .i64 n)).run Tryz.prog w=.ok (.slice (some ⟨w.1.size,0,none⟩) n n) (w.alloc (.cells (bm (List.replicate n 0)).toArray 5)):=by
 have H:(Tryz.prog.info? 5).isSome=true:=by kernel_rfl
 obtain⟨i,aa⟩:=Option.isSome_iff_exists.1 H;have I:(Tryz.prog.info? 5).map (·.size)=some 1:=by kernel_rfl
 have af:(Tryz.prog.info? 5).map (·.bytes)=some 1:=by kernel_rfl
 have aU:(Tryz.prog.info? 5).bind (·.zero)=some (.int .u8 0):=by kernel_rfl
 rw[aa]at I af aU;simp at I af aU;have:=run_makeSlice (P:=Tryz.prog) w 101 5 i _ Tryz.underlying101 aa aU .i64 .i64 n n (by omega) (Int.le_refl _) (by rw[I];omega) (by rw[af];omega) (by omega);rw[this,I];have e:madeCells (Value.int .u8 0).cells (n*1)=(bm (List.replicate n 0)).toArray:=by
  apply Array.ext';apply List.ext_getElem?;intro i;simp[madeCells,bm,ca,Value.cells];by_cases h:i<n
  ·simp[h,Nat.mod_one]
  ·simp[h]
 grind
theorem apr(w:World):(zeroValue 101).run Tryz.prog w=.ok (.slice none 0 0) w:=by
 rfl
theorem Xl(w:World):(zeroValue 4).run Tryz.prog w=.ok (.bool false) w:=by
 rfl
theorem oJ{w:World}{e s n:Nat}{v:Value}{xs:List Value}(h:w.ownsRow 0 e s v n xs):∀k,v.ownBlock=some k->k<w.1.size:=λk r=>by
 rcases h.2 with⟨aS,_⟩|⟨g,cap,di,aS,_,aF,_⟩
 ·rw[aS]at r;simp[Value.ownBlock]at r
 ·rw[aS]at r;simp[Value.ownBlock]at r
  grind
theorem avq{ab:World}{v W:Value}{B:Nat}(bU:fZ B v)(h:W.ownBlock=v.ownBlock\/fZ ab.1.size W)(aw:B<=ab.1.size):fZ B W:=by
 rcases h with h|h
 ·intro k r;exact bU k (by rw[<-h];exact r)
 ·exact h.mono aw
end Go.Proofs.YtoohkhcpboldjaaGreatDoor
namespace Go.Kin
open Go Go.RowKit
def cV:cX:=List.replicate 512 0
theorem aeJ:cV.length=512:=List.length_replicate
structure ek where
 off:Bool
 dq:Int
def ek.on:ek:=⟨false, -1⟩
def ek.step(p:ek):ek:=if p.off then p else if p.dq=0 then⟨true, -1⟩else if 0<p.dq then⟨false,p.dq - 1⟩else p
def ek.bI(p:ek):Bool:= !p.off&&decide (p.dq≠0)
structure bR where
 m:Nat->Option cX
 bB:List (Nat×cX)
 dT:Nat->Bool
 stuck:Nat->Bool
 bS:Bool
 tY:Bool
 fv:Option Nat
def bR.fh:bR:=⟨λ_=>none,[],λ_=>false,λ_=>false,false,false,none⟩
def oL:List (Nat×cX)->Nat->Option cX
 |[],_=>none
 |(a,b)::l,x=>match oL l x with
  |some c=>some c
  |none=>if a=x then some b else none
theorem RN{l:List (Nat×cX)}{x:Nat}(h:∀e∈l,e.1≠x):oL l x=none:=by
 induction l with
 |nil=>rfl
 |cons e l bG=>
  obtain⟨c,d⟩:=e;have H:c≠x:=h (c,d) (by simp);rw[oL,bG λe aV=>h e (by simp[aV])];simp[H]
theorem ayO{l:List (Nat×cX)}{x:Nat}{b:cX}(h:oL l x=some b):(x,b)∈l:=by
 induction l with
 |nil=>simp[oL]at h
 |cons e l bG=>
  obtain⟨c,d⟩:=e;rw[oL]at h
  grind
theorem ap1{l:List (Nat×cX)}{x k:Nat}{b:cX}(h:l[k]? =some (x,b))(V:∀j e,k<j->l[j]? =some e->e.1≠x):oL l x=some b:=by
 induction l generalizing k with
 |nil=>simp at h
 |cons e l bG=>
  obtain⟨c,d⟩:=e;rw[oL]
  cases k with
  |zero=>
   simp at h;obtain⟨rfl,rfl⟩:=h;rw[RN λe aV=>by
    obtain⟨j,F⟩:=List.mem_iff_getElem?.1 aV;exact V (j+1) e (by omega) (by simpa using F)]
   simp
  |succ k=>
   rw[bG (k:=k) (by simpa using h) λj e F aV=>V (j+1) e (by omega) (by simpa using aV)]
def jJ(m:Nat->Option cX)(a:Nat):cX:=(m a).getD cV
def bR.Jz(d:bR)(a:Nat):Option cX:=match oL d.bB a with
 |some b=>some b
 |none=>if d.dT a then none else some (jJ d.m a)
def bR.m_(n:Nat)(d:bR)(a:Nat):Option cX:=if d.bS||decide (n<=a)||d.stuck a then none else d.Jz a
def bR.ob(d:bR)(e:Nat×cX)(k:Nat):bR:={d with m:=λx=>if x=e.1 then some (e.2.take k++(jJ d.m e.1).drop k)else d.m x,dT:=λx=>if x=e.1 then false else d.dT x}
def bR.fk(d:bR)(p:ek):Bool:= !d.bS&& !p.off
inductive ajN where
 |bS|arg|ok
 deriving DecidableEq
def bR.lG(n:Nat)(d:bR)(p:ek)(a:Nat)(b:cX):ajN:=if !d.fk p then .bS else if n<=a\/b.length≠512 then .arg else if p.bI then .ok else .bS
def bR.qP(n:Nat)(d:bR)(p:ek)(a:Nat)(b:cX):ek:=if !d.fk p then p else if n<=a\/b.length≠512 then p else p.step
def bR.put(n:Nat)(d:bR)(a:Nat)(b:cX):bR:=if d.tY then{d with tY:=false}else
 let ih:=d.fv.getD a
 if ih<n then{d with fv:=none,bB:=d.bB++[(ih,b)]}else{d with fv:=none}
def bR.ha(n:Nat)(d:bR)(p:ek)(a:Nat)(b:cX):bR:=if d.lG n p a b=.ok then d.put n a b else d
def bR.d_(d:bR):bR:={d.bB.foldl (λd e=>d.ob e 512) d with bB:=[]}
structure bR.nB(n:Nat)(d:bR):Prop where
 m:∀a b,d.m a=some b->b.length=512
 bB:∀e∈d.bB,e.2.length=512/\e.1<n
section
variable{n:Nat}{d:bR}
theorem bR.nB.fh(n:Nat):bR.fh.nB n:=⟨by simp[bR.fh],by simp[bR.fh]⟩
theorem bR.nB.block(h:d.nB n)(a:Nat):(jJ d.m a).length=512:=by
 unfold jJ
 cases aH:d.m a with
 |none=>exact aeJ
 |some b=>exact h.m a b aH
theorem bR.nB.ob(h:d.nB n){e:Nat×cX}(aV:e.2.length=512)(k:Nat)(r:k<=512):(d.ob e k).nB n:=by
 refine⟨λa b V=> ?_,h.bB⟩;unfold bR.ob at V;simp only at V;split at V
 ·simp at V;subst V;have:=h.block e.1;simp;omega
 ·exact h.m a b V
end
open Go.Maps
open Go.WideElems (Fit rd rg pl rd_key rd_val rg_of)
def BV(v:Value):Option (DataW Value×List MemPlace):=some (.held v,[])
def DF(L:DataW Value)(l:Lit):Option Value:=match L.atKey l .nil with
 |.held v=>some v
 |_=>none
section
variable{P:Program}{w w':World}{k t e:TypeId}{b n:Nat}{L:DataW Value}
theorem aa7(h:w.ownsMap P k BV b n L)(l:Lit):(Maps.has L l=false/\DF L l=none/\∀zd,L.atKey l zd=zd)\/∃v,Maps.has L l=true/\DF L l=some v/\∀zd,L.atKey l zd=.held v:=by
 obtain⟨gC,ly,V,aR,aw,rfl⟩:=h;unfold DF;simp only[Maps.has_eq,DataW.atKey]
 cases bU:((gC.toList.map (rg P k BV)).foldr DataW.insert []).find? (λp=>p.1.sameKey l)with
 |none=>
  grind
 |some p=>
  have aH:=mem_sorted.1 (List.mem_of_find?_eq_some bU);obtain⟨x,M,rfl⟩:=List.mem_map.1 aH;obtain⟨y,ar⟩:=aR.reads x M;obtain⟨z,hz,bi⟩:=rd_val ar;have aK:(rg P k BV x).2=.held x.val:=by
   rw[rg_of ar,bi];unfold BV at hz
   cases hz
   rfl
  grind
end
structure tz(P:Program)(k:TypeId){jy:Type}(eL:jy->Value):Prop where
 If:Keyed P k
 hI:∀a,∃l,keyOf P k (eL a)=some l
 ayP:∀v l,keyOf P k v=some l->∃a,v=eL a
 inj:∀a b,eL a=eL b->a=b
def qf(P:Program)(k:TypeId)(v:Value):Lit:=(keyOf P k v).getD (.bool false)
section
variable{P:Program}{k:TypeId}{jy:Type}{eL:jy->Value}
theorem tz.at(K:tz P k eL)(a:jy):keyOf P k (eL a)=some (qf P k (eL a)):=by
 obtain⟨l,al⟩:=K.hI a;unfold qf;rw[al];rfl
theorem tz.ne(K:tz P k eL){a c:jy}(h:a≠c):qf P k (eL a)≠qf P k (eL c):=λe=>h (K.inj _ _ (K.If.inj (K.at a) (by rw[e];exact K.at c)))
theorem tz.lit(K:tz P k eL)(a:jy):WideAt.IsKeyLit (qf P k (eL a)):=K.If.key (K.at a)
def ic(w:World)(P:Program)(k:TypeId)(eL:jy->Value)(b n:Nat)(aR:jy->Option Value):Prop:=∃L,w.ownsMap P k BV b n L/\∀a,DF L (qf P k (eL a))=aR a
def rI(w:World)(P:Program)(k:TypeId)(eL:jy->Value)(b J n:Nat)(aR:jy->Option Value)(left:jy->Bool)(eN:Nat):Prop:=∃L lf,w.ranges P k BV b J n L lf eN/\(∀a,DF L (qf P k (eL a))=aR a)/\∀a,lf (qf P k (eL a))=left a
variable{w w':World}{t e:TypeId}{b J n eN:Nat}{aR:jy->Option Value}{left:jy->Bool}
theorem ic.lt(h:ic w P k eL b n aR):b<w.1.size:=by
 obtain⟨L,h,_⟩:=h;exact h.lt
theorem ic.mono(h:ic w P k eL b n aR){m:Nat}(aH:n<=m):ic w P k eL b m aR:=by
 obtain⟨L,h,I⟩:=h;exact⟨L,h.mono aH,I⟩
theorem ic.ch{S:Nat->Prop}(h:ic w P k eL b n aR)(T:D S w w')(av:¬S b):ic w' P k eL b n aR:=by
 obtain⟨L,h,I⟩:=h;have al:=h.lt;obtain⟨gC,ly,V,cA⟩:=h;exact⟨L,⟨gC,ly,T.obj V av,cA⟩,I⟩
theorem ic.bI(w:World)(P:Program)(k:TypeId)(eL:jy->Value):ic (w.alloc (.map #[] 0)) P k eL w.1.size 0 (λ_=>none):=⟨_,World.ownsMap_made w P k BV,λa=>rfl⟩
theorem ic.look_ok(h:ic w P k eL b n aR)(K:tz P k eL)(bd:P.underlying t=some (.map k e)){z:Value}(hz:(zeroValue e).run P w=.ok z w)(a:jy):
  (Instr.lookup t (.map (some b)) (eL a) true).run P w=.ok (.tuple #[(aR a).getD z,.bool (aR a).isSome]) w:=by
 obtain⟨L,h,I⟩:=h;obtain⟨v,ps,ap,aS⟩:=h.look_ok K.If bd hz (zd:=.held z) (zp:=[]) rfl (K.at a);rw[<-I a,ap];unfold BV at aS;rcases aa7 h (qf P k (eL a))with⟨af,aU,bC⟩|⟨x,af,aU,bC⟩
 ·grind
 grind
theorem ic.m_(h:ic w P k eL b n aR)(K:tz P k eL)(bd:P.underlying t=some (.map k e)){z:Value}(hz:(zeroValue e).run P w=.ok z w)(a:jy):
  (Instr.lookup t (.map (some b)) (eL a) false).run P w=.ok ((aR a).getD z) w:=by
 obtain⟨L,h,I⟩:=h;obtain⟨v,ps,ap,aS⟩:=h.lookup K.If bd hz (zd:=.held z) (zp:=[]) rfl (K.at a);rw[<-I a,ap];unfold BV at aS;rcases aa7 h (qf P k (eL a))with⟨af,aU,bC⟩|⟨x,af,aU,bC⟩
 ·grind
 grind
theorem ayQ[DecidableEq jy]{L:DataW Value}(K:tz P k eL)(dS:Maps.IsMap L)(a c:jy)(v:Value):DF (L.put (qf P k (eL a)) (.held v)) (qf P k (eL c))=if c=a then some v else DF L (qf P k (eL c)):=by
 unfold DF;by_cases T:c=a
 ·subst T;rw[Maps.atKey_put_same dS (K.lit c),if_pos rfl]
 ·rw[Maps.atKey_put_other (K.ne T),if_neg T]
theorem D.ayR{w w':World}{fc:Option Nat}(h:w.grownBy w' fc){b:Nat}(V:∀j,fc=some j->j=b):D (aj b) w w':=(D.vQ h).mono λk _ e=>V k e
theorem D.ayS{w w':World}{b:Nat}(h:w.mapTurned w' b):D (aj b) w w'/\w'.1.size=w.1.size:=by
 obtain⟨gC,ly,aIK,aIL,V,rfl⟩:=h;refine⟨⟨rfl,rfl,rfl,by simp[ChangeMaps.setBlock],λj _ F=> ?_⟩,by simp[ChangeMaps.setBlock]⟩;have:b≠j:=λe=>F e.symm;simp only[ChangeMaps.setBlock,Array.getElem?_setIfInBounds_ne this]
theorem ic.put[DecidableEq jy](h:ic w P k eL b n aR)(K:tz P k eL)(bd:P.underlying t=some (.map k e))(av:n<maxLen)(a:jy)(v:Value):
  ∃w',(Instr.mapUpdate t (.map (some b)) (eL a) v).run P w=.ok () w'/\ic w' P k eL b (n+1) (λx=>if x=a then some v else aR x)/\D (aj b) w w'/\w'.1.size=w.1.size:=by
 obtain⟨L,h,I⟩:=h;obtain⟨w',af,aU,bC⟩:=h.store K.If bd av (d:=.held v) (ps:=[]) (K.at a) rfl;obtain⟨cG,eD⟩:=D.ayS bC;exact⟨w',af,⟨_,aU,λc=>by rw[ayQ K h.isMap,I c]⟩,cG,eD⟩
theorem ic.range(h:ic w P k eL b n aR)(K:tz P k eL)(bd:P.underlying t=some (.map k e)):
  ∃w' eN,(Instr.range t (.map (some b))).run P w=.ok (.pointer (some ⟨w.1.size,0,none⟩)) w'/\rI w' P k eL b w.1.size n aR (λa=>(aR a).isSome) eN/\eN<=n/\D ak w w'/\w'.1.size=w.1.size+1:=by
 obtain⟨L,h,I⟩:=h;obtain⟨w',af,aU,bC,cG⟩:=h.range K.If bd;refine⟨w',_,af,⟨L,_,aU,I,λa=> ?_⟩,h.size_le,(D.vQ bC).mono (λk _ e=>by cases e),cG⟩;show Maps.has L (qf P k (eL a))=(aR a).isSome;rw[<-I a];rcases aa7 h (qf P k (eL a))with⟨af,aU,_⟩|⟨x,af,aU,_⟩<;>rw[af,aU]<;>rfl
theorem rI.lt(h:rI w P k eL b J n aR left eN):J<w.1.size:=by
 obtain⟨L,lf,h,_⟩:=h;exact h.lt
theorem rI.ch{S:Nat->Prop}(h:rI w P k eL b J n aR left eN)(T:D S w w')(V:¬S b)(ap:¬S J):rI w' P k eL b J n aR left eN:=by
 obtain⟨L,lf,h,I⟩:=h;obtain⟨gC,ly,tS,aa8,fG,cB,cb,cj,dw,cu,cM⟩:=h;exact⟨L,lf,⟨gC,ly,tS,aa8,fG,T.obj cB V,cb,cj,dw,T.obj cu ap,cM⟩,I⟩
theorem ayT[DecidableEq jy](K:tz P k eL)(lf:Lit->Bool)(a c:jy):(lf (qf P k (eL c))&& !(qf P k (eL c)).sameKey (qf P k (eL a)))=(lf (qf P k (eL c))&&decide (c≠a)):=by
 by_cases T:c=a
 ·subst T;rw[WideAt.sameKey_self (K.lit c)];simp
 ·rw[Maps.sameKey_ne (K.ne T)];simp[T]
theorem rI.next[DecidableEq jy](h:rI w P k eL b J n aR left eN)(K:tz P k eL)(bO:TypeId):
  ((∀a,left a=false)/\(Instr.next (.pointer (some ⟨J,0,none⟩)) false bO).run P w=.ok (.tuple #[.bool false]) w)\/
  ∃a v w' Ut,left a=true/\aR a=some v/\(Instr.next (.pointer (some ⟨J,0,none⟩)) false bO).run P w=.ok (.tuple #[.bool true,eL a,v]) w'/\rI w' P k eL b J n aR (λc=>left c&&decide (c≠a)) Ut/\Ut<eN/\D (aj J) w w'/\w'.1.size=w.1.size/\
   (Instr.entry (.pointer (some ⟨J,0,none⟩))).run P w'=.ok (.tuple #[eL a,v]) w':=by
 obtain⟨L,lf,h,I,af⟩:=h;rcases h.next K.If bO with⟨_,cb,cj⟩|⟨key,v,Uu,y,w',Ut,cB,cb,cj,dw,cu,cM,kY,pi,EH,MT⟩
 ·grind
 ·obtain⟨a,rfl⟩:=K.ayP key Uu cB;have aK:Uu=qf P k (eL a):=Option.some.inj (cB.symm.trans (K.at a));subst aK;unfold BV at cj
  cases cj
  refine .inr ⟨a,v,w',Ut,by rw[<-af a];exact cb,?_,cu,⟨L,_,cM,I,λc=> ?_⟩,kY,D.ayR pi λj e=>(Option.some.inj e).symm,EH,MT⟩
  ·rw[<-I a];unfold DF;rw[dw]
  ·rw[ayT K,af c]
end
end Go.Kin
namespace Go.Proofs.YtoohkhcpboldjaaGreatDoor
open Go.RowKit Go.Kin Go.Maps
abbrev em:=Fin 65536
abbrev gP:=Fin 4294967296
def mQ(a:em):Value:=.int .u16 a.val
def se(a:gP):Value:=.int .u32 a.val
theorem ajO(a:em):(Lit.int .u16 a.val).wf=true:=by
 have:=a.isLt;simp[Lit.wf,IntKind.min,IntKind.max,IntKind.signed,IntKind.bits];omega
theorem ajP(a:gP):(Lit.int .u32 a.val).wf=true:=by
 have:=a.isLt;simp[Lit.wf,IntKind.min,IntKind.max,IntKind.signed,IntKind.bits];omega
theorem ajQ{x:Int}(h:(Lit.int .u16 x).wf=true):∃a:em,x=a.val:=by
 simp[Lit.wf,IntKind.min,IntKind.max,IntKind.signed,IntKind.bits]at h;exact⟨⟨x.toNat,by omega⟩,by simp only;omega⟩
theorem ajR{x:Int}(h:(Lit.int .u32 x).wf=true):∃a:gP,x=a.val:=by
 simp[Lit.wf,IntKind.min,IntKind.max,IntKind.signed,IntKind.bits]at h;exact⟨⟨x.toNat,by omega⟩,by simp only;omega⟩
theorem DG:tz Tryz.prog 39 mQ:=by
 refine⟨int_keyed Tryz.underlying39,λa=>⟨_,keyOf_int_mk Tryz.underlying39 (ajO a)⟩,λv l h=> ?_,λa b h=> ?_⟩
 ·obtain⟨x,rfl,_,bH⟩:=keyOf_int_inv Tryz.underlying39 h;obtain⟨a,rfl⟩:=ajQ bH;exact⟨a,rfl⟩
 ·unfold mQ at h
  grind
theorem Ke:tz Tryz.prog 40 se:=by
 refine⟨int_keyed Tryz.underlying40,λa=>⟨_,keyOf_int_mk Tryz.underlying40 (ajP a)⟩,λv l h=> ?_,λa b h=> ?_⟩
 ·obtain⟨x,rfl,_,bH⟩:=keyOf_int_inv Tryz.underlying40 h;obtain⟨a,rfl⟩:=ajR bH;exact⟨a,rfl⟩
 ·unfold se at h
  grind
def tA(a:em×gP):Value:=.agg #[.int .u16 a.1.val,.int .u32 a.2.val]
theorem ayU:laidOutB Tryz.prog=true:=by kernel_rfl
theorem ajS:Tryz.prog.cellsOf 187=2:=by kernel_rfl
theorem ajT:Tryz.prog.keyType 187=true:=by kernel_rfl
theorem ajU:Tryz.prog.cellsOf 39=1:=by kernel_rfl
theorem ajV:Tryz.prog.cellsOf 40=1:=by kernel_rfl
theorem ayV:Keyed Tryz.prog 187:=Keyed.of_law (deep_law_laid ayU (m:=2) (by omega) (of_decide_eq_true (by kernel_rfl)) (by kernel_rfl) (by rw[Tryz.underlying187]))
theorem ayW(d:Nat)(a:em)(b:gP):Tryz.prog.keyLits (d+2) 187 [.int .u16 a.val,.int .u32 b.val]=some [.int .u16 a.val,.int .u32 b.val]:=by
 simp only[Program.keyLits,Tryz.underlying187];have H:=ajO a;have I:=ajP b;simp[ajS,ajU,ajV,Tryz.underlying39,Tryz.underlying40,H,I]
theorem ayX(d:Nat)(cs:List Value)(l:List Lit)(h:Tryz.prog.keyLits (d+2) 187 cs=some l):∃(a:em) (b:gP),cs=[.int .u16 a.val,.int .u32 b.val]:=by
 rw[Program.keyLits.eq_def]at h;simp only[Tryz.underlying187,ajS]at h;split at h
 ·rename_i al;simp[ajU,ajV]at h
  match cs,al.1 with
  |[x,y],_=>
   cases M:Tryz.prog.keyLits (d+1) 39 [x]with
   |none=>simp[M]at h
   |some ajW=>
    cases ar:Tryz.prog.keyLits (d+1) 40 [y]with
    |none=>simp[M,ar]at h
    |some aIM=>
     rw[Program.keyLits.eq_def]at M ar;simp only[Tryz.underlying39]at M;simp only[Tryz.underlying40]at ar
     cases x<;>simp at M
     cases y<;>simp at ar
     obtain⟨⟨rfl,rp⟩,_⟩:=M;obtain⟨⟨rfl,Nt⟩,_⟩:=ar;obtain⟨a,rfl⟩:=ajQ rp;obtain⟨b,rfl⟩:=ajR Nt;exact⟨a,b,rfl⟩
 ·cases h
theorem ayY:∃d,Tryz.prog.types.size=d+1:=by
 simp_all
theorem Uv:tz Tryz.prog 187 tA:=by
 obtain⟨d,bi⟩:=ayY;have bU:∀cs:Array Value,(Value.agg cs).formed Tryz.prog 187=(cs.size==2):=λcs=>by
  rfl
 refine⟨ayV,λa=> ?_,λv l h=> ?_,λa b h=> ?_⟩
 ·unfold keyOf;rw[Tryz.underlying187,bi,ajT];refine⟨.string (keyBytes [.int .u16 a.1.val,.int .u32 a.2.val]),?_⟩;have e:=ayW d a.1 a.2;unfold tA;rw[bU];simp only[Value.cells];rw[e];rfl
 ·unfold keyOf at h;rw[Tryz.underlying187,bi,ajT]at h;simp only[Bool.true_and]at h;split at h
  ·rename_i aaY;obtain⟨df,DH,_⟩:=Option.map_eq_some_iff.1 h;obtain⟨a,b,fE⟩:=ayX d _ _ DH;refine⟨(a,b),?_⟩
   cases v with
   |agg cs=>
    have e:cs=#[.int .u16 a.val,.int .u32 b.val]:=Array.ext' fE;rw[e];rfl
   |_=>simp[Value.formed,Tryz.underlying187]at aaY
  ·cases h
 ·unfold tA at h
  grind
structure fM where
 bk:em->Option br
 lf:em×gP->Option cX
 wiped:em->Bool
def oP(num:em)(off:gP):Bool:=decide (1<=num.val)&&decide (num.val<=255)&&decide (off.val<64)
def fM.fh:fM:=⟨λ_=>none,λ_=>none,λ_=>false⟩
structure xF where
 tB:Nat
 fF:Nat
 DI:Nat
def FQ(x:br):Value:=.agg (bk x)
structure po(w:World)(o:Nat)(base hI:Value)(n:Nat)(L:fM)(X bo:Nat->Prop)(z:xF):Prop where
 blk:w.1[o]? =some (.cells #[base,hI,.map (some z.tB),.map (some z.fF),.map (some z.DI)] 144 (0,0))
 bk:ic w Tryz.prog 39 mQ z.tB n λa=>(L.bk a).map FQ
 JT:∀a x,L.bk a=some x->gR x
 lf:∃vy,ic w Tryz.prog 187 tA z.fF n vy/\∀a,(L.lf a=none->vy a=none)/\∀b,L.lf a=some b->∃v,vy a=some v/\bD w v b.length (bm b)/\∀k,v.ownBlock=some k->bo k
 Uw:∀a b,L.lf a=some b->b.length<=512
 vz:ic w Tryz.prog 39 mQ z.DI n λa=>if L.wiped a then some (.bool true)else none
 aa9:∀a,L.wiped a=true->oP a 0=true
 x:∀k,k=o\/k=z.tB\/k=z.fF\/k=z.DI->X k
 ne:z.tB≠z.fF/\z.tB≠z.DI/\z.fF≠z.DI/\o≠z.tB/\o≠z.fF/\o≠z.DI
 sV:∀k,bo k->¬X k
 lt:∀k,X k\/bo k->k<w.1.size
section
variable{w w':World}{S:Nat->Prop}{o n:Nat}{base hI:Value}{L:fM}{X bo:Nat->Prop}{z:xF}
theorem po.ch(h:po w o base hI n L X bo z)(T:D S w w')(pU:∀k,X k->¬S k)(hu:∀k,bo k->¬S k):po w' o base hI n L X bo z:=by
 refine⟨T.obj h.blk (pU _ (h.x _ (.inl rfl))),h.bk.ch T (pU _ (h.x _ (.inr (.inl rfl)))),h.JT,?_,h.Uw,h.vz.ch T (pU _ (h.x _ (.inr (.inr (.inr rfl))))),h.aa9,h.x,h.ne,h.sV,λk r=>Nat.lt_of_lt_of_le (h.lt k r) T.size⟩;obtain⟨vy,H,I⟩:=h.lf;refine⟨vy,H.ch T (pU _ (h.x _ (.inr (.inr (.inl rfl))))),λa=>⟨(I a).1,λb V=> ?_⟩⟩;obtain⟨v,af,aU,bC⟩:=(I a).2 b V;exact⟨v,af,aU.ch T λk r=>hu k (bC k r),bC⟩
theorem ayZ(w:World):(zeroValue 113).run Tryz.prog w=.ok (.agg (Go.Proofs.YtoohkhcpboldjaaGreatDoor.bk bA)) w:=by kernel_rfl
theorem Ux(num:em)(off:gP):oP num off=(decide (1<=num.val)&&decide (num.val<=255)&&decide (off.val<64)):=rfl
theorem ay0(o:Nat)(num:em)(off:gP)(w:World):aP Tryz.prog 108 #[.pointer (some ⟨o,0,none⟩),.int .u16 num.val,.int .u32 off.val] w λW w'=>W=.int .i64 (if oP num off then 0 else 1)/\w'=w:=by
 refine bn Tryz.func108 Tryz.ntmps108 λaZ Z=> ?_;by_cases H:1<=num.val
 ·have lT:¬(num.val:Int)<1:=by omega
  by_cases I:num.val<=255
  ·have je:¬(255:Int)<num.val:=by omega
   by_cases af:off.val<64
   ·have rJ:¬(64:Int)<=off.val:=by omega
    simp[go_sem,lT,je,rJ];exact Z _ _ ⟨by rw[Ux];simp[H,I,af],rfl⟩
   ·have rJ:(64:Int)<=off.val:=by omega
    simp[go_sem,lT,je,rJ];exact Z _ _ ⟨by rw[Ux];simp[af],rfl⟩
  ·have je:(255:Int)<num.val:=by omega
   simp[go_sem,lT,je];exact Z _ _ ⟨by rw[Ux];simp[I],rfl⟩
 ·have lT:(num.val:Int)<1:=by omega
  simp[go_sem,lT];exact Z _ _ ⟨by rw[Ux];simp[H],rfl⟩
end
end Go.Proofs.YtoohkhcpboldjaaGreatDoor
