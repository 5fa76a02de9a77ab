/- Overlays' maps: entries deleted, and copied, in ranges. No condition but on sizes. -/
import Derived.Maps.RangeWalk
import Derived.Maps.OwnSet
import Derived.Maps.Views
import Derived.Test.YtoohkhcpboldjaaGreatDoorBsl
import Derived.DeepKeys4
set_option maxRecDepth 100000
set_option maxHeartbeats 2000000
set_option linter.unusedSimpArgs false
set_option linter.unusedVariables false
namespace Go.Kin
open Go Go.RowKit
section
variable (P:Program)(cw:Operand->N)(w:M)(K:N->M->Prop)(d:Option Tmp)(bV:TypeId)(pos:String)(eW:Array Edge)(g:Option (Nat×Bool))
@[simp] theorem aSl(t:TypeId)(x:Operand):ed P cw ⟨d,.range t x,bV,pos,eW,g⟩ w K=gH ((Instr.range t (cw x)).run P w) K:=oR rfl
@[simp] theorem aSm(x:Operand)(s:Bool):ed P cw ⟨d,.next x s,bV,pos,eW,g⟩ w K=gH ((Instr.next (cw x) s bV).run P w) K:=oR rfl
@[simp] theorem aSn(x:Operand):ed P cw ⟨d,.entry x,bV,pos,eW,g⟩ w K=gH ((Instr.entry (cw x)).run P w) K:=oR rfl
def Jk(P:Program)(recv:N)(name:String)(args:List N)(w:M)(K:N->M->Prop):Prop:=
 match(callMethod recv name args.toArray:Sem Go.Next).run P w with
 |.ok (.value v) w'=>K v w'
 |.ok .skip w'=>K undef w'
 |.ok (.enter g args) w'=>bc P g args w' K
 |.ok (.round l g tmps x y) w'=>KH P l g tmps x y w' K
 |_=>False
@[simp] theorem aSo(x:Operand)(name:String)(l:List Operand)(gm:Array TypeId):ed P cw ⟨d,.call ⟨.invoke x name,l.toArray,gm⟩,bV,pos,eW,g⟩ w K=Jk P (cw x) name (l.map cw) w K:=by
 unfold ed Jk;simp[execOp,resolve,invoke];rw[mP (by simp)];exact Iff.rfl
theorem TD{recv:N}{name:String}{args:List N}{f:FuncId}{arG:Array N}{P:Program}{w:M}{K:N->M->Prop}(h:(callMethod recv name args.toArray).run P w=.ok (.enter f arG) w):Jk P recv name args w K=bc P f arG w K:=by
 unfold Jk;rw[h]
end
end Go.Kin
namespace Go.Kin
abbrev cW:=List UInt8
end Go.Kin
namespace Go.Proofs.YtoohkhcpboldjaaGreatDoor
open Go.RowKit Go.Kin Tryz
theorem amj(n:Nat)(w:M)(aq:n<=1000000):(Instr.makeSlice 101 (aa n) (aa n)).run prog w=.ok (.slice (some ⟨w.1.size,0,none⟩) n n) (w.alloc (.cells (br (List.replicate n 0)).toArray 5)):=by
 have J:(prog.info? 5).isSome=true:=by kernel_rfl
 obtain⟨i,ad⟩:=IG.1 J;have T:(prog.info? 5).map (·.size)=some 1:=by kernel_rfl
 have ag:(prog.info? 5).map (·.bytes)=some 1:=by kernel_rfl
 have aP:(prog.info? 5).bind (·.zero)=some (.int .u8 0):=by kernel_rfl
 rw[ad]at T ag aP;simp at T ag aP;have:=run_makeSlice (P:=prog) w 101 5 i _ underlying101 ad aP .i64 .i64 n n (by omega) (Xq _) (by rw[T];omega) (by rw[ag];omega) (by omega);rw[this,T];have e:madeCells (Value.int .u8 0).cells (n*1)=(br (List.replicate n 0)).toArray:=by
  apply ip;apply yM;intro i;simp[madeCells,br,ce,Value.cells];by_cases h:i<n
  ·simp[h,Nat.mod_one]
  ·simp[h]
 grind
theorem amm(w:M):(zeroValue 101).run prog w=.ok (.slice none 0 0) w:=by
 rfl
theorem aej(w:M):(zeroValue 4).run prog w=.ok (.bool false) w:=by
 rfl
theorem nK{w:M}{e s n:Nat}{v:N}{xs:List N}(h:w.ownsRow 0 e s v n xs):∀k,v.ownBlock=some k->k<w.1.size:=λk r=>by
 rcases h.2 with⟨aM,_⟩|⟨g,cap,dF,aM,_,aH,_⟩
 ·rw[aM]at r;simp[Value.ownBlock]at r
 ·rw[aM]at r;simp[Value.ownBlock]at r
  grind
theorem aGR{ai:M}{v v':N}{B:Nat}(bP:gr B v)(h:v'.ownBlock=v.ownBlock\/gr ai.1.size v')(aA:B<=ai.1.size):gr B v':=by
 rcases h with h|h
 ·intro k r;exact bP k (by rw[<-h];exact r)
 ·exact h.mono aA
end Go.Proofs.YtoohkhcpboldjaaGreatDoor
namespace Go.Kin
open Go Go.RowKit
def dh:cW:=List.replicate 512 0
theorem amk:dh.length=512:=yC
structure eL where
 off:Bool
 dS:Int
def eL.on:eL:=⟨false, -1⟩
def eL.step(p:eL):eL:=if p.off then p else if p.dS=0 then⟨true, -1⟩else if 0<p.dS then⟨false,p.dS - 1⟩else p
def eL.bX(p:eL):Bool:= !p.off&&decide (p.dS≠0)
structure cb where
 m:Nat->Option cW
 bT:List (Nat×cW)
 dN:Nat->Bool
 stuck:Nat->Bool
 bY:Bool
 wE:Bool
 gl:Option Nat
def cb.dv:cb:=⟨λ_=>none,[],λ_=>false,λ_=>false,false,false,none⟩
def qo:List (Nat×cW)->Nat->Option cW
 |[],_=>none
 |(a,b)::l,x=>match qo l x with
  |some c=>some c
  |none=>if a=x then some b else none
theorem YF{l:List (Nat×cW)}{x:Nat}(h:∀e∈l,e.1≠x):qo l x=none:=by
 induction l with
 |nil=>rfl
 |cons e l bL=>
  obtain⟨c,d⟩:=e;have J:c≠x:=h (c,d) (by simp);rw[qo,bL λe aV=>h e (by simp[aV])];simp[J]
theorem aD5{l:List (Nat×cW)}{x:Nat}{b:cW}(h:qo l x=some b):(x,b)∈l:=by
 induction l with
 |nil=>simp[qo]at h
 |cons e l bL=>
  obtain⟨c,d⟩:=e;rw[qo]at h
  grind
theorem azl{l:List (Nat×cW)}{x k:Nat}{b:cW}(h:l[k]? =some (x,b))(ab:∀j e,k<j->l[j]? =some e->e.1≠x):qo l x=some b:=by
 induction l generalizing k with
 |nil=>simp at h
 |cons e l bL=>
  obtain⟨c,d⟩:=e;rw[qo]
  cases k with
  |zero=>
   simp at h;obtain⟨rfl,rfl⟩:=h;rw[YF λe aV=>by
    obtain⟨j,I⟩:=vf.1 aV;exact ab (j+1) e (by omega) (by simpa using I)]
   simp
  |succ k=>
   rw[bL (k:=k) (by simpa using h) λj e I aV=>ab (j+1) e (by omega) (by simpa using aV)]
def kC(m:Nat->Option cW)(a:Nat):cW:=(m a).getD dh
def cb.Pp(d:cb)(a:Nat):Option cW:=match qo d.bT a with
 |some b=>some b
 |none=>if d.dN a then none else some (kC d.m a)
def cb.oI(n:Nat)(d:cb)(a:Nat):Option cW:=if d.bY||decide (n<=a)||d.stuck a then none else d.Pp a
def cb.pO(d:cb)(e:Nat×cW)(k:Nat):cb:={d with m:=λx=>if x=e.1 then some (e.2.take k++(kC d.m e.1).drop k)else d.m x,dN:=λx=>if x=e.1 then false else d.dN x}
def cb.gb(d:cb)(p:eL):Bool:= !d.bY&& !p.off
inductive amz where
 |bY|arg|ok
 deriving DecidableEq
def cb.mF(n:Nat)(d:cb)(p:eL)(a:Nat)(b:cW):amz:=if !d.gb p then .bY else if n<=a\/b.length≠512 then .arg else if p.bX then .ok else .bY
def cb.sq(n:Nat)(d:cb)(p:eL)(a:Nat)(b:cW):eL:=if !d.gb p then p else if n<=a\/b.length≠512 then p else p.step
def cb.put(n:Nat)(d:cb)(a:Nat)(b:cW):cb:=if d.wE then{d with wE:=false}else
 let jv:=d.gl.getD a
 if jv<n then{d with gl:=none,bT:=d.bT++[(jv,b)]}else{d with gl:=none}
def cb.ij(n:Nat)(d:cb)(p:eL)(a:Nat)(b:cW):cb:=if d.mF n p a b=.ok then d.put n a b else d
def cb.ev(d:cb):cb:={d.bT.foldl (λd e=>d.pO e 512) d with bT:=[]}
structure cb.fL(n:Nat)(d:cb):Prop where
 m:∀a b,d.m a=some b->b.length=512
 bT:∀e∈d.bT,e.2.length=512/\e.1<n
section
variable {n:Nat}{d:cb}
theorem cb.fL.dv(n:Nat):cb.dv.fL n:=⟨by simp[cb.dv],by simp[cb.dv]⟩
theorem cb.fL.block(h:d.fL n)(a:Nat):(kC d.m a).length=512:=by
 unfold kC
 cases aC:d.m a with
 |none=>exact amk
 |some b=>exact h.m a b aC
theorem cb.fL.pO(h:d.fL n){e:Nat×cW}(aV:e.2.length=512)(k:Nat)(r:k<=512):(d.pO e k).fL n:=by
 refine⟨λa b ab=> ?_,h.bT⟩;unfold cb.pO at ab;simp only at ab;split at ab
 ·simp at ab;subst ab;have:=h.block e.1;simp;omega
 ·exact h.m a b ab
end
open Go.Maps
open Go.WideElems (Fit rd rg pl rd_key rd_val rg_of)
def FF(v:N):Option (DataW N×List MemPlace):=some (.held v,[])
def jO(D:DataW N)(l:Lit):Option N:=match D.atKey l .nil with
 |.held v=>some v
 |_=>none
section
variable {P:Program}{w w':M}{k t e:TypeId}{b n:Nat}{D:DataW N}
theorem ahH(h:w.ownsMap P k FF b n D)(l:Lit):(Maps.has D l=false/\jO D l=none/\∀zd,D.atKey l zd=zd)\/∃v,Maps.has D l=true/\jO D l=some v/\∀zd,D.atKey l zd=.held v:=by
 obtain⟨ha,mD,ab,a',aA,rfl⟩:=h;unfold jO;simp only[Maps.has_eq,DataW.atKey]
 cases bP:((ha.toList.map (rg P k FF)).foldr DataW.insert []).find? (λp=>p.1.sameKey l)with
 |none=>
  grind
 |some p=>
  have aC:=mem_sorted.1 (List.mem_of_find?_eq_some bP);obtain⟨x,W,rfl⟩:=lF.1 aC;obtain⟨y,ar⟩:=a'.reads x W;obtain⟨z,hz,bm⟩:=rd_val ar;have aL:(rg P k FF x).2=.held x.val:=by
   rw[rg_of ar,bm];unfold FF at hz
   cases hz
   rfl
  grind
end
structure tZ(P:Program)(k:TypeId){jF:Type}(ez:jF->N):Prop where
 KI:Keyed P k
 fZ:∀a,∃l,keyOf P k (ez a)=some l
 aHD:∀v l,keyOf P k v=some l->∃a,v=ez a
 inj:∀a b,ez a=ez b->a=b
def p_(P:Program)(k:TypeId)(v:N):Lit:=(keyOf P k v).getD (.bool false)
section
variable {P:Program}{k:TypeId}{jF:Type}{ez:jF->N}
theorem tZ.at(K:tZ P k ez)(a:jF):keyOf P k (ez a)=some (p_ P k (ez a)):=by
 obtain⟨l,ak⟩:=K.fZ a;unfold p_;rw[ak];rfl
theorem tZ.ne(K:tZ P k ez){a c:jF}(h:a≠c):p_ P k (ez a)≠p_ P k (ez c):=λe=>h (K.inj _ _ (K.KI.inj (K.at a) (by rw[e];exact K.at c)))
theorem tZ.lit(K:tZ P k ez)(a:jF):WideAt.IsKeyLit (p_ P k (ez a)):=K.KI.key (K.at a)
def iv(w:M)(P:Program)(k:TypeId)(ez:jF->N)(b n:Nat)(a':jF->Option N):Prop:=∃D,w.ownsMap P k FF b n D/\∀a,jO D (p_ P k (ez a))=a' a
def pu(w:M)(P:Program)(k:TypeId)(ez:jF->N)(b V n:Nat)(a':jF->Option N)(left:jF->Bool)(eM:Nat):Prop:=∃D lf,w.ranges P k FF b V n D lf eM/\(∀a,jO D (p_ P k (ez a))=a' a)/\∀a,lf (p_ P k (ez a))=left a
variable {w w':M}{t e:TypeId}{b V n eM:Nat}{a':jF->Option N}{left:jF->Bool}
theorem iv.lt(h:iv w P k ez b n a'):b<w.1.size:=by
 obtain⟨D,h,_⟩:=h;exact h.lt
theorem iv.mono(h:iv w P k ez b n a'){m:Nat}(aC:n<=m):iv w P k ez b m a':=by
 obtain⟨D,h,T⟩:=h;exact⟨D,h.mono aC,T⟩
theorem iv.ch{S:Nat->Prop}(h:iv w P k ez b n a')(Z:H S w w')(aq:¬S b):iv w' P k ez b n a':=by
 obtain⟨D,h,T⟩:=h;have ak:=h.lt;obtain⟨ha,mD,ab,cP⟩:=h;exact⟨D,⟨ha,mD,Z.obj ab aq,cP⟩,T⟩
theorem iv.bX(w:M)(P:Program)(k:TypeId)(ez:jF->N):iv (w.alloc (.map #[] 0)) P k ez w.1.size 0 (λ_=>none):=⟨_,World.ownsMap_made w P k FF,λa=>rfl⟩
theorem iv.look_ok(h:iv w P k ez b n a')(K:tZ P k ez)(bj:P.underlying t=some (.map k e)){z:N}(hz:(zeroValue e).run P w=.ok z w)(a:jF):
  (Instr.lookup t (.map (some b)) (ez a) true).run P w=.ok (.tuple #[(a' a).getD z,.bool (a' a).isSome]) w:=by
 obtain⟨D,h,T⟩:=h;obtain⟨v,ps,ax,aM⟩:=h.look_ok K.KI bj hz (zd:=.held z) (zp:=[]) rfl (K.at a);rw[<-T a,ax];unfold FF at aM;rcases ahH h (p_ P k (ez a))with⟨ag,aP,bH⟩|⟨x,ag,aP,bH⟩
 ·grind
 grind
theorem iv.oI(h:iv w P k ez b n a')(K:tZ P k ez)(bj:P.underlying t=some (.map k e)){z:N}(hz:(zeroValue e).run P w=.ok z w)(a:jF):
  (Instr.lookup t (.map (some b)) (ez a) false).run P w=.ok ((a' a).getD z) w:=by
 obtain⟨D,h,T⟩:=h;obtain⟨v,ps,ax,aM⟩:=h.lookup K.KI bj hz (zd:=.held z) (zp:=[]) rfl (K.at a);rw[<-T a,ax];unfold FF at aM;rcases ahH h (p_ P k (ez a))with⟨ag,aP,bH⟩|⟨x,ag,aP,bH⟩
 ·grind
 grind
theorem aHE[DecidableEq jF]{D:DataW N}(K:tZ P k ez)(dX:Maps.IsMap D)(a c:jF)(v:N):jO (D.put (p_ P k (ez a)) (.held v)) (p_ P k (ez c))=if c=a then some v else jO D (p_ P k (ez c)):=by
 unfold jO;by_cases Z:c=a
 ·subst Z;rw[Maps.atKey_put_same dX (K.lit c),be rfl]
 ·rw[Maps.atKey_put_other (K.ne Z),aQ Z]
theorem aHF[DecidableEq jF]{D:DataW N}(K:tZ P k ez)(a c:jF):jO (D.del (p_ P k (ez a))) (p_ P k (ez c))=if c=a then none else jO D (p_ P k (ez c)):=by
 unfold jO;by_cases Z:c=a
 ·subst Z;rw[Maps.atKey_del_same,be rfl]
 ·rw[Maps.atKey_del_other (K.ne Z),aQ Z]
theorem H.aHG{w w':M}{fS:Option Nat}(h:w.grownBy w' fS){b:Nat}(ab:∀j,fS=some j->j=b):H (aj b) w w':=(H.yQ h).mono λk _ e=>ab k e
theorem H.arH{w w':M}{b:Nat}(h:w.mapTurned w' b):H (aj b) w w'/\w'.1.size=w.1.size:=by
 obtain⟨ha,mD,aSp,aSq,ab,rfl⟩:=h;refine⟨⟨rfl,rfl,rfl,by simp[ChangeMaps.setBlock],λj _ I=> ?_⟩,by simp[ChangeMaps.setBlock]⟩;have:b≠j:=λe=>I e.symm;simp only[ChangeMaps.setBlock,XC this]
theorem iv.put[DecidableEq jF](h:iv w P k ez b n a')(K:tZ P k ez)(bj:P.underlying t=some (.map k e))(aq:n<maxLen)(a:jF)(v:N):
  ∃w',(Instr.mapUpdate t (.map (some b)) (ez a) v).run P w=.ok () w'/\iv w' P k ez b (n+1) (λx=>if x=a then some v else a' x)/\H (aj b) w w'/\w'.1.size=w.1.size:=by
 obtain⟨D,h,T⟩:=h;obtain⟨w',ag,aP,bH⟩:=h.store K.KI bj aq (d:=.held v) (ps:=[]) (K.at a) rfl;obtain⟨cS,fi⟩:=H.arH bH;exact⟨w',ag,⟨_,aP,λc=>by rw[aHE K h.isMap,T c]⟩,cS,fi⟩
theorem iv.range(h:iv w P k ez b n a')(K:tZ P k ez)(bj:P.underlying t=some (.map k e)):
  ∃w' eM,(Instr.range t (.map (some b))).run P w=.ok (.pointer (some ⟨w.1.size,0,none⟩)) w'/\pu w' P k ez b w.1.size n a' (λa=>(a' a).isSome) eM/\eM<=n/\H al w w'/\w'.1.size=w.1.size+1:=by
 obtain⟨D,h,T⟩:=h;obtain⟨w',ag,aP,bH,cS⟩:=h.range K.KI bj;refine⟨w',_,ag,⟨D,_,aP,T,λa=> ?_⟩,h.size_le,(H.yQ bH).mono (λk _ e=>by cases e),cS⟩;show Maps.has D (p_ P k (ez a))=(a' a).isSome;rw[<-T a];rcases ahH h (p_ P k (ez a))with⟨ag,aP,_⟩|⟨x,ag,aP,_⟩<;>rw[ag,aP]<;>rfl
theorem pu.map(h:pu w P k ez b V n a' left eM):iv w P k ez b n a':=by
 obtain⟨D,lf,h,T,_⟩:=h;exact⟨D,h.owns,T⟩
theorem pu.lt(h:pu w P k ez b V n a' left eM):V<w.1.size:=by
 obtain⟨D,lf,h,_⟩:=h;exact h.lt
theorem pu.ch{S:Nat->Prop}(h:pu w P k ez b V n a' left eM)(Z:H S w w')(ab:¬S b)(ax:¬S V):pu w' P k ez b V n a' left eM:=by
 obtain⟨D,lf,h,T⟩:=h;obtain⟨ha,mD,xN,Vv,gs,cC,cj,cp,cy,cO,cA⟩:=h;exact⟨D,lf,⟨ha,mD,xN,Vv,gs,Z.obj cC ab,cj,cp,cy,Z.obj cO ax,cA⟩,T⟩
theorem arI[DecidableEq jF](K:tZ P k ez)(lf:Lit->Bool)(a c:jF):(lf (p_ P k (ez c))&& !(p_ P k (ez c)).sameKey (p_ P k (ez a)))=(lf (p_ P k (ez c))&&decide (c≠a)):=by
 by_cases Z:c=a
 ·subst Z;rw[WideAt.sameKey_self (K.lit c)];simp
 ·rw[Maps.sameKey_ne (K.ne Z)];simp[Z]
theorem pu.next[DecidableEq jF](h:pu w P k ez b V n a' left eM)(K:tZ P k ez)(bV:TypeId):
  ((∀a,left a=false)/\(Instr.next (az V) false bV).run P w=.ok (.tuple #[.bool false]) w)\/
  ∃a v w' HR,left a=true/\a' a=some v/\(Instr.next (az V) false bV).run P w=.ok (.tuple #[.bool true,ez a,v]) w'/\pu w' P k ez b V n a' (λc=>left c&&decide (c≠a)) HR/\HR<eM/\H (aj V) w w'/\w'.1.size=w.1.size/\
   (Instr.entry (az V)).run P w'=.ok (.tuple #[ez a,v]) w':=by
 obtain⟨D,lf,h,T,ag⟩:=h;rcases h.next K.KI bV with⟨_,cj,cp⟩|⟨key,v,aaW,y,w',HR,cC,cj,cp,cy,cO,cA,jp,eG,Jv,CH⟩
 ·grind
 ·obtain⟨a,rfl⟩:=K.aHD key aaW cC;have aL:aaW=p_ P k (ez a):=sb (cC.symm.trans (K.at a));subst aL;unfold FF at cp
  cases cp
  refine .inr ⟨a,v,w',HR,by rw[<-ag a];exact cj,?_,cO,⟨D,_,cA,T,λc=> ?_⟩,jp,H.aHG eG λj e=>(sb e).symm,Jv,CH⟩
  ·rw[<-T a];unfold jO;rw[cy]
  ·rw[arI K,ag c]
theorem pu.del[DecidableEq jF](h:pu w P k ez b V n a' left eM)(K:tZ P k ez)(bj:P.underlying t=some (.map k e))(a:jF)(bV:TypeId):
  ∃w' HR,(Builtin.delete_ #[t,k] bV #[.map (some b),ez a]).run P w=.ok (.tuple #[]) w'/\pu w' P k ez b V n (λc=>if c=a then none else a' c) (λc=>left c&&decide (c≠a)) HR/\HR<=eM/\H (aj b) w w'/\w'.1.size=w.1.size:=by
 obtain⟨D,lf,h,T,ag⟩:=h;obtain⟨w',HR,cC,cj,cp,cy⟩:=h.drop K.KI bj (K.at a) bV;obtain⟨cO,cA⟩:=H.arH cy;exact⟨w',HR,cC,⟨_,_,cj,λc=>by rw[aHF K,T c],λc=>by rw[arI K,ag c]⟩,cp,cO,cA⟩
end
end Go.Kin
namespace Go.Proofs.YtoohkhcpboldjaaGreatDoor
open Go.RowKit Go.Kin Go.Maps Tryz
abbrev dp:=Fin 65536
abbrev gn:=Fin 4294967296
def nn(a:dp):N:=.int .u16 a.val
def uz(a:gn):N:=.int .u32 a.val
theorem arJ(a:dp):(Lit.int .u16 a.val).wf=true:=by
 have:=a.isLt;simp[Lit.wf,IntKind.min,IntKind.max,IntKind.signed,IntKind.bits];omega
theorem arK(a:gn):(Lit.int .u32 a.val).wf=true:=by
 have:=a.isLt;simp[Lit.wf,IntKind.min,IntKind.max,IntKind.signed,IntKind.bits];omega
theorem arL{x:Int}(h:(Lit.int .u16 x).wf=true):∃a:dp,x=a.val:=by
 simp[Lit.wf,IntKind.min,IntKind.max,IntKind.signed,IntKind.bits]at h;exact⟨⟨x.toNat,by omega⟩,by simp only;omega⟩
theorem arM{x:Int}(h:(Lit.int .u32 x).wf=true):∃a:gn,x=a.val:=by
 simp[Lit.wf,IntKind.min,IntKind.max,IntKind.signed,IntKind.bits]at h;exact⟨⟨x.toNat,by omega⟩,by simp only;omega⟩
theorem FG:tZ prog 39 nn:=by
 refine⟨int_keyed underlying39,λa=>⟨_,keyOf_int_mk underlying39 (arJ a)⟩,λv l h=> ?_,λa b h=> ?_⟩
 ·obtain⟨x,rfl,_,bM⟩:=keyOf_int_inv underlying39 h;obtain⟨a,rfl⟩:=arL bM;exact⟨a,rfl⟩
 ·unfold nn at h
  grind
theorem PW:tZ prog 40 uz:=by
 refine⟨int_keyed underlying40,λa=>⟨_,keyOf_int_mk underlying40 (arK a)⟩,λv l h=> ?_,λa b h=> ?_⟩
 ·obtain⟨x,rfl,_,bM⟩:=keyOf_int_inv underlying40 h;obtain⟨a,rfl⟩:=arM bM;exact⟨a,rfl⟩
 ·unfold uz at h
  grind
def pg(a:dp×gn):N:=.agg #[.int .u16 a.1.val,.int .u32 a.2.val]
theorem aHH:laidOutB prog=true:=by kernel_rfl
theorem arN:prog.cellsOf 187=2:=by kernel_rfl
theorem arO:prog.keyType 187=true:=by kernel_rfl
theorem arP:prog.cellsOf 39=1:=by kernel_rfl
theorem arQ:prog.cellsOf 40=1:=by kernel_rfl
theorem aHI:Keyed prog 187:=Keyed.of_law (deep_law_laid aHH (m:=2) (by omega) (Xp (by kernel_rfl)) (by kernel_rfl) (by rw[underlying187]))
theorem aHJ(d:Nat)(a:dp)(b:gn):prog.keyLits (d+2) 187 [.int .u16 a.val,.int .u32 b.val]=some [.int .u16 a.val,.int .u32 b.val]:=by
 simp only[Program.keyLits,underlying187];have J:=arJ a;have T:=arK b;simp[arN,arP,arQ,underlying39,underlying40,J,T]
theorem aHK(d:Nat)(cs:List N)(l:List Lit)(h:prog.keyLits (d+2) 187 cs=some l):∃(a:dp) (b:gn),cs=[.int .u16 a.val,.int .u32 b.val]:=by
 rw[Program.keyLits.eq_def]at h;simp only[underlying187,arN]at h;split at h
 ·rename_i ak;simp[arP,arQ]at h
  match cs,ak.1 with
  |[x,y],_=>
   cases W:prog.keyLits (d+1) 39 [x]with
   |none=>simp[W]at h
   |some arR=>
    cases ar:prog.keyLits (d+1) 40 [y]with
    |none=>simp[W,ar]at h
    |some aSr=>
     rw[Program.keyLits.eq_def]at W ar;simp only[underlying39]at W;simp only[underlying40]at ar
     cases x<;>simp at W
     cases y<;>simp at ar
     obtain⟨⟨rfl,tE⟩,_⟩:=W;obtain⟨⟨rfl,TQ⟩,_⟩:=ar;obtain⟨a,rfl⟩:=arL tE;obtain⟨b,rfl⟩:=arM TQ;exact⟨a,b,rfl⟩
 ·cases h
theorem aHL:∃d,prog.types.size=d+1:=by
 simp_all
theorem KJ:tZ prog 187 pg:=by
 obtain⟨d,bm⟩:=aHL;have bP:∀cs:Array N,(Value.agg cs).formed prog 187=(cs.size==2):=λcs=>by
  rfl
 refine⟨aHI,λa=> ?_,λv l h=> ?_,λa b h=> ?_⟩
 ·unfold keyOf;rw[underlying187,bm,arO];refine⟨.string (keyBytes [.int .u16 a.1.val,.int .u32 a.2.val]),?_⟩;have e:=aHJ d a.1 a.2;unfold pg;rw[bP];simp only[Value.cells];rw[e];rfl
 ·unfold keyOf at h;rw[underlying187,bm,arO]at h;simp only[Gf]at h;split at h
  ·rename_i aHM;obtain⟨dP,GS,_⟩:=Si.1 h;obtain⟨a,b,gE⟩:=aHK d _ _ GS;refine⟨(a,b),?_⟩
   cases v with
   |agg cs=>
    have e:cs=#[.int .u16 a.val,.int .u32 b.val]:=ip gE;rw[e];rfl
   |_=>simp[Value.formed,underlying187]at aHM
  ·cases h
 ·unfold pg at h
  grind
structure cV where
 aZ:dp->Option bF
 lf:dp×gn->Option cW
 wiped:dp->Bool
def hY(num:dp)(off:gn):Bool:=decide (1<=num.val)&&decide (num.val<=255)&&decide (off.val<64)
def cV.dv:cV:=⟨λ_=>none,λ_=>none,λ_=>false⟩
structure zE where
 vU:Nat
 eC:Nat
 xe:Nat
def KK(x:bF):N:=.agg (aZ x)
structure jg(w:M)(o:Nat)(base fZ:N)(n:Nat)(D:cV)(X bw:Nat->Prop)(z:zE):Prop where
 blk:w.1[o]? =some (.cells #[base,fZ,.map (some z.vU),.map (some z.eC),.map (some z.xe)] 144 (0,0))
 aZ:iv w prog 39 nn z.vU n λa=>(D.aZ a).map KK
 Hc:∀a x,D.aZ a=some x->fu x
 lf:∃oh,iv w prog 187 pg z.eC n oh/\∀a,(D.lf a=none->oh a=none)/\∀b,D.lf a=some b->∃v,oh a=some v/\bC w v b.length (br b)/\∀k,v.ownBlock=some k->bw k
 KL:∀a b,D.lf a=some b->b.length<=512
 uT:iv w prog 39 nn z.xe n λa=>if D.wiped a then some (.bool true)else none
 QT:∀a,D.wiped a=true->hY a 0=true
 x:∀k,k=o\/k=z.vU\/k=z.eC\/k=z.xe->X k
 ne:z.vU≠z.eC/\z.vU≠z.xe/\z.eC≠z.xe/\o≠z.vU/\o≠z.eC/\o≠z.xe
 pM:∀k,bw k->¬X k
 lt:∀k,X k\/bw k->k<w.1.size
section
variable {w w':M}{S:Nat->Prop}{o n:Nat}{base fZ:N}{D:cV}{X bw:Nat->Prop}{z:zE}
theorem jg.ch(h:jg w o base fZ n D X bw z)(Z:H S w w')(qp:∀k,X k->¬S k)(jm:∀k,bw k->¬S k):jg w' o base fZ n D X bw z:=by
 refine⟨Z.obj h.blk (qp _ (h.x _ (.inl rfl))),h.aZ.ch Z (qp _ (h.x _ (.inr (.inl rfl)))),h.Hc,?_,h.KL,h.uT.ch Z (qp _ (h.x _ (.inr (.inr (.inr rfl))))),h.QT,h.x,h.ne,h.pM,λk r=>gQ (h.lt k r) Z.size⟩;obtain⟨oh,J,T⟩:=h.lf;refine⟨oh,J.ch Z (qp _ (h.x _ (.inr (.inr (.inl rfl))))),λa=>⟨(T a).1,λb ab=> ?_⟩⟩;obtain⟨v,ag,aP,bH⟩:=(T a).2 b ab;exact⟨v,ag,aP.ch Z λk r=>jm k (bH k r),bH⟩
theorem aHN(w:M):(zeroValue 113).run prog w=.ok (.agg (Go.Proofs.YtoohkhcpboldjaaGreatDoor.aZ bp)) w:=by kernel_rfl
theorem aaX(num:dp)(off:gn):hY num off=(decide (1<=num.val)&&decide (num.val<=255)&&decide (off.val<64)):=rfl
theorem ahI(o:Nat)(num:dp)(off:gn)(w:M):bc prog 108 #[az o,.int .u16 num.val,.int .u32 off.val] w λv' w'=>v'=aa (if hY num off then 0 else 1)/\w'=w:=by
 refine bz func108 ntmps108 λbk af=> ?_;by_cases J:1<=num.val
 ·have mi:¬(num.val:Int)<1:=by omega
  by_cases T:num.val<=255
  ·have k':¬(255:Int)<num.val:=by omega
   by_cases ag:off.val<64
   ·have t_:¬(64:Int)<=off.val:=by omega
    simp[go_sem,mi,k',t_];exact af _ _ ⟨by rw[aaX];simp[J,T,ag],rfl⟩
   ·have t_:(64:Int)<=off.val:=by omega
    simp[go_sem,mi,k',t_];exact af _ _ ⟨by rw[aaX];simp[ag],rfl⟩
  ·have k':(255:Int)<num.val:=by omega
   simp[go_sem,mi,k'];exact af _ _ ⟨by rw[aaX];simp[T],rfl⟩
 ·have mi:(num.val:Int)<1:=by omega
  simp[go_sem,mi];exact af _ _ ⟨by rw[aaX];simp[J],rfl⟩
end
theorem aec{P:Program}{w w':M}{gm:Array TypeId}{bV:TypeId}{args:Array N}{v:N}{K:N->M->Prop}(h:(Builtin.delete_ gm bV args).run P w=.ok v w')(r:K v w'):pN P .delete gm bV args w K:=by
 unfold pN gH;simp only[h];exact r
theorem aHO(a:dp×gn)(v:N)(q:Nat)(num:dp)(w:M)(au:w.cell? (bl q 0)=some (.int .u16 num.val)):
  bc prog 112 #[pg a,v,az q] w λv' w'=>v'=.bool (decide (a.1=num))/\H al w w':=by
 refine bz func112 ntmps112 λbk af=> ?_;have aU:=(H.refl al w).alloc (.cells #[.int .u16 a.1.val,.int .u32 a.2.val] 187);have kO:=aU.cell au id;by_cases h:a.1=num
 ·subst h;simp[go_sem,pg,kO];exact af _ _ ⟨by simp,aU⟩
 ·have dn:¬(a.1.val:Int)=num.val:=λe=>h (Gg (by omega));have KM:((a.1.val:Int)==(num.val:Int))=false:=hv dn;simp[go_sem,pg,kO,dn,KM];exact af _ _ ⟨by rw[vi h],aU⟩
theorem aHP(eC q n:Nat)(num:dp)(a':dp×gn->Option N)(w:M)(h:iv w prog 187 pg eC n a')(au:w.cell? (bl q 0)=some (.int .u16 num.val))(dn:q≠eC):
  bc prog 111 #[.map (some eC),.func (.func 112) #[] #[az q]] w λv' w'=>v'=.tuple #[]/\iv w' prog 187 pg eC n (λa=>if a.1=num then none else a' a)/\H (aj eC) w w':=by
 refine bz func111 ntmps111 λbk af=> ?_;have iQ:=h.lt;obtain⟨ai,eM,ax,aH,_,aY,bK⟩:=h.range KJ underlying142;have oC:∀(x:List N) (w:M),(callFunc 112 x.toArray).run prog w=.ok (.enter 112 x.toArray) w:=λx w=>by simp[go_sem]
 obtain⟨V,yt⟩:=aD (w.1.size);rw[yt]at ax aH;simp[go_sem,ax];refine di (λt f u=>∃left G,f 0=.map (some eC)/\f 1=.func (.func 112) #[] #[az q]/\f 7=az V/\pu u prog 187 pg eC V n G left t/\(∀a,G a=if a.1=num/\left a=false then none else a' a)/\H (aj eC) w u) eM
  ⟨_,a',by simp,by simp,by simp,aH,λa=> ?_,aY.mono λ_ _ e=>e.elim⟩ ?_
 ·simp_all
 rintro cQ bJ t f u ⟨left,G,f0,aW,bQ,yu,fD,aS⟩;have KN:w.1.size<=V:=by omega
 rcases yu.next KJ 0 with⟨ak,pw⟩|⟨a,v,u2,el,ak,HS,pw,xf,BH,aK,_,BI⟩
 ·simp[go_sem,bQ,pw];refine af _ _ ⟨rfl,?_,aS⟩;have aC:=yu.map;have e:G=λa=>if a.1=num then none else a' a:=by
   funext a;rw[fD a,ak a];simp
  rw[e]at aC;exact aC
 ·have kJ:H (aj eC) w u2:=aS.bZ aK λk r e=>by simp only[aj]at e;omega
  simp[go_sem,bQ,pw,BI,aW,pg];rw[EJ _ _ _ _ [az q] _ (oC _ _)];have aU:=(H.refl al u2).alloc (.cells #[.int .u16 a.1.val,.int .u32 a.2.val] 187);have dD:=cr u2 (.cells #[.int .u16 a.1.val,.int .u32 a.2.val] 187);have uU:H (aj eC) w (u2.alloc (.cells #[.int .u16 a.1.val,.int .u32 a.2.val] 187)):=kJ.alloc _;have Np:=xf.ch aU id id;have rx:=uU.cell au dn;refine(aHO a v q num _ rx).mono ?_;rintro _ rE ⟨rfl,bo⟩;have Uk:H (aj eC) w rE:=uU.trans (bo.mono λ_ _ e=>e.elim);have arS:=Np.ch bo id id;have aHQ:=bo.obj dD id;have Mm:=λi=>aG aHQ i;by_cases kj:a.1=num
  ·obtain⟨sg,t5,bm,Nq,aoV,bE,_⟩:=arS.del KJ underlying142 a 0;have bm:(Builtin.delete_ #[142,187] 0 #[.map (some eC),.agg #[.int .u16 a.1.val,.int .u32 a.2.val]]).run prog rE=.ok (.tuple #[]) sg:=bm;have HT:H (aj eC) w sg:=Uk.trans bE;rw[ou kj];simp[go_sem,f0,Mm];refine aec bm ?_;simp[go_sem];refine ct.intro t5 (by omega) (bJ _ _ _ ⟨_,_,by simp[f0],by simp[aW],by simp[bQ],Nq,λc=> ?_,HT⟩)
   grind
  ·rw[vi kj];simp[go_sem];refine ct.intro el BH (bJ _ _ _ ⟨_,G,by simp[f0],by simp[aW],by simp[bQ],arS,λc=> ?_,Uk⟩)
   grind
end Go.Proofs.YtoohkhcpboldjaaGreatDoor
