/- The library's sort of structs, in this family's words: what it changes, and what the row then reads. They speak of no program. No condition. -/
import Derived.ProofKit
import Derived.Deep.Slices
import Derived.Deep.Fields
import Derived.OpenShut
import Derived.FnData
import Derived.LaidLaws
import Derived.Handed
import Derived.Test.YtoohkhcpboldjaaGreatDoorTrC
import Derived.Shelf.SlSortCmp.WholeK
set_option maxRecDepth 100000
set_option maxHeartbeats 8000000
set_option linter.unusedSimpArgs false
set_option linter.unusedVariables false
namespace Go.Kin
open Go Go.RowKit Go.WideShapes Go.ChangeShapes
section
variable {ba:Type}{enc:TypeId×N->ba}{P:Program}
theorem aJj{f:Func}{s:ChangeSpec}{FM pF aJk ZT:Bool}{Y bG:M}{args:Array N}{v:N}{qk fM:List (DataW ba)}{before pa pv:List MemPlace}
  (fX:DataW.Whole enc P f.params.toList s.vars FM Y args.toList qk fM before)
  (zn:∀(b:Nat) (c':Nat->Bool) (bm:Bool),DataW.TrodAll enc P bG b c' bm f.resultTypes.toList (v.resultList f.resultTypes.size) (s.fn ba (qk++fM)).results [])
  (Yo:∀c':Nat->Bool,(∀p∈before,c' p.block=true)->DataW.TrodAll enc P bG 0 c' true f.params.toList args.toList (s.fn ba (qk++fM)).args pa)
  (asH:∀c':Nat->Bool,(∀p∈before,c' p.block=true)->DataW.TrodVars enc P bG c' s.vars (s.fn ba (qk++fM)).vars pv)
  (de:before=pa++pv)(ab:Below Y.1.size Y bG)
  (fs:∀(j:Nat) (t:TypeId) (V:N),f.resultTypes[j]? =some t->(v.resultList f.resultTypes.size)[j]? =some V->Value.okWide P bG .any 0 t V):
  s.post enc P f FM pF aJk ZT Y args v bG:=by
 have aO:∀p∈before,p.block<Y.1.size:=λp am=>fX.lt p am;have pt:∀p∈before,(λb=>decide (b<Y.1.size)) p.block=true:=λp am=>by simpa using aO p am
 refine⟨qk,fM,before,[],pa,pv,fX,zn _ _ _,Yo _ pt,asH _ pt,World.keptBut_mono (λp am=>⟨am,?_⟩) (ab.frame (·∈before)),λ_=> ?_⟩
 ·grind
 ·obtain⟨_,_,_,_,_,hz,aq⟩:=fX;refine⟨fs,_,_,([]++pa)++pv,⟨[]++pa,pv,trodAll_append (Yo _ (λ_ _=>rfl)) (zn _ _ _),asH _ (λ_ _=>rfl),rfl,?_,?_⟩,?_⟩
  ·intro b off am;have fo:MemPlace.cell b off∈before:=by rw[de];simpa using am
   rw[ab.frozen (aO _ fo)];exact hz b off fo
  ·grind
  grind
theorem aJl(ak:laidOutB P=true){Y bG:M}(ab:Below Y.1.size Y bG):∀(gm:List TypeId) (cB:List N) (qk:List (DataW ba)) (ps:List MemPlace),
  (gm.all λt=>P.readableRec t&&decide (t<P.types.size))=true->DataW.TrodAll enc P Y 0 (λ_=>true) true gm cB qk ps->(∀x∈ps,x.block<Y.1.size)->
  ∀c':Nat->Bool,(∀p∈ps,c' p.block=true)->DataW.TrodAll enc P bG 0 c' true gm cB qk ps:=by
 intro gm
 induction gm with
 |nil=>
  intro cB qk ps _ h _ c' _
  cases cB<;>cases qk<;>first|exact h|exact h.elim
 |cons t gm bL=>
  intro cB qk ps ax h aO c' pE;simp only[List.all_cons,ot,qf]at ax
  cases cB with
  |nil=>cases qk<;>exact h.elim
  |cons v cB=>
   cases qk with
   |nil=>exact h.elim
   |cons d qk=>
    obtain⟨p,q,J,T,rfl⟩:=h;exact⟨p,q,WideElems.Trod_stays ak ax.1.1 ax.1.2 J (λx W=>ab.same (aO x (by simp[W]))) (λx W=>pE x (by simp[W])),
     bL cB qk q ax.2 T (λx W=>aO x (by simp[W])) c' (λx W=>pE x (by simp[W])),rfl⟩
theorem ayk{f:Func}{s:ChangeSpec}{Y bG:M}{args:Array N}{qk:List (DataW ba)}{before p:List MemPlace}(ak:laidOutB P=true)
  (fX:DataW.Whole enc P f.params.toList s.vars false Y args.toList qk [] before)(fp:DataW.TrodAll enc P Y 0 (λ_=>true) true f.params.toList args.toList qk p)(am:before=p++[])
  (ax:(f.params.toList.all λt=>P.readableRec t&&decide (t<P.types.size))=true){kp:TypeId}(zn:f.resultTypes=#[kp])(asI:P.underlying kp=some .bool)
  (aA:s.fn ba (qk++[])={results:=[.lit (.bool true)],args:=qk})(aM:s.vars=[])(ab:Below Y.1.size Y bG):
  s.post enc P f false true false false Y args (.bool true) bG:=by
 have aO:∀x∈p,x.block<Y.1.size:=λx W=>fX.lt x (by rw[am];simp[W]);refine aJj (pa:=p) (pv:=[]) fX (λb c' bm=> ?_) (λc' pE=> ?_) (λc' _=> ?_) am ab ?_
 ·rw[aA,zn];exact trodAll_mk1 (shut_bool asI _)
 ·rw[aA];exact aJl ak ab _ _ _ _ ax fp aO c' λx W=>pE x (by rw[am];simp[W])
 ·rw[aA,aM];rfl
 ·exact ok_one zn rfl (okWide_bool_mk asI _)
theorem aJm(zs:List Int)(h:∀n∈zs,(Lit.int .u8 n).wf=true):∃l:List UInt8,zs.map (Value.int .u8)=br l/\l.length=zs.length:=by
 refine⟨zs.map λn=>UInt8.ofNat n.toNat,?_,by simp⟩;unfold br;rw[OG];refine xE λn aq=> ?_;have:=h n aq;simp[Lit.wf,IntKind.min,IntKind.max,IntKind.signed,IntKind.bits]at this;simp[ce];omega
theorem alt{Y:M}{t e:TypeId}{V:Reach}{bu:Nat}{v:N}(bj:P.underlying t=some (.slice e))(aM:Value.okWide P Y V bu t v):∀k,v.ownBlock=some k->k<Y.1.size:=by
 obtain⟨A,n,c,rfl⟩:=okWide_slice bj aM;intro k r
 cases A with
 |none=>simp[Value.ownBlock]at r
 |some a=>
  simp only[Value.ownBlock,OJ]at r;subst r;simp only[Value.okWide,bj,Cell.okWide,Cell.ok,World.has,World.shape?]at aM
  grind
end
section
variable {ba:Type}{enc:TypeId×N->ba}{P:Program}{Y:M}{base:Nat}{lG:Nat->Bool}{held:Bool}{eX:Nat}{t e n:Nat}{cs:List N}{x:DataW ba×List MemPlace}
theorem asJ{k:IntKind}(bj:P.underlying t=some (.array n e))(aV:P.underlying e=some (.int k))(Z:P.cellsOf e=1)(aq:P.cellsOf t=n)(h:DataW.trod enc P Y base lG held eX t cs=some x):
  ∃zs:List Int,zs.length=n/\cs=zs.map (Value.int k)/\∀z∈zs,(Lit.int k z).wf=true:=by
 obtain⟨xs,m,_,_,ak,lj,ad⟩:=DataW.trod_array bj h;rw[aq]at ak;have key:∀i,i<n->∃z,cs[i]? =some (.int k z)/\(Lit.int k z).wf=true:=λi fo=>by
  have:=ad i fo;rw[Z,Sc]at this;have W:xs[i]? =some (xs[i]'(by omega)):=d_ _;rw[W]at this;obtain⟨z,hz,_,bM⟩:=Xr aV this;refine⟨z,?_,bM⟩;have J:((cs.drop i).take 1)[0]? =some (.int k z):=by rw[hz];rfl
  grind
 refine⟨cs.map intOf,by simpa using ak,?_,?_⟩
 ·apply yM;intro i;by_cases fo:i<n
  ·obtain⟨z,hz,_⟩:=key i fo;simp[hz,intOf]
  grind
 ·intro z hz;obtain⟨v,aM,rfl⟩:=lF.1 hz;obtain⟨i,Hp,IW⟩:=List.mem_iff_getElem.1 aM;obtain⟨z,hz,bM⟩:=key i (by omega);rw[d_ Hp,IW]at hz;obtain rfl:=sb hz;simpa[intOf]using bM
theorem axk(bj:P.underlying t=some (.array n e))(aV:P.underlying e=some (.int .u8))(Z:P.cellsOf e=1)(aq:P.cellsOf t=n)(h:DataW.trod enc P Y base lG held eX t cs=some x):
  ∃l:List UInt8,l.length=n/\cs=br l:=by
 obtain⟨zs,J,rfl,ag⟩:=asJ bj aV Z aq h;obtain⟨l,fb,xP⟩:=aJm zs ag;exact⟨l,by omega,fb⟩
theorem axl(bj:P.underlying t=some (.array n e))(aV:P.underlying e=some (.int .u16))(Z:P.cellsOf e=1)(aq:P.cellsOf t=n)(h:DataW.trod enc P Y base lG held eX t cs=some x):
  ∃l:List Nat,l.length=n/\cs=hg l/\∀(i:Nat) (x:Nat),l[i]? =some x->x<65536:=by
 obtain⟨zs,J,rfl,ag⟩:=asJ bj aV Z aq h;have hz:∀z∈zs,0<=z/\z<65536:=λz hz=>by
  have:=ag z hz;simp[Lit.wf,IntKind.min,IntKind.max,IntKind.signed,IntKind.bits]at this;omega
 refine⟨zs.map Int.toNat,by simpa using J,?_,λi x W=> ?_⟩
 ·rw[hg,OG];refine xE λz h=> ?_;have:=hz z h;simp[DT];omega
 ·rw[oo,Si]at W;obtain⟨z,xA,rfl⟩:=W;have:=hz z (ib xA);omega
theorem yV{k:IntKind}(aV:P.underlying e=some (.int k))(r:k=.u64\/k=.u32\/k=.u16\/k=.u8)(h:DataW.trod enc P Y base lG held eX e cs=some x):∃z:Nat,cs=[.int k z]/\(k=.u64->z<18446744073709551616)/\(k=.u32->z<4294967296)/\(k=.u16->z<65536)/\(k=.u8->z<256):=by
 obtain⟨z,rfl,_,bM⟩:=Xr aV h;rcases r with rfl|rfl|rfl|rfl<;>simp[Lit.wf,IntKind.min,IntKind.max,IntKind.signed,IntKind.bits]at bM<;>refine⟨z.toNat,by congr 2;omega,?_,?_,?_,?_⟩<;>intro aN<;>first|omega|cases aN
end
theorem adt{P:Program}{w:M}{rj:String}{g t e n:Nat}{k:IntKind}{zs:List Int}(aH:P.globalNamed rj=some g)(lv:(P.globals[g]?).map (·.type)=some t)(bj:P.underlying t=some (.array n e))(aV:P.underlying e=some (.int k))(Z:P.cellsOf e=1)(aq:P.cellsOf t=n)(hz:zs.length=n)
  (h:laidMet P [(rj,.agg (zs.map λz=>.lit (.int k z)))] w):∀i z,zs[i]? =some z->w.cell? (bl g i)=some (.int k z):=by
 obtain⟨ps,⟨nE,eP,cs,eX,p,q,J,T,ag,aP,_⟩,_⟩:=h;rw[aH]at J;obtain rfl:=sb J;rw[lv]at T;obtain rfl:=sb T;obtain⟨xs,m,_,W,ak,lj,ad⟩:=DataW.trod_array bj aP;have eF:=yN Prod.fst W;simp at eF;intro i z Hi;have fo:i<n:=by have:=(jG.1 Hi).1;omega
 have:=ad i fo;rw[Z,Sc]at this;have Hk:xs[i]? =some (xs[i]'(by omega)):=d_ _;rw[Hk]at this;obtain⟨z',zi,bm,_⟩:=Xr aV this;have aL:(xs.map (·.1))[i]? =some (.lit (.int k z')):=by rw[oo,Hk,bm];rfl
 rw[<-eF,oo,Hi]at aL;simp at aL;subst aL;rw[World.var?_cell aH ag i];have bH:((cs.toList.drop i).take 1)[0]? =some (.int k z):=by rw[zi];rfl
 grind
section
variable {ba:Type}{enc:TypeId×N->ba}{P:Program}{Y:M}{base:Nat}{lG:Nat->Bool}{held:Bool}{eX:Nat}{t e:Nat}{cs:List N}{x:DataW ba×List MemPlace}
theorem aJn{V:Reach}{bu:Nat}{v:N}{d:DataW ba}{p:List MemPlace}{k:Nat}(bj:P.underlying t=some (.slice e))(rb:P.cellsOf e=k)(aM:Value.okWide P Y V bu t v)(h:DataW.Trod enc P Y base lG held t v d p):
  ∃(A:Option Addr) (n c:Nat),v=.slice A n c/\n<=c/\c<=maxLen/\(0<n->∃bx,A=some bx/\bx.block<Y.1.size/\∀j,j<n->∃(cs:List N) (eX:Nat) (x:DataW ba×List MemPlace),cs.length=k/\(∀i,i<k->Y.cell? (bx.add (j*k+i))=cs[i]?)/\DataW.trod enc P Y base lG held eX e cs=some x):=by
 have aO:=alt bj aM;obtain⟨eX,bP⟩:=h;obtain⟨a0,tb,gs,rfl⟩:=okWide_slice bj aM;rcases Go.Deep.open_slice bj bP with⟨fd,_⟩|⟨a,len,cap,m,fB,aJo,aJp,fd,_,ak,aC,zw,_,ad⟩
 ·simp[Value.cells]at fd
  grind
 ·simp[Value.cells]at fd;obtain⟨rfl,rfl,rfl⟩:=fd;have Rc:tb<=m:=by rw[zw];split<;>omega
  refine⟨some a,tb,gs,rfl,ak,aC,λ_=>⟨a,rfl,aO _ rfl,λj I=> ?_⟩⟩;obtain⟨yU,Z,aic⟩:=ad j (by omega);rw[rb]at Z;obtain⟨_,eY,lI⟩:=World.cells?_some Z;exact⟨yU,_,_,eY,λi ad=>by rw[<-lI i ad,ac'],aic⟩
def fC{α:Type}(w:M)(v:N)(en:α->List N)(k:Nat)(l:List α):Prop:=∃A c,v=.slice A l.length c/\l.length<=c/\c<=maxLen/\
 (0<l.length->∃b off,A=some ⟨b,off,none⟩/\b<w.1.size/\∀j a i u,l[j]? =some a->(en a)[i]? =some u->w.cell? (bl b (off+j*k+i))=some u)
theorem fC.len{α:Type}{w:M}{v:N}{en:α->List N}{k:Nat}{l:List α}(h:fC w v en k l)(bj:P.underlying t=some (.slice e))(bV:TypeId)(w':M):(Builtin.len_ #[t] bV #[v]).run P w'=.ok (aa l.length) w':=by
 obtain⟨A,c,rfl,_⟩:=h;simp[Builtin.len_,run_underlying bj,goInt]
theorem fC.ch{α:Type}{S:Nat->Prop}{w w':M}{v:N}{en:α->List N}{k:Nat}{l:List α}(h:fC w v en k l)(Z:H S w w')(aq:∀b,b<w.1.size->v.ownBlock=some b->¬S b):fC w' v en k l:=by
 obtain⟨A,c,rfl,J,T,ag⟩:=h;refine⟨A,c,rfl,J,T,λam=> ?_⟩;obtain⟨b,off,rfl,aP,bH⟩:=ag am;exact⟨b,off,rfl,gQ aP Z.size,λj a i u I ad=>Z.cell (bH j a i u I ad) (aq b aP rfl)⟩
theorem axv{α:Type}(iu:α->Prop)(en:α->List N){k:Nat}(r:0<k){V:Reach}{bu:Nat}{v:N}{d:DataW ba}{p:List MemPlace}(bj:P.underlying t=some (.slice e))(rb:P.cellsOf e=k)(aM:Value.okWide P Y V bu t v)(h:DataW.Trod enc P Y base lG held t v d p)
  (xX:∀cs eX x,cs.length=k->DataW.trod enc P Y base lG held eX e cs=some x->∃a,iu a/\cs=en a):∃l:List α,(∀a∈l,iu a)/\fC Y v en k l:=by
 obtain⟨A,n,c,rfl,J,T,ag⟩:=aJn bj rb aM h;rcases ac4 n with rfl|aq
 ·exact⟨[],by simp,A,c,rfl,J,T,λh=>absurd h (by simp)⟩
 obtain⟨bx,rfl,aO,I⟩:=ag aq;have pick:∀j:Fin n,∃a:α,iu a/\∀i,i<k->Y.cell? (bx.add (j.1*k+i))=(en a)[i]? :=λj=>by
  grind
 have aid:∀j:Fin n,∃a:α,iu a/\(en a).length=k/\∀i,i<k->Y.cell? (bx.add (j.1*k+i))=(en a)[i]? :=λj=>by
  obtain⟨cs,eX,x,ak,Z,Ht⟩:=I j.1 j.2
  grind
 obtain⟨f,bP⟩:=acR aid;have cu:(List.ofFn f).length=n:=List.length_ofFn;have VK:∀j a,(List.ofFn f)[j]? =some a->∃I:j<n,a=f ⟨j,I⟩:=λj a ao=>by
  grind
 have nB:∀j a i u,(List.ofFn f)[j]? =some a->(en a)[i]? =some u->Y.cell? (bx.add (j*k+i))=some u:=λj a i u ao ap=>by
  grind
 obtain⟨b,off,aie⟩:=bx;have pE:aie=none:=by
  obtain⟨a,ao⟩:∃a,(List.ofFn f)[0]? =some a:=⟨_,d_ (by omega)⟩;obtain⟨Hq,rfl⟩:=VK 0 a ao;obtain⟨_,ak,_⟩:=bP ⟨0,Hq⟩;obtain⟨u,ap⟩:∃u,(en (f ⟨0,Hq⟩))[0]? =some u:=⟨_,d_ (by omega)⟩;have Dz:=nB 0 _ 0 u ao ap;simp only[Nat.zero_mul,Ec,Addr.add,if_true,World.cell?]at Dz;split at Dz
  ·split at Dz
   ·cases Dz
   ·rename_i aA;simpa using aA
  ·cases Dz
 subst pE;refine⟨List.ofFn f,λa ao=> ?_,some ⟨b,off,none⟩,c,by rw[cu],by omega,T,λ_=>⟨b,off,rfl,aO,λj a i u ao ap=> ?_⟩⟩
 ·obtain⟨j,I⟩:=vf.1 ao;obtain⟨aif,rfl⟩:=VK j a I;exact(bP ⟨j,aif⟩).1
 ·have:=nB j a i u ao ap;rwa[Ge,<-yH]at this
theorem axy{k:IntKind}(bj:P.underlying t=some (.slice e))(aV:P.underlying e=some (.int k))(Z:P.cellsOf e=1)(h:DataW.trod enc P Y base lG held eX t cs=some x):
  ∃(v:N) (l:List Int),cs=[v]/\bC Y v l.length (l.map (Value.int k))/\(∀z∈l,(Lit.int k z).wf=true)/\(0<l.length->∃b,v.ownBlock=some b/\b<Y.1.size):=by
 rcases open_ints bj aV Z h with⟨rfl,_⟩|⟨a,len,cap,zs,rfl,_,eh,aC,hz,_,mR,XZ⟩
 ·exact⟨_,[],rfl,bC.nil Y,by simp,by simp⟩
 ·have cu:len<=zs.length:=by rw[hz];split<;>omega
  have yW:(zs.take len).length=len:=by simp;omega
  have nB:∀j u,((zs.take len).map (Value.int k))[j]? =some u->Y.cell? (a.add j)=some u:=λj u ap=>by
   grind
  refine⟨_,zs.take len,rfl,⟨some a,cap,by rw[yW],by omega,aC,λ_=>⟨a,rfl,nB⟩⟩,λz hz=>XZ z (DU hz),λam=>⟨a.block,rfl,?_⟩⟩;have bi:((zs.take len).map (Value.int k))[0]? =some (.int k ((zs.take len)[0]'am)):=by rw[oo,d_ am];rfl
  have:=xC Y _ (nB 0 _ bi);rwa[IL]at this
end
section
variable {ba:Type}{enc:TypeId×N->ba}{P:Program}{Y:M}{base:Nat}{lG:Nat->Bool}{held:Bool}{eX:Nat}{t e:Nat}{cs:List N}{x:DataW ba×List MemPlace}
theorem aJq{α:Type}(iu:α->Prop)(en:α->List N){k:Nat}(r:0<k){A:Option Addr}{n c:Nat}(J:n<=c)(T:c<=maxLen)
  (ag:0<n->∃bx,A=some bx/\bx.block<Y.1.size/\∀j,j<n->∃(cs:List N) (eX:Nat) (x:DataW ba×List MemPlace),cs.length=k/\(∀i,i<k->Y.cell? (bx.add (j*k+i))=cs[i]?)/\DataW.trod enc P Y base lG held eX e cs=some x)
  (xX:∀cs eX x,cs.length=k->DataW.trod enc P Y base lG held eX e cs=some x->∃a,iu a/\cs=en a):∃l:List α,(∀a∈l,iu a)/\fC Y (.slice A n c) en k l:=by
 rcases ac4 n with rfl|aq
 ·exact⟨[],by simp,A,c,rfl,J,T,λh=>absurd h (by simp)⟩
 obtain⟨bx,rfl,aO,I⟩:=ag aq;have pick:∀j:Fin n,∃a:α,iu a/\∀i,i<k->Y.cell? (bx.add (j.1*k+i))=(en a)[i]? :=λj=>by
  grind
 have aid:∀j:Fin n,∃a:α,iu a/\(en a).length=k/\∀i,i<k->Y.cell? (bx.add (j.1*k+i))=(en a)[i]? :=λj=>by
  obtain⟨cs,eX,x,ak,Z,Ht⟩:=I j.1 j.2
  grind
 obtain⟨f,bP⟩:=acR aid;have cu:(List.ofFn f).length=n:=List.length_ofFn;have VK:∀j a,(List.ofFn f)[j]? =some a->∃I:j<n,a=f ⟨j,I⟩:=λj a ao=>by
  grind
 have nB:∀j a i u,(List.ofFn f)[j]? =some a->(en a)[i]? =some u->Y.cell? (bx.add (j*k+i))=some u:=λj a i u ao ap=>by
  grind
 obtain⟨b,off,aie⟩:=bx;have pE:aie=none:=by
  obtain⟨a,ao⟩:∃a,(List.ofFn f)[0]? =some a:=⟨_,d_ (by omega)⟩;obtain⟨Hq,rfl⟩:=VK 0 a ao;obtain⟨_,ak,_⟩:=bP ⟨0,Hq⟩;obtain⟨u,ap⟩:∃u,(en (f ⟨0,Hq⟩))[0]? =some u:=⟨_,d_ (by omega)⟩;have Dz:=nB 0 _ 0 u ao ap;simp only[Nat.zero_mul,Ec,Addr.add,if_true,World.cell?]at Dz;split at Dz
  ·split at Dz
   ·cases Dz
   ·rename_i aA;simpa using aA
  ·cases Dz
 subst pE;refine⟨List.ofFn f,λa ao=> ?_,some ⟨b,off,none⟩,c,by rw[cu],by omega,T,λ_=>⟨b,off,rfl,aO,λj a i u ao ap=> ?_⟩⟩
 ·obtain⟨j,I⟩:=vf.1 ao;obtain⟨aif,rfl⟩:=VK j a I;exact(bP ⟨j,aif⟩).1
 ·have:=nB j a i u ao ap;rwa[Ge,<-yH]at this
theorem axw{α:Type}(iu:α->Prop)(en:α->List N){k:Nat}(r:0<k)(bj:P.underlying t=some (.slice e))(rb:P.cellsOf e=k)(h:DataW.trod enc P Y base lG held eX t cs=some x)
  (xX:∀cs eX x,cs.length=k->DataW.trod enc P Y base lG held eX e cs=some x->∃a,iu a/\cs=en a):∃(v:N) (l:List α),cs=[v]/\(∀a∈l,iu a)/\fC Y v en k l:=by
 rcases Go.Deep.open_slice bj h with⟨fd,_⟩|⟨a,len,cap,m,fB,aJo,aJp,fd,_,ak,aC,zw,_,ad⟩
 ·subst fd;exact⟨_,[],rfl,by simp,none,0,rfl,c_ _,gG _,λh=>absurd h (by simp)⟩
 ·subst fd;have Rc:len<=m:=by rw[zw];split<;>omega
  have PC:∀j,j<len->∃(cs:List N) (eX:Nat) (x:DataW ba×List MemPlace),cs.length=k/\(∀i,i<k->Y.cell? (a.add (j*k+i))=cs[i]?)/\DataW.trod enc P Y base lG held eX e cs=some x:=λj I=>by
   obtain⟨yU,Z,aic⟩:=ad j (by omega);rw[rb]at Z;obtain⟨_,eY,lI⟩:=World.cells?_some Z;exact⟨yU,_,_,eY,λi ad=>by rw[<-lI i ad,ac'],aic⟩
  obtain⟨l,J,T⟩:=aJq iu en r (A:=some a) (n:=len) (c:=cap) ak aC (λam=>⟨a,rfl,by
   obtain⟨yU,_,_,asK,qy,_⟩:=PC 0 am;have tD:=qy 0 r;rw[d_ (by omega)]at tD;have:=xC Y _ tD;rwa[IL]at this,PC⟩) xX
  exact⟨_,l,rfl,J,T⟩
end
end Go.Kin
namespace Go.Proofs.YtoohkhcpboldjaaGreatDoor
open Go.RowKit Go.Kin Tryz
def sx(x:Nat×Pt):List N:=.int .u32 x.1::(ae x.2).toList
def ft(x:Nat×Pt):Array N:=(sx x).toArray
structure nU(x:Nat×Pt):Prop where
 o:x.1<4294967296
 p:cc x.2
theorem asL{x:Nat×Pt}(ok:nU x):(sx x).length=42:=by simp[sx,cd ok.p]
theorem ra{x:Nat×Pt}(ok:nU x):(ft x).size=42:=by simp[ft,asL ok]
theorem Zf{x:Nat×Pt}(ok:nU x):(ft x).extract 0 42=ft x:=by rw[<-ra ok];simp
theorem aig(x:Nat×Pt):(ft x)[0]? =some (.int .u32 x.1):=by simp[ft,sx]
theorem ae1{x:Nat×Pt}(ok:nU x):(ft x).extract 1 42=ae x.2:=by
 apply ip;rw[Lz,Ea];have h:=cd ok.p;simp only[ft,sx,List.drop_succ_cons,Xt];rw[mP (by simp[h])]
theorem aih{w:M}{v:N}{L:List (Nat×Pt)}(h:fC w v sx 42 L)(fo:∀a∈L,nU a){i:Nat}{a:Nat×Pt}(ad:L[i]? =some a):∃b off c cs bv fr,v=.slice (some ⟨b,off,none⟩) L.length c/\w.1[b]? =some (.cells cs bv fr)/\cs.extract (off+i*42) (off+i*42+42)=ft a/\off+i*42+42<=cs.size:=by
 obtain⟨A,c,rfl,_,_,ag⟩:=h;have aO:=(jG.1 ad).1;obtain⟨b,off,rfl,_,ax⟩:=ag (by omega);have ok:=fo a (ib ad);have ak:=asL ok;obtain⟨o,av,Vk⟩:=cells_of_cell (ax i a 0 _ ad rfl);have av:w.1[b]? =some o:=av;obtain⟨cs,bv,fr,rfl⟩:∃cs bv fr,o=.cells cs bv fr:=by
  cases o with
  |cells cs bv fr=>exact⟨_,_,_,rfl⟩
  |_=>cases Vk
 have Z:∀j,j<42->cs[off+i*42+j]? =(sx a)[j]? :=λj I=>by
  obtain⟨u,ap⟩:∃u,(sx a)[j]? =some u:=⟨_,d_ (by omega)⟩;rw[ap,<-ax i a j u ad ap,aG av]
 have cU:off+i*42+42<=cs.size:=by
  have Aj:=Z 41 (by omega);rw[d_ (show 41<(sx a).length by omega)]at Aj;have:=(B'.1 Aj).1;omega
 refine⟨b,off,c,cs,bv,fr,rfl,av,?_,cU⟩;apply OQ;intro j;rw[Sd];by_cases I:j<42
 ·rw[be (by omega),Z j I];simp[ft]
 ·rw[aQ (by omega),ac5 (by rw[ra ok];omega)]
@[simp] theorem Zv(x:Nat×Pt):jx (ft x)=true:=yJ (by
 intro u ap;simp only[sx,io]at ap;rcases ap with rfl|ap
 ·rfl
 ·have:=wc x.2;unfold jx at this;exact AD.1 this u (by simpa using ap))
theorem aJr(x:Nat×Pt)(h:0<(ft x).size):(ft x)[0]'h=.int .u32 x.1:=by simp[ft,sx]
theorem PL:(prog.info? 229).map (λi=>i.zero.isSome)=some true:=by kernel_rfl
theorem PM:kN prog 229=ft (0,ah):=by kernel_rfl
theorem Mz:nU (0,ah):=⟨by decide,cH⟩
def sR{aF:Type}(ca:aF->Pt->aF)(t:aF×List Pt)(x:Nat×Pt):aF×List Pt:=
 (if t.2.getD (x.1%8) ah≠x.2/\t.2.getD (x.1%8) ah≠ah then ca t.1 (t.2.getD (x.1%8) ah)else t.1,t.2.set (x.1%8) x.2)
def px{aF:Type}(rd:Src aF)(nw:aF->Pt->List UInt8->aF×Pt×Int)(ca:aF->Pt->aF)(obj:Nat)(s:aF)(p:Pt)(off:Nat)(l:List (Nat×Pt)):aF×Pt×Int:=
 if(cM rd s p).2.2≠0 then((cM rd s p).1,ah,(cM rd s p).2.2)else
  sS nw ca (l.foldl (sR ca) ((cM rd s p).1,(cM rd s p).2.1)).1 p (cM rd s p).2.1 (l.foldl (sR ca) ((cM rd s p).1,(cM rd s p).2.1)).2 1 obj off
theorem aJs(w:M)(A B C:Obj):∃Y,((w.alloc A).alloc B).alloc C=Y/\Y.1[w.1.size]? =some A/\Y.1[w.1.size+1]? =some B/\Y.1[w.1.size+2]? =some C/\Y.1.size=w.1.size+3/\H al w Y:=by
 refine⟨_,rfl,?_,?_,?_,by simp,(((H.refl al w).alloc _).alloc _).alloc _⟩
 ·rw[rQ _ _ _ (by simp<;>omega),rQ _ _ _ (by simp<;>omega),cr]
 ·simp_all
 ·simp
section
variable {aF:Type}{ba:aF->jf}{m:aF->Nat}{rd:Src aF}{nw:aF->Pt->List UInt8->aF×Pt×Int}{ca:aF->Pt->aF}{dy:TypeId}{ce sv:N}{s:aF}{w w':M}{O:Nat->Prop}
theorem aJt(aA:xW ba m rd nw ca sv)(t:aF×List Pt)(x:Nat×Pt):m t.1<=m (sR ca t x).1+16:=by
 have J:=aA.q' t.1 (t.2.getD (x.1%8) ah);unfold sR;split<;>simp only<;>omega
theorem aii(aA:xW ba m rd nw ca sv):∀(L:List (Nat×Pt)) (t:aF×List Pt),m t.1<=m (L.foldl (sR ca) t).1+16*L.length
 |[],t=>by simp
 |x::L,t=>by
  have J:=aJt aA t x;have T:=aii aA L (sR ca t x)
  grind
theorem aij(aA:xW ba m rd nw ca sv)(s:aF)(p:Pt)(obj off:Nat)(L:List (Nat×Pt)):m s<=m (px rd nw ca obj s p off L).1+16*(L.length+3):=by
 have J:=ED aA.rd s p;have T:=aii aA L ((cM rd s p).1,(cM rd s p).2.1);have ag:=asM aA (L.foldl (sR ca) ((cM rd s p).1,(cM rd s p).2.1)).1 p (cM rd s p).2.1 (L.foldl (sR ca) ((cM rd s p).1,(cM rd s p).2.1)).2 1 obj off;unfold px
 grind
theorem asN(aA:xW ba m rd nw ca (.iface dy ce))(aT:∀s,kB (ba s))(h:ba s w O)(p:Pt)(ok:cc p)(obj off:Nat)(v:N)(L:List (Nat×Pt))(aC:16*(L.length+3)<=m s)(b_:fC w v sx 42 L)(KY:∀a∈L,nU a)(g_:∀j,v.ownBlock=some j->¬O j/\j<w.1.size)(cv:hI w)(aH:iO ba O)(sJ:obj<65536)(NG:off<4294967296):
  bc prog 212 #[.agg #[.iface dy ce,.int .u16 obj],.agg (ae p),.int .u32 off,v] w λv' w'=>v'=.tuple #[.agg (ae (px rd nw ca obj s p off L).2.1),aa (px rd nw ca obj s p off L).2.2]/\cc (px rd nw ca obj s p off L).2.1/\ba (px rd nw ca obj s p off L).1 w' (aE O w w')/\H O w w':=by
 refine bz func212 ntmps212 λbk af=> ?_;have de:=cd ok;have da:=ef ok;have ee:=cd cH;have ic:=ef cH;have ga:=(aT s).lt h;have ff:∀j,w.1.size<=j->¬O j:=λj I e=>by have:=ga j e;omega
 obtain⟨W1,AN,bu,bt,cY,gZ,aU⟩:=aJs w (.cells #[.iface dy ce,.int .u16 obj] 362) (.cells (ae p) 44) (.cells (ae ah) 44);have Kw:W1.cell? ⟨w.1.size,0,none⟩=some (.iface dy ce):=aG bu 0;simp[go_sem,de,da,gO,gP];rw[AN];have fq:=cv.ch aU λ_ _ e=>e;have J:=(aT s).ch h aU λ_ _ e=>e;obtain⟨g,lp⟩:=aD (w.1.size);rw[lp]at bu bt cY gZ ff Kw⊢;have fb:∀k,O k->k<W1.1.size:=λk r=>by have:=ga k r;omega
 have bU:∀{Y:M} {x:aF×Pt×Int},px rd nw ca obj s p off L=x->cc x.2.1->ba x.1 Y (aE O W1 Y)->H O W1 Y->bk (.tuple #[.agg (ae x.2.1),aa x.2.2]) (Y.setRow (g+2) (ae x.2.1)):=λ{Y x} e cG a c=>by
  subst e;have JP:=c.size;have dA:H (aj (g+2)) Y (Y.setRow (g+2) (ae (px rd nw ca obj s p off L).2.1)):=(H.refl (aj (g+2)) Y).setRow (.inl rfl) _;have Cz:=dA.size;refine af _ _ ⟨rfl,cG,(aT _).eK ((aT _).ch a dA λk r e=>by simp only[aj]at e;subst e;exact r.elim (ff _ (by omega)) λe=>by omega) (λk r=>r.imp id λe=>⟨by omega,by omega⟩) (aE.lt ga (by omega)),?_⟩;exact((aU.mono λ_ _ e=>e.elim).trans c).bZ dA λk r e=>by simp only[aj]at e;omega
 clear af;have pc:=ED aA.rd s p;refine(YA aA.rd (by omega) aT J p ok fq aH).mono ?_;rintro _ an ⟨rfl,T,aK⟩;have fx:=Jl rd s p;have bj:px rd nw ca obj s p off L=if(cM rd s p).2.2≠0 then((cM rd s p).1,ah,(cM rd s p).2.2)else
  sS nw ca (L.foldl (sR ca) ((cM rd s p).1,(cM rd s p).2.1)).1 p (cM rd s p).2.1 (L.foldl (sR ca) ((cM rd s p).1,(cM rd s p).2.1)).2 1 obj off:=rfl
 obtain⟨⟨cR,xj,aR⟩,aJu⟩:∃bv,cM rd s p=bv:=⟨_,rfl⟩;rw[aJu]at fx T bj pc⊢;simp only at fx T bj pc⊢;have o_:=ll fx;have oE:=se fx;have kg:=aK.size;have jU:=aK.obj bu (ff _ (by omega));have jS:=aK.obj bt (ff _ (by omega));have JY:=aK.obj cY (ff _ (by omega));have mj:=aH.cv fq aK ⟨_,T⟩ λ_ _ e=>e;have aI:=(H.refl al an).alloc (.cells (cn xj) 339);have cK:=cr an (.cells (cn xj) 339);have iC:(an.alloc (.cells (cn xj) 339)).1.size=an.1.size+1:=by simp
 simp[go_sem,uh,ui,o_,oE,ll rA,bS];obtain⟨Re,aa0⟩:=aD (an.1.size);rw[aa0]at cK iC⊢;generalize an.alloc (.cells (cn xj) 339)=aJ at*;have qr:=aI.obj jU id;have jK:=aI.obj jS id;have zG:=aI.obj JY id;have kn:=mj.ch aI λ_ _ e=>e;have VL:=aI.size;have ag:ba cR aJ (aE O W1 aJ):=(aT _).eK ((aT _).ch T aI λ_ _ e=>e) (λk r=>r.imp id λe=>⟨e.1,by omega⟩) (aE.lt fb (by omega));have hK:H O W1 aJ:=aK.trans (aI.mono λ_ _ e=>e.elim);obtain⟨UT,aJv,aJw,aik,sA,vC⟩:=id kn.nO;by_cases aV:aR=0
 ·rw[aQ (by omega)]at bj;subst aV;have bo:=(H.refl al aJ).alloc (.cells (cn xj) 339);have cI:=cr aJ (.cells (cn xj) 339);have jo:(aJ.alloc (.cells (cn xj) 339)).1.size=aJ.1.size+1:=by simp
  have cu:=b_.len underlying223 3;simp[go_sem,cK,o_,oE,uh,ui,ll rA,bS,cu];obtain⟨eR,iM⟩:=aD (aJ.1.size);rw[iM]at cI jo⊢;generalize aJ.alloc (.cells (cn xj) 339)=bs at*;have aP:ba cR bs (aE O W1 an):=(aT _).ch ((aT _).ch T aI λ_ _ e=>e) bo λ_ _ e=>e;have wV:=kn.ch bo λ_ _ e=>e;have VM:∀j,v.ownBlock=some j->¬aE O W1 an j:=λj I e=>e.elim (g_ j I).1 λe=>by have:=(g_ j I).2;omega
  have Rf:iO ba (aE O W1 an):=aH.cN fq;have EN:∀k,aE O W1 an k->k<bs.1.size:=λk r=>r.elim (λe=>by have:=fb k e;omega) λe=>by omega
  obtain⟨uV,EY⟩:=aD (aE O W1 an);rw[EY]at aP VM Rf EN;refine di (λV f u=>∃k,V=L.length - k/\k<=L.length/\f 2=.int .u32 off/\f 4=az g/\f 5=.pointer (some ⟨g+1,0,none⟩)/\f 8=.pointer (some ⟨g+2,0,none⟩)/\f 10=az Re/\f 12=az eR/\f 29=v/\f 30=aa L.length/\f 31=aa k
    /\iJ ((L.take k).foldl (sR ca) (cR,xj)).2/\u.1[eR]? =some (.cells (cn ((L.take k).foldl (sR ca) (cR,xj)).2) 339 (0,0))/\ba ((L.take k).foldl (sR ca) (cR,xj)).1 u (aE uV bs u)/\H (λk=>uV k\/k=eR) bs u) L.length
   ⟨0,rfl,gG _,by simp,by simp,by simp,by simp,by simp,by simp,by simp,by simp,by simp,fx,cI,(aT _).eK aP (λk r=>.inl r) (aE.lt EN (c_ _)),H.refl _ _⟩ ?_
  rintro cQ bJ _ f u ⟨k,rfl,r,bg,ck,f5,bB,fA,dj,f29,No,Rg,pz,sO,ap,aS⟩;obtain⟨⟨Rh,oM⟩,Pr⟩:∃bv,(L.take k).foldl (sR ca) (cR,xj)=bv:=⟨_,rfl⟩;have rK:=aii aA (L.take k) (cR,xj);rw[Pr]at pz sO ap rK;simp only at pz sO ap rK;have aSK:32+16*(L.length - k)<=m Rh:=by
   rw[ol,Xm r]at rK;omega
  have qG:=ll pz;have Cp:=se pz;have EP:=aS.size;have Ri:¬uV eR:=λe=>by rw[<-EY]at e;exact e.elim (ff _ (by omega)) λe=>by omega
  have pU:∀j,g<=j->j<g+3->¬uV j:=λj J T e=>by rw[<-EY]at e;exact e.elim (ff _ J) λe=>by omega
  have ail:¬uV Re:=λe=>by rw[<-EY]at e;exact e.elim (ff _ (by omega)) λe=>by omega
  have zS:=aS.obj (bo.obj qr id) λe=>e.elim (pU _ (by omega) (by omega)) λe=>by omega
  have zJ:=aS.obj (bo.obj jK id) λe=>e.elim (pU _ (by omega) (by omega)) λe=>by omega
  have aJx:=aS.obj (bo.obj zG id) λe=>e.elim (pU _ (by omega) (by omega)) λe=>by omega
  have aJy:=aS.obj (bo.obj cK id) λe=>e.elim ail λe=>by omega
  have pn:=Rf.cv wV aS ⟨_,ap⟩ λk r e=>e.elim id λe=>by
   have ir:=kn.lt k r;have e:k=eR:=e;rw[e,iM]at ir;exact(FX _ ir).elim
  have rX:iO ba (aE uV bs u):=Rf.cN wV;have asO:H O W1 u:=(hK.trans (bo.mono λ_ _ e=>e.elim)).bZ aS λk r e=>by
   rw[<-EY]at e;rcases e with(e|e)|e
   ·exact e
   ·omega
   ·omega
  by_cases aO:k<L.length
  ·have vb:(k:Int)<L.length:=by omega
   have ej:IntKind.i64.wrap ((k:Int)+1)=((k+1:Nat):Int):=by
    obtain⟨A,c,_,J,T,_⟩:=b_;unfold maxLen at T;rw[cz];omega
   obtain⟨x,W⟩:∃x,L[k]? =some x:=⟨_,d_ aO⟩;have cG:=KY x (ib W);obtain⟨b,uB,c,cs,bv,fr,wZ,Dm,mr,fd⟩:=aih b_ KY W;have aJz:¬O b/\b<g:=⟨(g_ b (by rw[wZ];rfl)).1,by have:=(g_ b (by rw[wZ];rfl)).2;omega⟩;have Ae:=asO.obj (aU.obj Dm id) aJz.1;have eF:=ra cG;have fN:=Zf cG;have rO:=ae1 cG;have jJ:=aig x;have Rj:((x.1:Int)).tmod 8=((x.1%8:Nat):Int):=by rw[Sm (by omega)];omega
   obtain⟨kE,rL⟩:=aD (x.1%8);rw[rL]at Rj;have NH:kE<8:=by omega
   have Rk:(kE:Int)<8:=by omega
   have VN:kE*41+41<=328:=by omega
   have aJA:IntKind.u32.wrap (kE:Int)=kE:=by simp[IntKind.wrap,IntKind.bits,IntKind.signed];omega
   have aJB:IntKind.i64.wrap (kE:Int)=kE:=by rw[cz];omega
   obtain⟨hs,pt⟩:∃q,oM[kE]? =some q:=⟨_,d_ (by rw[pz.len];exact NH)⟩;have KZ:=pz.all _ (ib pt);have HC:=cd KZ;have Uz:=ef KZ;have pe:=adg pz pt;have Bj:oM.getD kE ah=hs:=by rw[lk,pt];rfl
   have eS:(L.take (k+1)).foldl (sR ca) (cR,xj)=(if hs≠x.2/\hs≠ah then ca Rh hs else Rh,oM.set kE x.2):=by
    rw[nA,W];simp only[Option.toList_some,Cc,yO,List.foldl_nil,Pr];unfold sR;simp only[rL,Bj]
   subst wZ;simp[go_sem,f29,No,Rg,vb,aO,Ae,mr,fd,PL,PM,eF,fN,ra Mz,bS,aJr,Rj,aJA,aJB,rL];have bE:=(H.refl al u).alloc (.cells (ft x) 229);have dG:=cr u (.cells (ft x) 229);have kV:(u.alloc (.cells (ft x) 229)).1.size=u.1.size+1:=by simp
   obtain⟨vK,CZ⟩:=aD (u.1.size);rw[CZ]at dG kV⊢;have abf:=bE.obj sO id;have Hd:=bE.obj zS id;have bH:=(aT _).ch ap bE λ_ _ e=>e;have rf:=pn.ch bE λ_ _ e=>e;generalize u.alloc (.cells (ft x) 229)=bD at*;have cF:=(H.refl al bD).alloc (.cells (ae hs) 44);have gj:=cr bD (.cells (ae hs) 44);have zI:=cF.obj dG id;have aim:=cF.obj abf id;have Fi:=cF.obj Hd id;have Ak:=rf.ch cF λ_ _ e=>e;have cS:=(aT _).ch bH cF λ_ _ e=>e;have qs:(bD.alloc (.cells (ae hs) 44)).1.size=bD.1.size+1:=by simp
   obtain⟨agT,asP,asQ,VO,oP,QA⟩:=id Ak.nO;have abg:∀aO,(bD.alloc (.cells (ae hs) 44)).1[2]'aO=.cells agT asP asQ:=λaO=>by
    have:=VO;rw[yP aO]at this;exact sb this
   obtain⟨Qz,asR,asS,MT,Ac,Kq⟩:=id rf.nO;have yh:∀w,(Op.equalIn 10000 44 (.agg (ae hs)) (.agg (ae x.2))).run prog w=.ok (decide (hs=x.2)) w:=λw=>tc w KZ cG.p;have VP:∀w,(Op.equalIn 10000 44 (.agg (ae hs)) (.agg (ae ah))).run prog w=.ok (decide (hs=ah)) w:=λw=>tc w KZ cH;have Po:(bD.alloc (.cells (ae hs) 44)).cell? (bl g 0)=some (.iface dy ce):=aG Fi 0;have qg:∀k,aE uV bs u k->k<(bD.alloc (.cells (ae hs) 44)).1.size:=λk r=>(aT _).lt cS k r;have Hj:∀k,aE uV bs u k->k<u.1.size:=λk r=>(aT _).lt ap k r;have K_:=bE.trans cF;have asT:=K_.size;have apP:=bE.size;have adE:=cF.size;obtain⟨iy,BF⟩:=aD ((if hs≠x.2/\hs≠ah then ca Rh hs else Rh));rw[BF]at eS;have Tp:(hs≠x.2/\hs≠ah)\/(hs=x.2)\/(hs≠x.2/\hs=ah):=by
    by_cases J:hs=x.2
    ·exact .inr (.inl J)
    ·by_cases T:hs=ah
     ·exact .inr (.inr ⟨J,T⟩)
     ·exact .inl ⟨J,T⟩
   rcases Tp with Z|Z|Z
   case' inl=>
    rw[be Z]at BF;simp[go_sem,dj,abf,NH,Rk,VN,qG,pe,gO,gP,HC,Uz,ee,bS,zI,eF,rO,fN,yh,VP,Z.1,Z.2,gj,VO,abg,oP,QA,Po,ck];clear abg;generalize bD.alloc (.cells (ae hs) 44)=cD at*;refine aA.ca Rh cD (aE uV bs u) hs _ (by omega) cS KZ Ak rX λv' cE fi dE=> ?_;rw[BF]at fi
   case' inr.inl=>
    rw[aQ (λe=>e.1 Z)]at BF;subst Z;simp[go_sem,dj,abf,NH,Rk,VN,qG,pe,gO,gP,HC,Uz,ee,bS,zI,eF,rO,fN,yh];obtain⟨cD,nc⟩:=aD ((bD.alloc (.cells (ae x.2) 44)));rw[nc]at cS qg qs adE K_ asT zI aim Fi;obtain⟨cE,VQ,dE⟩:∃cE,cD=cE/\H (aE uV bs u) cD cE:=⟨cD,rfl,H.refl _ _⟩;have CS:=nc.trans VQ;have fi:ba iy cE (aE (aE uV bs u) cD cE):=by rw[<-BF,<-VQ];exact(aT _).eK cS (λk r=>.inl r) (aE.lt qg (c_ _))
    rw[CS]
   case' inr.inr=>
    rw[aQ (λe=>e.2 Z.2)]at BF;obtain⟨fR,hV⟩:=Z;subst hV;simp[go_sem,dj,abf,NH,Rk,VN,qG,pe,gO,gP,HC,Uz,ee,bS,zI,eF,rO,fN,yh,VP,fR,gj,VO,abg,oP,QA];clear abg;obtain⟨cD,nc⟩:=aD ((bD.alloc (.cells (ae ah) 44)));rw[nc]at cS qg qs adE K_ asT zI aim Fi;obtain⟨cE,VQ,dE⟩:∃cE,cD=cE/\H (aE uV bs u) cD cE:=⟨cD,rfl,H.refl _ _⟩;have CS:=nc.trans VQ;have fi:ba iy cE (aE (aE uV bs u) cD cE):=by rw[<-BF,<-VQ];exact(aT _).eK cS (λk r=>.inl r) (aE.lt qg (c_ _))
    rw[CS]
   all_goals
    have ZU:=dE.size;have aJC:¬aE uV bs u vK:=λe=>by have:=Hj _ e;omega
    have asU:¬aE uV bs u eR:=λe=>e.elim Ri λe=>by omega
    have aJD:=dE.obj zI aJC;have abh:=dE.obj aim asU;simp[go_sem,dj,abh,qG,Cp,aJD,eF,rO];refine(adi oM kE x.2 cE pz cG.p).mono ?_;rintro _ ec ⟨rfl,ds⟩;have La:=ds.obj abh id;rw[be ⟨by omega,Rk⟩];have ain:iJ (oM.set kE x.2):=pz.set _ cG.p;have aJE:=ll ain;have aSL:=se ain;have Zi:=ds.size;simp[go_sem,dj,La,qG,aJE,bS,Rg,ej];have dV:H (aj eR) ec (ec.setRow eR (cn (oM.set kE x.2))):=(H.refl (aj eR) ec).setRow (.inl rfl) _;have rG:=dV.size;have aSM:eR<bs.1.size:=by omega
    have ir:ba iy (ec.setRow eR (cn (oM.set kE x.2))) (aE uV bs (ec.setRow eR (cn (oM.set kE x.2)))):=(aT _).eK ((aT _).ch ((aT _).ch fi ds λ_ _ e=>e) dV λk r e=>by
     simp only[aj]at e;subst e;exact r.elim asU λe=>by omega) (λk r=>by
      rcases r with(r|r)|r
      ·exact .inl r
      ·exact .inr ⟨r.1,by omega⟩
      ·exact .inr ⟨by omega,by omega⟩) (aE.lt EN (by omega))
    have ww:H (λk=>uV k\/k=eR) bs (ec.setRow eR (cn (oM.set kE x.2))):=(((aS.trans (K_.mono λ_ _ e=>e.elim)).bZ dE λk r e=>.inl (e.resolve_right (by omega))).trans (ds.mono λ_ _ e=>e.elim)).trans (dV.mono λk _ e=>by simp only[aj]at e;exact .inr e);exact ct.intro (L.length -(k+1)) (by omega) (bJ _ _ _ ⟨k+1,rfl,by omega,by simp[bg],by simp[ck],by simp[f5],by simp[bB],by simp[fA],by simp[dj],by simp[f29],by simp[No],by simp,by rw[eS];exact ain,by rw[eS,gh,La];rfl,by rw[eS];exact ir,ww⟩)
  ·obtain rfl:k=L.length:=by omega
   rw[wm]at Pr;rw[Pr]at bj;have NI:u.cell? (bl g 0)=some (.iface dy ce):=aG zS 0;have DA:u.cell? (bl g 1)=some (.int .u16 obj):=aG zS 1;simp[go_sem,bg,ck,f5,bB,fA,dj,f29,No,Rg,zJ,de,da,aJy,o_,oE,sO,qG,Cp,NI,DA];refine(asV aA (by omega) aT ap p ok xj oM fx pz 1 obj off pn rX (by decide) sJ NG).mono ?_;rintro _ db ⟨rfl,H_,ir,dV⟩;simp only at bj;rw[<-bj]at ir H_⊢;have afO:=cd H_;have rG:=dV.size;have Z_:=dV.obj aJx λe=>e.elim (pU _ (by omega) (by omega)) λe=>by omega
   simp[go_sem,bB,Z_,ee,afO,ef H_,bS];refine bU rfl H_ ((aT _).eK ir (λk r=> ?_) (aE.lt fb (by omega))) (asO.bZ dV λk r e=> ?_)
   ·rcases r with(r|r)|r
    ·rw[<-EY]at r;exact r.imp id λe=>⟨e.1,by omega⟩
    ·exact .inr ⟨by omega,by omega⟩
    ·exact .inr ⟨by omega,by omega⟩
   ·rcases e with e|e
    ·rw[<-EY]at e;exact e.elim id λe=>by omega
    ·omega
 ·rw[be aV]at bj;have qW:(aR==0)=false:=hv aV;simp[go_sem,aV,qW,bne,aik,sA,vC,zG,ee,ic,bS];exact bU (x:=(cR,ah,aR)) bj cH ag hK
end
theorem aJF(p:Pt)(w:M)(ok:cc p)(cv:hI w):bc prog 211 #[.agg (ae p)] w λv' w'=>v'=.bool (gI p)/\H al w w':=by
 refine bz func211 ntmps211 λbk af=> ?_;have de:=cd ok;have da:=ef ok;have aU:=(H.refl al w).alloc (.cells (ae p) 44);have bu:=cr w (.cells (ae p) 44);have fq:=cv.ch aU λ_ _ e=>e;obtain⟨cs,bv,fr,aN,W,hz⟩:=fq.nO;have wC:∀aO,(w.alloc (.cells (ae p) 44)).1[2]'aO=.cells cs bv fr:=λaO=>by
  grind
 have ho:∀w,(Op.equalIn 10000 44 (.agg (ae p)) (.agg (ae ah))).run prog w=.ok (decide (p=ah)) w:=λw=>tc w ok cH;by_cases am:p=ah
 ·subst am;simp[go_sem,bu,de,da,aN,wC,W,hz,ho];exact af _ _ ⟨by simp[gI],aU⟩
 ·simp[go_sem,bu,de,da,aN,wC,W,hz,ho,am];clear wC aN;obtain⟨g,aH⟩:=aD (w.1.size);rw[aH]at bu⊢;revert aU bu fq;generalize w.alloc (.cells (ae p) 44)=ai;intro aU fq bu;refine(DY p ai ok fq.qQ).mono ?_;rintro _ an ⟨rfl,aK⟩;simp[go_sem];exact af _ _ ⟨by simp[gI,am],aU.trans aK⟩
def vW:Option Nat->List (Nat×Pt)->Bool
 |_,[]=>true
 |b,x::l=>decide (x.1<64)&&(match b with|none=>true|some y=>decide (y<x.1))&&gI x.2&&vW (some x.1) l
def ks(g:Nat)(l:List (Nat×Pt)):List (Nat×Pt):=l.takeWhile λx=>x.1 / 8==g
def qH{aF:Type}(rd:Src aF)(nw:aF->Pt->List UInt8->aF×Pt×Int)(ca:aF->Pt->aF)(obj:Nat):Nat->aF->List Pt->List (Nat×Pt)->aF×List Pt×Int
 |0,s,n,_=>(s,n,0)
 |_+1,s,n,[]=>(s,n,0)
 |eX+1,s,n,x::l=>
  let V:=px rd nw ca obj s (n.getD (x.1 / 8) ah) (x.1 / 8) (ks (x.1 / 8) (x::l))
  if V.2.2≠0 then(V.1,n,V.2.2)else qH rd nw ca obj eX V.1 (n.set (x.1 / 8) V.2.1) ((x::l).drop (ks (x.1 / 8) (x::l)).length)
def rc{aF:Type}(rd:Src aF)(nw:aF->Pt->List UInt8->aF×Pt×Int)(ca:aF->Pt->aF)(obj:Nat)(s:aF)(bO:Pt)(l:List (Nat×Pt)):aF×Pt×Int:=
 if vW none l&&uu bO then
  if l=[]then(s,bO,0)else
  if(cM rd s bO).2.2≠0 then((cM rd s bO).1,ah,(cM rd s bO).2.2)else
  let V:=qH rd nw ca obj l.length (cM rd s bO).1 (cM rd s bO).2.1 l
  if V.2.2≠0 then(V.1,ah,V.2.2)else sS nw ca V.1 bO (cM rd s bO).2.1 V.2.1 2 obj 0
 else(s,ah,1)
theorem asW(b:Option Nat)(y:Nat×Pt)(l:List (Nat×Pt)):vW b (y::l)=(decide (y.1<64)&&(match b with|none=>true|some z=>decide (z<y.1))&&gI y.2&&vW (some y.1) l):=rfl
theorem aJG:∀(l:List (Nat×Pt)) (b:Option Nat),vW b l=true->∀x∈l,x.1<64:=by
 intro l
 induction l with
 |nil=>intro b _ x W;cases W
 |cons y l bL=>
  intro b h x W;rw[asW]at h
  grind
theorem fC.part{α:Type}{w:M}{b off c:Nat}{en:α->List N}{k:Nat}{l:List α}(h:fC w (.slice (some ⟨b,off,none⟩) l.length c) en k l)(a z:Nat)(ao:a<=z)(hz:z<=l.length):fC w (.slice (some ⟨b,off+a*k,none⟩) (z - a) (z - a)) en k ((l.take z).drop a):=by
 obtain⟨A,dA,e,J,T,ag⟩:=h;injection e with aL _ dB;subst aL dB;have cu:((l.take z).drop a).length=z - a:=by simp;omega
 refine⟨_,_,by rw[cu],by omega,by omega,λbi=> ?_⟩
 grind
theorem aJH(hG:Nat)(L:List (Nat×Pt))(i j:Nat)(iT:i<=j)(I:j<=L.length)(gV:∀m y,i<=m->m<j->L[m]? =some y->y.1 / 8=hG)(aJI:j=L.length\/∃y,L[j]? =some y/\y.1 / 8≠hG):ks hG (L.drop i)=(L.take j).drop i:=by
 have e:L.drop i=(L.take j).drop i++L.drop j:=by
  conv=>lhs;rw[<-FV j L]
  grind
 have T:(L.drop j).takeWhile (λx=>x.1 / 8==hG)=[]:=by
  rcases aJI with rfl|⟨y,ar,abi⟩
  ·simp
  ·have aO:=(jG.1 ar).1;rw[xD aO,(jG.1 ar).2,XF];simp[abi]
 unfold ks;rw[e,List.takeWhile_append_of_pos,T,va];intro a ao;obtain⟨m,aC⟩:=vf.1 ao
 grind
theorem TT:Bc prog 223 229 (.agg (ft (0,ah))) 42 64:=⟨underlying223,by kernel_rfl,ra Mz,by decide⟩
theorem aJJ(b uB n c i j:Nat)(iT:i<j)(aJK:j<=c)(w:M):(Instr.sliceAt 223 (.slice (some ⟨b,uB,none⟩) n c) (some (aa i)) (some (aa j)) (some (aa j))).run prog w=.ok (.slice (some ⟨b,uB+i*42,none⟩) (j - i) (j - i)) w:=by
 obtain⟨awI,adb,_,cU,_⟩:=info_parts TT.yR;have J:¬c=i:=by omega
 have T:¬c<j:=by omega
 have ag:¬j<i:=by omega
 simp[Instr.sliceAt,Instr.slice,Instr.sliceBounds,Instr.sliceBound,asIntOf,run_underlying TT.oX,sizeOf,typeInfo,adb,cU,Ly iT,aJK,J,T,ag,Addr.add]
 grind
end Go.Proofs.YtoohkhcpboldjaaGreatDoor
namespace Go.Kin
open Go Go.RowKit Go.Sort Go.Proofs
section
variable {α:Type}[Inhabited α]{enc:α->List N}{k:Nat}{w:M}{b:Nat}
theorem H.aH2(blk off n:Nat)(d:Array α)(os:Array Obj):H (aj blk) w (sortWorldK enc k w blk off n d os):=by
 refine⟨rfl,rfl,rfl,?_,λj I aq=> ?_⟩
 ·exact size_sortWorldK_c enc k w blk off n d os
 ·show((putRowK enc k (Sort.ahead w n) blk off d).1++os)[j]? =_;have aA:(putRowK enc k (Sort.ahead w n) blk off d).1.size=w.1.size:=size_putRowK _ _ _ _ _ _;rw[Array.getElem?_append_left (by rw[aA];exact I)];show(mapBlock (Sort.ahead w n) blk _).1[j]? =_;have dn:¬blk=j:=λe=>aq e.symm;simp[mapBlock,Sort.ahead,IK,dn]
theorem aH'{e n cap:Nat}{xs:List N}(r:0<k)(ak:∀x,(enc x).length=k)(d:Array α)(h:w.ownsRow 0 e k (.slice (some ⟨b,0,none⟩) n cap) n xs)(W:xs=d.toList.flatMap enc)(aq:n=d.size):HoldsK enc k w b 0 d:=by
 rcases h.2 with⟨aM,_⟩|⟨nE,aio,dF,aM,_,ab,J,T,ag,aP⟩
 ·cases aM
 ·cases aM
  intro j I;rw[size_flatK]at I;refine⟨?_,dJ ab _⟩;rw[xB,aG ab,get_flatK _ _ _ _ I];have mw:j / k<d.size:=Nat.div_lt_of_lt_mul (by rw[Nat.mul_comm];exact I);have aip:j%k<k:=IE _ r;have key:∀(l:List α) (j:Nat),j<l.length*k->(l.flatMap enc)[j]? =(l[j / k]?).bind λx=>(enc x)[j%k]? :=by
   intro l
   induction l with
   |nil=>intro j I;simp at I
   |cons x l bL=>
    intro j I;rw[Au];by_cases aO:j<k
    ·rw[LA (by rw[ak];exact aO),Nat.div_eq_of_lt aO,Cb aO];rfl
    ·rw[DV (by rw[ak];omega),ak,bL (j - k) (by
      rw[qK,Nat.add_mul]at I;omega)]
     have aL:j / k=(j - k) / k+1:=by rw[Nat.div_eq_sub_div r (by omega)]
     have aR:j%k=(j - k)%k:=by rw[Nat.mod_eq_sub_mod (by omega)]
     grind
  have bH:=key d.toList j (by simpa using I)
  grind
theorem aIb{n cap:Nat}(r:0<k)(ak:∀x,(enc x).length=k){d:Array α}(ab:b<w.1.size)(h:HoldsK enc k w b 0 d)(aq:n=d.size)(Z:n<=cap)(aC:cap<=maxLen):fC w (.slice (some ⟨b,0,none⟩) n cap) enc k d.toList:=by
 subst aq;refine⟨_,cap,by simp,by simpa using Z,aC,λ_=>⟨b,0,rfl,ab,λj a i u I ad=> ?_⟩⟩;have iP:j<d.size:=by
  have:=(jG.1 I).1;simpa using this
 have aiq:i<k:=by
  have:=(jG.1 ad).1;rw[ak]at this;exact this
 have aO:j*k+i<d.size*k:=by
  have:(j+1)*k<=d.size*k:=Sn _ iP;rw[Nat.add_mul]at this;omega
 have J:=(h (j*k+i) (by rw[size_flatK];exact aO)).1;rw[get_flatK _ _ _ _ aO]at J;have aL:(j*k+i) / k=j:=by rw[Nat.add_comm,Nat.add_mul_div_right _ _ r,Nat.div_eq_of_lt aiq,xB]
 have aR:(j*k+i)%k=i:=by rw[Nat.add_comm,Nat.add_mul_mod_self_right,Cb aiq]
 grind
end
end Go.Kin
