/- A state, as a value. No condition. -/
import Derived.Test.YtoohkhcpboldjaaGreatDoorDfr
import Derived.Test.YtoohkhcpboldjaaGreatDoorWireC
set_option maxRecDepth 10000
set_option linter.unusedSimpArgs false
set_option linter.unusedVariables false
namespace Go.Proofs.YtoohkhcpboldjaaGreatDoor
open Go.RowKit Go.Kin
structure Pt where
 k:Nat
 l:Nat
 o:Nat
 f:Nat
 b:Nat
 h:List UInt8
 a:List Nat
deriving DecidableEq
def Y(p:Pt):Array Value:=(.int .u8 p.k::.int .u8 p.l::.int .u16 p.o::.int .u32 p.f::.int .u64 p.b::(bm p.h++ky p.a)).toArray
structure bN(p:Pt):Prop where
 k:p.k<256
 l:p.l<256
 o:p.o<65536
 f:p.f<4294967296
 b:p.b<18446744073709551616
 h:p.h.length=32
 a:p.a.length=4
 dn:∀x∈p.a,x<65536
section
variable{p:Pt}
theorem bW(ok:bN p):(Y p).size=41:=by simp[Y,eB,Gx,ok.h,ok.a]
theorem sN(p:Pt):jT (Y p)=true:=yC (by
 intro u an;simp only[List.mem_cons,List.mem_append]at an;rcases an with rfl|rfl|rfl|rfl|rfl|an|an
 ·rfl
 ·rfl
 ·rfl
 ·rfl
 ·rfl
 ·exact xf _ u an
 ·exact adW _ u an)
theorem dW(ok:bN p):(Y p).extract 0 41=Y p:=by rw[<-bW ok];simp
theorem Cl:(Y p)[0]? =some (.int .u8 p.k):=by simp[Y]
theorem Ef:(Y p)[1]? =some (.int .u8 p.l):=by simp[Y]
theorem Wb:(Y p)[2]? =some (.int .u16 p.o):=by simp[Y]
theorem adP:(Y p)[3]? =some (.int .u32 p.f):=by simp[Y]
theorem QV:(Y p)[4]? =some (.int .u64 p.b):=by simp[Y]
theorem lO(ok:bN p){i x:Nat}(h:p.a[i]? =some x):(Y p)[37+i]? =some (.int .u16 x):=by
 simp only[Y,List.getElem?_toArray];rw[show 37+i=(32+i)+1+1+1+1+1 by omega];simp only[List.getElem?_cons_succ];rw[List.getElem?_append_right (by rw[eB,ok.h];omega),eB,ok.h,show 32+i - 32=i by omega,ky,List.getElem?_map,h];rfl
theorem a4(ok:bN p):∃a0 a1 a2 a3,p.a=[a0,a1,a2,a3]/\a0<65536/\a1<65536/\a2<65536/\a3<65536:=by
 have h:=ok.a;have M:=ok.dn
 match am:p.a,h with
 |[a0,a1,a2,a3],_=>
  rw[am]at M;exact⟨a0,a1,a2,a3,rfl,M _ (by simp),M _ (by simp),M _ (by simp),M _ (by simp)⟩
end
def dL(a:List Nat)(k:Nat):List Nat:=(List.range k).filter λi=>a.getD i 0 !=0
def ry(a:List Nat)(i:Nat):List Value:=[.int .i64 ((i:Int) / 2),.int .u16 (a.getD i 0)]
theorem Dz(a:List Nat)(k:Nat):dL a (k+1)=if a.getD k 0=0 then dL a k else dL a k++[k]:=by
 unfold dL;rw[List.range_succ,List.filter_append]
 grind
theorem TO(a:List Nat){k:Nat}(h:k<=4):∃m,m<=(dL a 4).length/\dL a k=(dL a 4).take m:=by
 have key:∀j,dL a k<+:dL a (k+j):=λj=>by
  induction j with
  |zero=>exact List.prefix_refl _
  |succ j bG=>
   rw[<-Nat.add_assoc,Dz]
   grind
 have:=key (4 - k);rw[show k+(4 - k)=4 by omega]at this;exact⟨_,this.length_le,(List.prefix_iff_eq_take.1 this)⟩
theorem aCe(p:Pt)(g:Nat)(bl:TypeId)(fr:Nat×Nat)(S:Nat->Prop)(w:World)(ok:bN p)(V:w.1[g]? =some (.cells (Y p) bl fr)):
  GK Tryz.prog 119 [.pointer (some ⟨g,0,none⟩)] 2 (ry p.a) (dL p.a 4) S w:=by
 refine⟨λx=>rfl,λargs w=>by simp[go_sem],?_⟩;intro l cJ ri N fu bK Et hu bf;obtain⟨a0,a1,a2,a3,am,_⟩:=a4 ok;have zy:=fu.obj V id;have fG:=(aG zy 37).trans (lO ok (i:=0) (x:=a0) (by rw[am];rfl));have aI:=(aG zy 38).trans (lO ok (i:=1) (x:=a1) (by rw[am];rfl));have aA:=(aG zy 39).trans (lO ok (i:=2) (x:=a2) (by rw[am];rfl));have aE:=(aG zy 40).trans (lO ok (i:=3) (x:=a3) (by rw[am];rfl));refine bn Tryz.func119 Tryz.ntmps119 λaZ Z=> ?_;simp[go_sem,fG,aI,aA,aE];refine du (λJ f bE=>∃k,k<=4/\J=4 - k/\f 0=.func (.yield l) #[] #[]/\f 6=.agg #[.int .u16 a0,.int .u16 a1,.int .u16 a2,.int .u16 a3]/\f 7=.int .i64 k/\cJ (dL p.a k) bE) 4
  ⟨0,by omega,rfl,by simp,by simp,by simp,bf⟩ ?_
 rintro bg bP _ f bE ⟨k,r,rfl,cR,hw,hi,F⟩;by_cases fs:k<4
 ·have ea:(k:Int)<4:=by omega
  have kz:∃x,p.a.getD k 0=x/\#[Value.int .u16 a0,Value.int .u16 a1,Value.int .u16 a2,Value.int .u16 a3][k]? =some (.int .u16 x):=by
   refine⟨_,rfl,?_⟩;rw[am]
   grind
  obtain⟨x,M,zS⟩:=kz;have mu:=λw=>Eo (P:=Tryz.prog) (kd:=.i64) Tryz.underlying42 Tryz.sizeOf39 Tryz.isAgg39 fs zS w;have eo:IntKind.i64.wrap ((k:Int)+1)=((k+1:Nat):Int):=by simp[IntKind.wrap_i64];omega
  have ts:IntKind.i64.wrap ((k:Int) / 2)=(k:Int) / 2:=by simp[IntKind.wrap_i64];omega
  by_cases iT:x=0
  ·subst iT;simp[go_sem,cR,hw,hi,ea,mu,eo];refine cH.intro (4 -(k+1)) (by omega) (bP _ _ _ ⟨k+1,by omega,rfl,by simp[cR],by simp[hw],by simp,?_⟩);rw[Dz,M,if_pos rfl];exact F
  ·have lF:((x:Int)==0)=false:=by simp;omega
   simp[go_sem,cR,hw,hi,ea,mu,eo,ts,bne,lF];have cI:(dL p.a k).length<(dL p.a 4).length:=by
    obtain⟨m,aH,aV⟩:=TO p.a (k:=k+1) (by omega);have H:=congrArg List.length aV;rw[Dz,M,if_neg iT,List.length_append,List.length_take]at H;simp at H;omega
   have ar:=hu (dL p.a k) k bE F cI;simp only[ry,M]at ar;refine MQ _ _ _ ar ?_;rintro _ w' (⟨rfl,jt,_⟩|⟨rfl,AQ⟩)
   ·simp[go_sem,hi,eo];refine cH.intro (4 -(k+1)) (by omega) (bP _ _ _ ⟨k+1,by omega,rfl,by simp[cR],by simp[hw],by simp,?_⟩);rw[Dz,M,if_neg iT];exact jt
   ·simp[go_sem];refine Z _ _ (.inr ?_);obtain⟨m,aH,aV⟩:=TO p.a (k:=k+1) (by omega);refine⟨m,aH,?_⟩;rw[<-aV,Dz,M,if_neg iT];exact AQ
 ·obtain rfl:k=4:=by omega
  simp[go_sem,hi];exact Z _ _ (.inl F)
theorem aCf{p:Pt}(ok:bN p)(h:dL p.a 4=[]):∀x∈p.a,¬(x !=0)=true:=by
 intro x M;obtain⟨i,aa,rfl⟩:=List.mem_iff_getElem.1 M;have Ow:i<4:=by have:=ok.a;omega
 unfold dL at h;rw[List.filter_eq_nil_iff]at h;have:=h i (List.mem_range.2 Ow)
 grind
theorem aCg{p:Pt}(ok:bN p)(h:dL p.a 4≠[]):∃x∈p.a,(x !=0)=true:=by
 obtain⟨i,aa⟩:=List.exists_mem_of_ne_nil _ h;unfold dL at aa;rw[List.mem_filter,List.mem_range]at aa;have Ow:i<p.a.length:=by have:=ok.a;omega
 refine⟨p.a[i],List.getElem_mem _,?_⟩
 grind
theorem Kl(p:Pt)(w:World):aP Tryz.prog 68 #[.agg (Y p)] w λW w'=>W=.func (.func 119) #[] #[.pointer (some ⟨w.1.size,0,none⟩)]/\w'=w.alloc (.cells (Y p) 44):=by
 refine bn Tryz.func68 Tryz.ntmps68 λaZ Z=> ?_;simp[go_sem];exact Z _ _ ⟨rfl,rfl⟩
theorem aCh(p:Pt)(w:World)(ok:bN p):aP Tryz.prog 132 #[.agg (Y p)] w λW w'=>W=.bool (p.a.any (·!=0))/\D ak w w':=by
 refine bn Tryz.func132 Tryz.ntmps132 λaZ Z=> ?_;simp[go_sem,bW ok,dW ok];have T:=((D.refl ak w).alloc (.cells (Y p) 44)).alloc (.cells #[.bool false] 4);have dk:=ny w (.cells (Y p) 44) (.cells #[.bool false] 4);revert T dk;generalize(w.alloc (.cells (Y p) 44)).alloc (.cells #[.bool false] 4)=ab;intro T dk;refine(Kl p ab).mono ?_;rintro _ ai ⟨rfl,rfl⟩;simp[go_sem];have V:=cl ab (.cells (Y p) 44);have fY:=(D.refl ak ab).alloc (.cells (Y p) 44);have dk:=fY.obj dk id;have T:=T.trans fY;have aO:=lt_of_block dk;revert V dk T aO;generalize ab.alloc (.cells (Y p) 44)=ai;generalize ab.1.size=g;intro V dk T aO;generalize ff:w.1.size+1=G;rw[ff]at dk aO;refine Mv (aCe p g _ _ (aj G) ai ok V) (D.refl _ _) rfl rfl (by kernel_rfl) (λk r=>by cases r;exact aO)
  (λpre N=>pre=[]/\N.1[G]? =some (.cells #[.bool false] 4 (0,0))/\D ak w N) (λc pre N=>c=.ret/\pre≠[]/\N.1[G]? =some (.cells #[.bool true] 4 (0,0))/\D ak w N) (λ_ f' _=>f' 2=.pointer (some ⟨G,0,none⟩)) ?_ ?_ ?_ ?_ ?_ ?_ ?_ ?_
 ·rintro pre N bs ⟨bf,H,I⟩ ap;exact⟨bf,ap.blk H,ap.tS I T.size⟩
 ·rintro c pre N bs ⟨bf,oR,H,I⟩ ap;exact⟨bf,oR,ap.blk H,ap.tS I T.size⟩
 ·exact λ_ _ _ _ h _=>h
 ·exact⟨rfl,dk,T⟩
 ·rintro pre x N bP;simp[go_sem];exact⟨D.refl _ _,bP,by simp[ry]⟩
 ·rintro pre x f' N ⟨bf,H,I⟩ bU;have ew:=λi=>aG H i;have jS:=λi=>dD H i;simp[go_sem,bU,ew,jS];refine⟨(D.refl (aj G) N).setCell (.inl (by simp[aj])) _,?_,?_⟩
  ·simp[H,OW]
  ·exact I.setCell (.inr (by show w.1.size<=G;omega)) _
 ·rintro L N dS ⟨bf,H,I⟩ bi;have da:L≠G:=λe=>by rw[e,H]at bi;cases bi
  have ew:=λi=>aG H i;have jS:=λi=>dD H i;have af:((N.setCell ⟨G,0,none⟩ (.bool false)).putObj L (.deferred none)).1[G]? =some (.cells #[.bool false] 4 (0,0)):=by
   rw[uU da.symm];simp[H,OW]
  have OX:=λi=>aG af i;simp[go_sem,ff,ew,jS,SZ,ze,da,bi,OX];refine Z _ _ ⟨?_,(I.setCell (.inr (by show w.1.size<=G;omega)) _).putObj (.inr (by have:=T.size;omega)) _⟩;congr 1;symm;rw[List.any_eq_false];exact aCf ok bf
 ·rintro L c k N dS r ⟨rfl,bf,H,I⟩ bi;have da:L≠G:=λe=>by rw[e,H]at bi;cases bi
  have af:(N.putObj L (.deferred none)).1[G]? =some (.cells #[.bool true] 4 (0,0)):=by
   rw[uU da.symm];exact H
  have OX:=λi=>aG af i;simp[go_sem,ff,ze,bi,OX];refine Z _ _ ⟨?_,I.putObj (.inr (by have:=T.size;omega)) _⟩;congr 1;symm;rw[List.any_eq_true];exact aCg ok λe=>bf (by rw[e];simp)
def lN(w:World):Prop:=∀i z,([0,1,2,2,2,2]:List Int)[i]? =some z->w.cell? ⟨0,i,none⟩=some (.int .i64 z)
theorem lN.ch{S:Nat->Prop}{w w':World}(h:lN w)(T:D S w w')(av:¬S 0):lN w':=λi z hz=>T.cell (h i z hz) av
theorem lN.lt{w:World}(h:lN w):0<w.1.size:=World.block_lt_of_cell? w _ (h 0 _ rfl)
def fm(k:Nat):Nat:=if k=0\/6<=k then 0 else if k=1 then 1 else 2
theorem afg(k:Nat)(w:World)(r:k<256)(al:lN w):aP Tryz.prog 131 #[.int .u8 k] w λW w'=>W=.int .i64 (fm k)/\w'=w:=by
 refine bn Tryz.func131 Tryz.ntmps131 λaZ Z=> ?_;have bH:IntKind.i64.wrap (k:Int)=k:=by simp[IntKind.wrap_i64];omega
 by_cases cG:6<=k
 ·have Nx:(6:Int)<=k:=by omega
  simp[go_sem,bH,Nx];exact Z _ _ ⟨by simp[fm,cG],rfl⟩
 ·have Nx:¬(6:Int)<=k:=by omega
  have uO:=al 0 _ rfl;have lm:=al 1 _ rfl;have jD:=al 2 _ rfl;have nT:=al 3 _ rfl;have EJ:=al 4 _ rfl;have aCi:=al 5 _ rfl;have ea:(k:Int)<6:=by omega
  have ew:w.cell? ⟨0,k,none⟩=some (.int .i64 (fm k)):=by
   obtain rfl|rfl|rfl|rfl|rfl|rfl:k=0\/k=1\/k=2\/k=3\/k=4\/k=5:=by omega
   ·exact uO
   ·exact lm
   ·exact jD
   ·exact nT
   ·exact EJ
   ·exact aCi
  simp[go_sem,bH,Nx,ea,ew];exact Z _ _ ⟨rfl,rfl⟩
def BC(n x y:Nat):Bool:=(x==y&&x !=0)||(n==1&&y !=0)
def BB(p:Pt):Bool:=if p.k=3 then(p.l==1||p.l==2)else p.l==0
def iX(p:Pt):Bool:= !(BC (fm p.k) (p.a.getD 0 0) (p.a.getD 1 0))&& !(BC (fm p.k) (p.a.getD 2 0) (p.a.getD 3 0))&&(0<fm p.k&&BB p&&p.a.any (·!=0))
theorem Kz{p:Pt}{a0 a1 a2 a3 n:Nat}(am:p.a=[a0,a1,a2,a3])(av:fm p.k=n):iX p=(!(BC n a0 a1)&& !(BC n a2 a3)&&(decide (0<n)&&BB p&&p.a.any (·!=0))):=by
 subst av;unfold iX;rw[am];rfl
theorem AB(p:Pt)(w:World)(ok:bN p)(al:lN w):aP Tryz.prog 77 #[.agg (Y p)] w λW w'=>W=.bool (iX p)/\D ak w w':=by
 obtain⟨a0,a1,a2,a3,am,_⟩:=a4 ok;refine bn Tryz.func77 Tryz.ntmps77 λaZ Z=> ?_;simp[go_sem,Ef,Cl];have V:=cl w (.cells (Y p) 44);have T:=(D.refl ak w).alloc (.cells (Y p) 44);have eG:=al.ch T id;revert V T eG;generalize w.alloc (.cells (Y p) 44)=ab;generalize w.1.size=g;intro V T eG;have qr:=(aG V 0).trans Cl;have iZ:=(aG V 1).trans Ef;have fG:=(aG V 37).trans (lO ok (i:=0) (x:=a0) (by rw[am];rfl));have aI:=(aG V 38).trans (lO ok (i:=1) (x:=a1) (by rw[am];rfl));have aA:=(aG V 39).trans (lO ok (i:=2) (x:=a2) (by rw[am];rfl));have aE:=(aG V 40).trans (lO ok (i:=3) (x:=a3) (by rw[am];rfl));refine Hj (λf u=>f 1=.pointer (some ⟨g,0,none⟩)/\f 3=.bool (BB p)/\u=ab) ?_ ?_
 ·by_cases af:p.k=3
  ·have rJ:((p.k:Int)==3)=true:=by simp;omega
   by_cases H:p.l=1
   ·have lT:((p.l:Int)==1)=true:=by simp;omega
    simp[go_sem,rJ,iZ,lT,BB,af,H]
   ·have lT:((p.l:Int)==1)=false:=by simp;omega
    have je:((p.l:Int)==2)=(p.l==2):=by
     by_cases I:p.l=2
     ·simp[I]
     ·grind
    simp[go_sem,rJ,iZ,lT,je,BB,af,H]
  ·have rJ:((p.k:Int)==3)=false:=by simp;omega
   have oR:((p.l:Int)==0)=(p.l==0):=by
    by_cases I:p.l=0
    ·simp[I]
    ·grind
   simp[go_sem,rJ,oR,BB,af]
 rintro f _ ⟨aK,dt,rfl⟩;simp[go_sem,aK,qr];refine(afg p.k _ ok.k eG).mono ?_;rintro _ ab ⟨rfl,rfl⟩;simp[go_sem,aK,fG,aI,aA,aE];generalize av:fm p.k=n;refine du (λJ f bE=>∃k,k<=2/\J=2 - k/\f 1=.pointer (some ⟨g,0,none⟩)/\f 3=.bool (BB p)/\f 4=.int .i64 n/\f 38=.agg #[.int .u16 a0,.int .u16 a1,.int .u16 a2,.int .u16 a3]/\f 39=.int .i64 k/\
   (0<k->BC n a0 a1=false)/\(1<k->BC n a2 a3=false)/\D ak w bE/\bE.1[g]? =some (.cells (Y p) 44 (0,0))) 2
  ⟨0,by omega,rfl,by simp[aK],by simp[dt],by simp,by simp,by simp,by simp,by simp,T,V⟩ ?_
 have J':∀x y:Nat,BC n x y=((((x:Int)==(y:Int))&& !((x:Int)==0))||(((n:Int)==1)&& !((y:Int)==0))):=λx y=>by
  have q:∀a b:Nat,((a:Int)==(b:Int))=(a==b):=λa b=>by
   grind
  have fC:∀a:Nat,((a:Int)==0)=(a==0):=λa=>q a 0;have ig:∀a:Nat,((a:Int)==1)=(a==1):=λa=>q a 1;rw[q,fC,fC,ig];rfl
 have aCj:∀w,(Instr.index 269 (.agg #[.int .u16 a0,.int .u16 a1,.int .u16 a2,.int .u16 a3]) (.int .i64 0)).run Tryz.prog w=.ok (.agg #[.int .u16 a0,.int .u16 a1]) w:=λw=>by
  rfl
 have aCk:∀w,(Instr.index 269 (.agg #[.int .u16 a0,.int .u16 a1,.int .u16 a2,.int .u16 a3]) (.int .i64 1)).run Tryz.prog w=.ok (.agg #[.int .u16 a2,.int .u16 a3]) w:=λw=>by
  rfl
 rintro bg bP _ f bE ⟨k,r,rfl,cK,ei,hs,Vj,IF,oB,fW,BP,oW⟩;obtain rfl|rfl|rfl:k=0\/k=1\/k=2:=by omega
 ·simp[go_sem,Vj,IF,aCj];have Qo:=BP.alloc (.cells #[.int .u16 a0,.int .u16 a1] 268);have ach:=((D.refl ak bE).alloc (.cells #[.int .u16 a0,.int .u16 a1] 268)).obj oW id;have uZ:=J' a0 a1
  cases db:((a0:Int)==(a1:Int))<;>cases dk:((a0:Int)==0)<;>cases gQ:((n:Int)==1)<;>cases mi:((a1:Int)==0)<;>rw[db,dk,gQ,mi]at uZ<;>simp at uZ<;>simp[go_sem,bne,db,dk,gQ,mi,hs,IF]
  all_goals first
   |exact Z _ _ ⟨by rw[Kz am av,uZ];simp,Qo⟩
   |exact cH.intro 1 (by omega) (bP _ _ _ ⟨1,by omega,rfl,by simp[cK],by simp[ei],by simp[hs],by simp[Vj],by simp[IntKind.wrap_i64],λ_=>uZ,λh=>absurd h (by omega),Qo,ach⟩)
 ·simp[go_sem,Vj,IF,aCk];have Qo:=BP.alloc (.cells #[.int .u16 a2,.int .u16 a3] 268);have ach:=((D.refl ak bE).alloc (.cells #[.int .u16 a2,.int .u16 a3] 268)).obj oW id;have uZ:=J' a2 a3
  cases db:((a2:Int)==(a3:Int))<;>cases dk:((a2:Int)==0)<;>cases gQ:((n:Int)==1)<;>cases mi:((a3:Int)==0)<;>rw[db,dk,gQ,mi]at uZ<;>simp at uZ<;>simp[go_sem,bne,db,dk,gQ,mi,hs,IF]
  all_goals first
   |exact Z _ _ ⟨by rw[Kz am av,uZ];simp,Qo⟩
   |exact cH.intro 0 (by omega) (bP _ _ _ ⟨2,by omega,rfl,by simp[cK],by simp[ei],by simp[hs],by simp[Vj],by simp[IntKind.wrap_i64],λ_=>oB (by omega),λ_=>uZ,Qo,ach⟩)
 ·have aCl:=oB (by omega);have CC:=fW (by omega);have aH:iX p=(decide (0<n)&&BB p&&p.a.any (·!=0)):=by rw[Kz am av,aCl,CC];rfl
  by_cases pe:0<n
  ·have Vk:(0:Int)<n:=by omega
   cases ij:BB p
   ·simp[go_sem,IF,ei,hs,pe,Vk,ij];exact Z _ _ ⟨by rw[aH,ij];simp,BP⟩
   ·simp[go_sem,cK,IF,ei,hs,pe,Vk,ij,oW,bW ok,dW ok];refine(aCh p bE ok).mono ?_;rintro _ aC ⟨rfl,aE⟩;simp[go_sem];exact Z _ _ ⟨by grind,BP.trans aE⟩
  ·have Vk:¬(0:Int)<n:=by omega
   simp[go_sem,IF,ei,hs,pe,Vk];exact Z _ _ ⟨by grind,BP⟩
theorem WH{w:World}{e n:Nat}{v:Value}{xs:List Value}(h:w.ownsRow 0 e 1 v n xs):∀k,v.ownBlock=some k->k<w.1.size:=by
 intro k r;rcases h.2 with⟨aS,bf⟩|⟨g,cap,di,aS,_,V,_⟩
 ·rw[aS]at r;simp[Value.ownBlock]at r
 ·rw[aS]at r;simp[Value.ownBlock]at r
  grind
theorem hZ.trans{w ab ai:World}{v gw jf:Value}{n m m':Nat}{xs ys zs:List UInt8}(h:hZ w v n xs m ys gw ab)(k:hZ ab gw (n+m) (xs++ys) m' zs jf ai):hZ w v n xs (m+m') (ys++zs) jf ai:=by
 refine⟨?_,h.2.1.bJ k.2.1 λj F e=> ?_,?_⟩
 ·have:=k.1
  grind
 ·rcases h.2.2 with af|af
  ·rw[<-af];exact e
  ·have:=af j e;omega
 ·rcases k.2.2 with bq|bq
  ·rcases h.2.2 with af|af
   ·exact .inl (bq.trans af)
   ·exact .inr λj F=>af j (by rw[<-bq];exact F)
  ·exact .inr (bq.mono h.2.1.size)
theorem hZ.from{w w0 ab:World}{v gw:Value}{n m:Nat}{xs ys:List UInt8}(T:D ak w w0)(h:hZ w0 v n xs m ys gw ab):hZ w v n xs m ys gw ab:=
 ⟨h.1,(T.mono λ_ _ e=>e.elim).trans h.2.1,h.2.2.imp id λk=>k.mono T.size⟩
def jq(p:Pt):List UInt8:=[UInt8.ofNat p.k,UInt8.ofNat p.l]++(bX p.o 2++(bX p.f 4++(bX p.b 8++(p.h++(p.a.flatMap (λx=>bX x 2)++List.replicate 8 0)))))
theorem Rv(v:Value)(n:Nat)(l:List UInt8)(p:Pt)(w:World)(ok:bN p)(av:n<=1000000)(al:l.length=n)(eT:w.ownsRow 0 5 1 v n (bm l)):
  aP Tryz.prog 185 #[v,.agg (Y p)] w (hZ w v n l 64 (jq p)):=by
 obtain⟨a0,a1,a2,a3,am,aO⟩:=a4 ok;have ij:=WH eT;have cI:=bD.len (bD.fp eT) Tryz.underlying101 3;have de:IntKind.i64.wrap ((n:Int)+64)=((n+64:Nat):Int):=by simp[IntKind.wrap_i64];omega
 refine bn Tryz.func185 Tryz.ntmps185 λaZ Z=> ?_;simp[go_sem,cI,de];have V:=cl w (.cells (Y p) 44);have T:=(D.refl ak w).alloc (.cells (Y p) 44);have GE:=eT.alloc (.cells (Y p) 44);revert V T GE;generalize w.alloc (.cells (Y p) 44)=ab;generalize aF:w.1.size=g;intro V T GE;have qr:=(aG V 0).trans Cl;have iZ:=(aG V 1).trans Ef;have al':=(aG V 2).trans Wb;refine cD [A 0,A 1,A 2,A 3,A 4,A 7,A 8,(5,some [0,7,8]),(6,some [7,8]),(9,some []),A 10] ?_;have ki:=((D.refl ak ab).alloc (.cells #[.int .u8 p.k,.int .u8 p.l] 5)).drew;have aCm:=ki.cell al' id;simp[go_sem,qr,iZ,al',aCm];have aq:(ab.alloc (.cells #[.int .u8 p.k,.int .u8 p.l] 5)).drew.1[ab.1.size]? =some (.cells #[.int .u8 p.k,.int .u8 p.l] 5 (0,0)):=by simp
 have GF:(ab.alloc (.cells #[.int .u8 p.k,.int .u8 p.l] 5)).drew.ownsRow 0 5 1 v n (bm l):=GE.alloc _;have dk:=ki.ah V id;have GG:=T.trans ki;revert aq GF dk GG;generalize(ab.alloc (.cells #[.int .u8 p.k,.int .u8 p.l] 5)).drew=ai;intro aq GF dk GG;have AG:[Value.int .u8 p.k,.int .u8 p.l]=bm [UInt8.ofNat p.k,UInt8.ofNat p.l]:=by
  have H:=ok.k;have I:=ok.l;simp[bm,WI];omega
 refine Jj kB GF (y:=.slice (some ⟨ab.1.size,0,none⟩) 2 2) (m:=2) (ys:=bm [UInt8.ofNat p.k,UInt8.ofNat p.l]) (bD.GA aq (Nat.le_refl _) (by decide) (by rw[<-AG];rfl)) rfl (xf _) (by unfold maxLen;omega) (by omega) λv3 aC ec ft iI=> ?_;have kC:hZ ai v n l 2 [UInt8.ofNat p.k,UInt8.ofNat p.l] v3 aC:=⟨by rw[Cs];exact ec,ft,iI⟩;have fH:∀{W w' m ys},hZ ai v n l m ys W w'->w'.1[g]? =some (.cells (Y p) 44 (0,0)):=λh=>h.2.1.ah dk λe=>by have:=ij _ e;omega
 have aCn:=(aG (fH kC) 2).trans Wb;simp[go_sem,aCn];refine(Rj v3 (n+2) (l++[UInt8.ofNat p.k,UInt8.ofNat p.l]) p.o aC ok.o (by omega) kC.1).mono ?_;intro v4 be eQ;have mv:=kC.trans eQ;have ci:=fH mv;simp[go_sem];refine cD [A 0,A 1,A 2,A 4,A 5,(3,some [4,5]),(6,some []),A 7] ?_;have WJ:=(aG ci 3).trans adP;have aCo:=(aG ci 4).trans QV;simp[go_sem,WJ,aCo];refine(aeh v4 _ _ p.f be.drew ok.f (by omega) mv.1).mono ?_;intro v5 bw gS;have GH:=mv.trans (hZ.from (D.refl ak be).drew gS);have aCp:=(aG (fH GH) 4).trans QV;simp[go_sem,aCp];refine(Wp v5 _ _ p.b bw ok.b (by omega) GH.1).mono ?_;intro kD cd uT;have Jq:=GH.trans uT;have gx:=fH Jq;simp[go_sem];have wl:bD cd (.slice (some ⟨g,5,none⟩) 32 32) 32 (bm p.h):=bD.GA gx (Nat.le_refl _) (by decide) (by simp[Y,ok.h,eB]);refine Jj kB Jq.1 wl (by rw[eB];exact ok.h) (xf _) (by unfold maxLen;omega) (by omega) λabp cF hs mc ub=> ?_;have aci:=Jq.trans (ys:=_) (zs:=p.h) (m':=32) ⟨by rw[Cs];exact hs,mc,ub⟩;have ib:=fH aci;have fG:=(aG ib 37).trans (lO ok (i:=0) (x:=a0) (by rw[am];rfl));have aI:=(aG ib 38).trans (lO ok (i:=1) (x:=a1) (by rw[am];rfl));have aA:=(aG ib 39).trans (lO ok (i:=2) (x:=a2) (by rw[am];rfl));have aE:=(aG ib 40).trans (lO ok (i:=3) (x:=a3) (by rw[am];rfl));simp[go_sem,fG,aI,aA,aE];generalize ET:([UInt8.ofNat p.k,UInt8.ofNat p.l]++bX p.o 2++bX p.f 4++bX p.b 8++p.h)=ys at aci;refine du (λJ f bE=>∃k,k<=4/\J=4 - k/\f 5=.int .i64 ((n+64:Nat):Int)/\f 33=.agg #[.int .u16 a0,.int .u16 a1,.int .u16 a2,.int .u16 a3]/\f 34=.int .i64 k/\hZ ai v n l (2+2+4+8+32+2*k) (ys++(p.a.take k).flatMap (λx=>bX x 2)) (f 0) bE) 4
  ⟨0,by omega,rfl,by simp,by simp,by simp,by simpa using aci⟩ ?_
 rintro cJ bK _ f bE ⟨k,r,rfl,fD,ama,acj,aB⟩;by_cases fs:k<4
 ·obtain⟨x,M,zS,lr⟩:∃x,p.a[k]? =some x/\#[Value.int .u16 a0,Value.int .u16 a1,Value.int .u16 a2,Value.int .u16 a3][k]? =some (.int .u16 x)/\x<65536:=by
   rw[am]
   match k,fs with
   |0,_=>exact⟨_,rfl,rfl,aO.1⟩
   |1,_=>exact⟨_,rfl,rfl,aO.2.1⟩
   |2,_=>exact⟨_,rfl,rfl,aO.2.2.1⟩
   |3,_=>exact⟨_,rfl,rfl,aO.2.2.2⟩
  have ea:(k:Int)<4:=by omega
  have mu:=λw=>Eo (P:=Tryz.prog) (kd:=.i64) Tryz.underlying42 Tryz.sizeOf39 Tryz.isAgg39 fs zS w;have eo:IntKind.i64.wrap ((k:Int)+1)=((k+1:Nat):Int):=by simp[IntKind.wrap_i64];omega
  simp[go_sem,ama,acj,ea,mu];refine(Rj (f 0) _ _ x bE lr (by omega) aB.1).mono ?_;intro sn eA rS;have aCq:=aB.trans rS;simp[go_sem,acj,eo];refine cH.intro (4 -(k+1)) (by omega) (bK _ _ _ ⟨k+1,by omega,rfl,by simpa using fD,by simp[ama],by simp,?_⟩);rw[List.take_add_one,M];simpa[Nat.mul_add,Nat.add_assoc]using aCq
 ·obtain rfl:k=4:=by omega
  simp[go_sem,acj,fD];rw[List.take_of_length_le (by rw[ok.a];omega)]at aB;have HJ:ys.length=48:=by rw[<-ET];simp[jC,ok.h]
  have ah2:(p.a.flatMap (λx=>bX x 2)).length=8:=by rw[am];simp[jC]
  refine(Rk (f 0) (n+(2+2+4+8+32+2*4)) _ ((n:Int)+64) bE (by omega) (by omega) (by simp only[List.length_append,HJ,ah2,al]) aB.1).mono ?_;intro v9 dC Mt;have GI:=aB.trans Mt;have lu:((n:Int)+64).toNat -(n+(2+2+4+8+32+2*4))=8:=by omega
  rw[lu]at GI;simp[go_sem];refine Z _ _ (hZ.from GG ?_);have ah:ys++p.a.flatMap (λx=>bX x 2)++List.replicate 8 0=jq p:=by
   rw[<-ET];simp only[jq,List.append_assoc]
  rw[ah]at GI;exact GI
def Es(a b:Nat):Bool:=decide (a=b)
theorem yI{a b:Nat}(h:a=b):Es a b=true:=decide_eq_true h
theorem xm{a b:Nat}(h:a≠b):Es a b=false:=decide_eq_false h
structure e' where
 gen:Nat
 top:Pt
 cO:Pt
def cz(x:e'):Array Value:=#[.int .u64 x.gen]++Y x.top++Y x.cO
structure gV(x:e'):Prop where
 gen:x.gen<18446744073709551616
 top:bN x.top
 cO:bN x.cO
theorem iQ{x:e'}(ok:gV x):(cz x).size=83:=by simp[cz,bW ok.top,bW ok.cO]
theorem zr{x:e'}(ok:gV x):(cz x).extract 0 83=cz x:=by rw[<-iQ ok];simp
theorem Sp{x:e'}(ok:gV x):(cz x).extract 42 83=Y x.cO:=by
 have H:(#[Value.int .u64 (x.gen:Int)]++Y x.top).size=42:=by simp[bW ok.top]
 unfold cz;rw[Array.extract_append,H];have I:=bW ok.cO;have af:(#[Value.int .u64 (x.gen:Int)]++Y x.top).extract 42 83=#[]:=Array.extract_eq_empty_of_le (by rw[H];omega);rw[af]
 simp_all
theorem qK(x:e'):jT (cz x)=true:=by
 unfold cz;refine yC (l:=(#[Value.int .u64 x.gen]++Y x.top++Y x.cO).toList) λu an=> ?_;simp only[Array.toList_append,List.mem_append]at an;have aH:∀{a:Array Value},jT a=true->∀u∈a.toList,u.oneCell'=true:=λh u an=>by
  unfold jT at h;exact Array.all_eq_true'.1 h u (by simpa using an)
 rcases an with(an|an)|an
 ·simp at an;rw[an];rfl
 ·exact aH (sN _) u an
 ·exact aH (sN _) u an
end Go.Proofs.YtoohkhcpboldjaaGreatDoor
