/- The document's Reader of wire, by value (Raw, Num, Noughts, End), as contracts on calls. No condition but on sizes. -/
import Derived.Test.YtoohkhcpboldjaaGreatDoorDfr
import Derived.Test.YtoohkhcpboldjaaGreatDoorWireB
set_option maxRecDepth 10000
set_option linter.unusedSimpArgs false
set_option linter.unusedVariables false
namespace Go.Proofs.YtoohkhcpboldjaaGreatDoor
open Go.RowKit Go.Kin Tryz
def mb(w:M):Prop:=∀i z,([0,1,2,2,2,2]:List Int)[i]? =some z->w.cell? (bl 0 i)=some (aa z)
theorem mb.ch{S:Nat->Prop}{w w':M}(h:mb w)(Z:H S w w')(aq:¬S 0):mb w':=λi z hz=>Z.cell (h i z hz) aq
theorem mb.lt{w:M}(h:mb w):0<w.1.size:=xC w _ (h 0 _ rfl)
def fE(k:Nat):Nat:=if k=0\/6<=k then 0 else if k=1 then 1 else 2
theorem am5(k:Nat)(w:M)(r:k<256)(ak:mb w):bc prog 131 #[.int .u8 k] w λv' w'=>v'=aa (fE k)/\w'=w:=by
 refine bz func131 ntmps131 λbk af=> ?_;have bM:IntKind.i64.wrap (k:Int)=k:=by simp[cz];omega
 by_cases cS:6<=k
 ·have TU:(6:Int)<=k:=by omega
  simp[go_sem,bM,TU];exact af _ _ ⟨by simp[fE,cS],rfl⟩
 ·have TU:¬(6:Int)<=k:=by omega
  have tb:=ak 0 _ rfl;have mx:=ak 1 _ rfl;have lh:=ak 2 _ rfl;have qL:=ak 3 _ rfl;have Jw:=ak 4 _ rfl;have aPP:=ak 5 _ rfl;have eo:(k:Int)<6:=by omega
  have eY:w.cell? (bl 0 k)=some (aa (fE k)):=by
   obtain rfl|rfl|rfl|rfl|rfl|rfl:k=0\/k=1\/k=2\/k=3\/k=4\/k=5:=by omega
   ·exact tb
   ·exact mx
   ·exact lh
   ·exact qL
   ·exact Jw
   ·exact aPP
  simp[go_sem,bM,TU,eo,eY];exact af _ _ ⟨rfl,rfl⟩
def Fp(n x y:Nat):Bool:=(x==y&&x !=0)||(n==1&&y !=0)
def Fo(p:Pt):Bool:=if p.k=3 then(p.l==1||p.l==2)else p.l==0
def jY(p:Pt):Bool:= !(Fp (fE p.k) (p.a.getD 0 0) (p.a.getD 1 0))&& !(Fp (fE p.k) (p.a.getD 2 0) (p.a.getD 3 0))&&(0<fE p.k&&Fo p&&p.a.any (·!=0))
theorem Qn{p:Pt}{a0 a1 a2 a3 n:Nat}(ao:p.a=[a0,a1,a2,a3])(aq:fE p.k=n):jY p=(!(Fp n a0 a1)&& !(Fp n a2 a3)&&(decide (0<n)&&Fo p&&p.a.any (·!=0))):=by
 subst aq;unfold jY;rw[ao];rfl
theorem DY(p:Pt)(w:M)(ok:cc p)(ak:mb w):bc prog 77 #[.agg (ae p)] w λv' w'=>v'=.bool (jY p)/\H al w w':=by
 obtain⟨a0,a1,a2,a3,ao,_⟩:=a4 ok;refine bz func77 ntmps77 λbk af=> ?_;simp[go_sem,Iu,FW];have ab:=cr w (.cells (ae p) 44);have Z:=(H.refl al w).alloc (.cells (ae p) 44);have fb:=ak.ch Z id;revert ab Z fb;generalize w.alloc (.cells (ae p) 44)=ai;generalize w.1.size=g;intro ab Z fb;have xG:=(aG ab 0).trans FW;have hB:=(aG ab 1).trans Iu;have gs:=(aG ab 37).trans (mS ok (i:=0) (x:=a0) (by rw[ao];rfl));have aY:=(aG ab 38).trans (mS ok (i:=1) (x:=a1) (by rw[ao];rfl));have aK:=(aG ab 39).trans (mS ok (i:=2) (x:=a2) (by rw[ao];rfl));have aI:=(aG ab 40).trans (mS ok (i:=3) (x:=a3) (by rw[ao];rfl));refine Jf (λf u=>f 1=az g/\f 3=.bool (Fo p)/\u=ai) ?_ ?_
 ·by_cases ag:p.k=3
  ·have t_:((p.k:Int)==3)=true:=by simp;omega
   by_cases J:p.l=1
   ·have mi:((p.l:Int)==1)=true:=by simp;omega
    simp[go_sem,t_,hB,mi,Fo,ag,J]
   ·have mi:((p.l:Int)==1)=false:=by simp;omega
    have k':((p.l:Int)==2)=(p.l==2):=by
     by_cases T:p.l=2
     ·simp[T]
     ·grind
    simp[go_sem,t_,hB,mi,k',Fo,ag,J]
  ·have t_:((p.k:Int)==3)=false:=by simp;omega
   have tx:((p.l:Int)==0)=(p.l==0):=by
    by_cases T:p.l=0
    ·simp[T]
    ·grind
   simp[go_sem,t_,tx,Fo,ag]
 rintro f _ ⟨aL,dB,rfl⟩;simp[go_sem,aL,xG];refine(am5 p.k _ ok.k fb).mono ?_;rintro _ ai ⟨rfl,rfl⟩;simp[go_sem,aL,gs,aY,aK,aI];generalize aq:fE p.k=n;refine di (λV f bI=>∃k,k<=2/\V=2 - k/\f 1=az g/\f 3=.bool (Fo p)/\f 4=aa n/\f 38=.agg #[.int .u16 a0,.int .u16 a1,.int .u16 a2,.int .u16 a3]/\f 39=aa k/\
   (0<k->Fp n a0 a1=false)/\(1<k->Fp n a2 a3=false)/\H al w bI/\bI.1[g]? =some (.cells (ae p) 44 (0,0))) 2
  ⟨0,by omega,rfl,by simp[aL],by simp[dB],by simp,by simp,by simp,by simp,by simp,Z,ab⟩ ?_
 have JQ:∀x y:Nat,Fp n x y=((((x:Int)==(y:Int))&& !((x:Int)==0))||(((n:Int)==1)&& !((y:Int)==0))):=λx y=>by
  have q:∀a b:Nat,((a:Int)==(b:Int))=(a==b):=λa b=>by
   grind
  have fa:∀a:Nat,((a:Int)==0)=(a==0):=λa=>q a 0;have hf:∀a:Nat,((a:Int)==1)=(a==1):=λa=>q a 1;rw[q,fa,fa,hf];rfl
 have aPQ:∀w,(Instr.index 269 (.agg #[.int .u16 a0,.int .u16 a1,.int .u16 a2,.int .u16 a3]) (aa 0)).run prog w=.ok (.agg #[.int .u16 a0,.int .u16 a1]) w:=λw=>by
  rfl
 have aPR:∀w,(Instr.index 269 (.agg #[.int .u16 a0,.int .u16 a1,.int .u16 a2,.int .u16 a3]) (aa 1)).run prog w=.ok (.agg #[.int .u16 a2,.int .u16 a3]) w:=λw=>by
  rfl
 rintro bq bW _ f bI ⟨k,r,rfl,dc,ew,iB,ack,Om,qe,gT,wq,qE⟩;obtain rfl|rfl|rfl:k=0\/k=1\/k=2:=by omega
 ·simp[go_sem,ack,Om,aPQ];have WR:=wq.alloc (.cells #[.int .u16 a0,.int .u16 a1] 268);have akH:=((H.refl al bI).alloc (.cells #[.int .u16 a0,.int .u16 a1] 268)).obj qE id;have uv:=JQ a0 a1
  cases cZ:((a0:Int)==(a1:Int))<;>cases dm:((a0:Int)==0)<;>cases fm:((n:Int)==1)<;>cases ht:((a1:Int)==0)<;>rw[cZ,dm,fm,ht]at uv<;>simp at uv<;>simp[go_sem,bne,cZ,dm,fm,ht,iB,Om]
  all_goals first
   |exact af _ _ ⟨by rw[Qn ao aq,uv];simp,WR⟩
   |exact ct.intro 1 (by omega) (bW _ _ _ ⟨1,by omega,rfl,by simp[dc],by simp[ew],by simp[iB],by simp[ack],by simp[cz],λ_=>uv,λh=>absurd h (by omega),WR,akH⟩)
 ·simp[go_sem,ack,Om,aPR];have WR:=wq.alloc (.cells #[.int .u16 a2,.int .u16 a3] 268);have akH:=((H.refl al bI).alloc (.cells #[.int .u16 a2,.int .u16 a3] 268)).obj qE id;have uv:=JQ a2 a3
  cases cZ:((a2:Int)==(a3:Int))<;>cases dm:((a2:Int)==0)<;>cases fm:((n:Int)==1)<;>cases ht:((a3:Int)==0)<;>rw[cZ,dm,fm,ht]at uv<;>simp at uv<;>simp[go_sem,bne,cZ,dm,fm,ht,iB,Om]
  all_goals first
   |exact af _ _ ⟨by rw[Qn ao aq,uv];simp,WR⟩
   |exact ct.intro 0 (by omega) (bW _ _ _ ⟨2,by omega,rfl,by simp[dc],by simp[ew],by simp[iB],by simp[ack],by simp[cz],λ_=>qe (by omega),λ_=>uv,WR,akH⟩)
 ·have aPS:=qe (by omega);have CC:=gT (by omega);have aC:jY p=(decide (0<n)&&Fo p&&p.a.any (·!=0)):=by rw[Qn ao aq,aPS,CC];rfl
  by_cases qV:0<n
  ·have acl:(0:Int)<n:=by omega
   cases hU:Fo p
   ·simp[go_sem,Om,ew,iB,qV,acl,hU];exact af _ _ ⟨by rw[aC,hU];simp,wq⟩
   ·simp[go_sem,dc,Om,ew,iB,qV,acl,hU,qE,cd ok,ef ok];refine(ayq p bI ok).mono ?_;rintro _ aJ ⟨rfl,aI⟩;simp[go_sem];exact af _ _ ⟨by grind,wq.trans aI⟩
  ·have acl:¬(0:Int)<n:=by omega
   simp[go_sem,Om,ew,iB,qV,acl];exact af _ _ ⟨by grind,wq⟩
def em:List UInt8->Nat
 |[]=>0
 |c::l=>c.toNat+256*em l
theorem FT(l:List UInt8):em l<256^l.length:=by
 induction l with
 |nil=>simp[em]
 |cons c l bL=>
  have:=c.toNat_lt;simp only[em,qK,Ee];omega
theorem aPT(l:List UInt8)(c:UInt8):em (l++[c])=em l+c.toNat*256^l.length:=by
 induction l with
 |nil=>simp[em]
 |cons d l bL=>simp only[acT,em,bL,qK,Ee,BY];grind
theorem acm(l:List UInt8)(c:UInt8):em l|||c.toNat*256^l.length=em (l++[c]):=by
 rw[aPT,Nat.or_comm,Nat.add_comm];have h:256^l.length=2^(8*l.length):=by rw[Sr]
 have T:=FT l;rw[h]at T⊢;rw[<-Nat.shiftLeft_eq,Nat.shiftLeft_add_eq_or_of_lt T]
theorem Py(l:List UInt8)(e:Int)(n:Nat):(dg l e n).1.length<=n:=by
 unfold dg
 grind
theorem aPU(l:List UInt8)(e:Int)(n:Nat):(dg l e n).1.length<=l.length:=by
 unfold dg
 grind
theorem vd(bd a:Nat)(h:a<2^bd):(BitVec.ofInt bd (a:Int)).toNat=a:=by
 grind
theorem aPV(m c i:Nat)(aC:m<256)(h:c*256^i<256)(ad:i<=8):bits .or .u8 (m:Int) (IntKind.u8.wrap ((c:Int)*2^(IntKind.i64.wrap (8*(i:Int))).toNat))=((m|||c*256^i:Nat):Int):=by
 have J:IntKind.i64.wrap (8*(i:Int))=((8*i:Nat):Int):=by rw[cz];omega
 have T:(c:Int)*2^(8*i)=((c*256^i:Nat):Int):=by rw[show(256:Nat)=2^8 from rfl,<-Sr];simp
 have ag:IntKind.u8.wrap ((c*256^i:Nat):Int)=((c*256^i:Nat):Int):=by rw[Gh];omega
 rw[J,Ca,T,ag];generalize c*256^i=b at*;have W:m|||b<2^8:=BZ (by omega) (by omega);show IntKind.u8.wrap ((BitVec.ofInt 8 (m:Int)|||BitVec.ofInt 8 (b:Int)).toNat:Int)=_;rw[BitVec.toNat_or,vd 8 m (by omega),vd 8 b (by omega),Gh];omega
theorem aPW(g:Nat){o:Nat}(l:List UInt8)(e:Int)(wide:Nat)(w:M)(bM:wide<=1)(ak:l.length<=1000000000)(h:hH w g o l e):
  bc prog 221 #[az g,aa wide] w λv' w'=>
   v'=.int .u8 (em (dg l e wide).1)/\hH w' g o (dg l e wide).2.1 (dg l e wide).2.2/\H (only g) w w':=by
 refine bz func221 ntmps221 λbk af=> ?_;simp[go_sem];refine(Iv g l e wide w (by omega) ak h).mono ?_;rintro fY ai ⟨bn,bh,bA,ex⟩;simp only[Ca]at bn bA;have KN:=Py l e wide;generalize(dg l e wide).1=V at*;have cu:=(bC.fF bn).len underlying101 3;simp[go_sem,cu];refine di (λq f bI=>∃k:Nat,k<=V.length/\q=V.length - k/\f 10=fY/\f 11=aa V.length/\f 12=aa k/\f 5=.int .u8 (em (V.take k))/\bI=ai) V.length ⟨0,gG _,rfl,by simp,by simp,by simp,by simp[em],rfl⟩ ?_;rintro cQ bJ _ f _ ⟨k,r,rfl,ix,lY,jW,bH,rfl⟩;simp[go_sem,lY,jW];refine Ip (λaO=> ?_) (λpe=> ?_)
 ·obtain⟨a,ao,Z,_⟩:=(bC.fF bn).at lE (eO V) (i:=k) (u:=ce (V[k]'aO)) (by simp[br,aO]);unfold ce at Z;have IV:=(V[k]'aO).toNat_lt;have ux:(V.take k).length=k:=by simp;omega
  have DQ:=acm (V.take k) (V[k]'aO);have iX:V.take k++[V[k]'aO]=V.take (k+1):=by simp_all
  rw[iX,ux]at DQ;have lO:=FT (V.take k);rw[ux]at lO;generalize(V[k]'aO).toNat=c at*;generalize aC:em (V.take k)=m at*;have On:256^(k+1)<=256:=dK (LC (by omega) (show k+1<=1 by omega)) (by decide);rw[Ee]at On;have fd:c*256^k<256:=gQ (XP (show c<256 from IV) (XQ (by simp))) (by omega);have ii:IntKind.u8.wrap (c:Int)=(c:Int):=by rw[Gh];omega
  have sm:0<=IntKind.i64.wrap (8*(k:Int))/\IntKind.i64.wrap (8*(k:Int))<=8:=by rw[cz];omega
  obtain⟨sm,dx⟩:=sm;have eS:=Lib.hid ((aPV m c k (by omega) fd (by omega)).trans (by rw[DQ]));simp[go_sem,ix,jW,ao,Z,bH];refine ct.intro (V.length -(k+1)) (by omega) (bJ _ _ _ ⟨k+1,by omega,rfl,by simpa using ix,by simpa using lY,by simp[cz];omega,?_,rfl⟩);simp;exact eS.out
 ·obtain rfl:k=V.length:=by omega
  simp[go_sem,bH];exact af _ _ ⟨rfl,bA,ex⟩
theorem aPX(m c i:Nat)(aC:m<65536)(h:c*256^i<65536)(ad:i<=8):bits .or .u16 (m:Int) (IntKind.u16.wrap ((c:Int)*2^(IntKind.i64.wrap (8*(i:Int))).toNat))=((m|||c*256^i:Nat):Int):=by
 have J:IntKind.i64.wrap (8*(i:Int))=((8*i:Nat):Int):=by rw[cz];omega
 have T:(c:Int)*2^(8*i)=((c*256^i:Nat):Int):=by rw[show(256:Nat)=2^8 from rfl,<-Sr];simp
 have ag:IntKind.u16.wrap ((c*256^i:Nat):Int)=((c*256^i:Nat):Int):=by rw[ON];omega
 rw[J,Ca,T,ag];generalize c*256^i=b at*;have W:m|||b<2^16:=BZ (by omega) (by omega);show IntKind.u16.wrap ((BitVec.ofInt 16 (m:Int)|||BitVec.ofInt 16 (b:Int)).toNat:Int)=_;rw[BitVec.toNat_or,vd 16 m (by omega),vd 16 b (by omega),ON];omega
theorem aPY(g:Nat){o:Nat}(l:List UInt8)(e:Int)(wide:Nat)(w:M)(bM:wide<=2)(ak:l.length<=1000000000)(h:hH w g o l e):
  bc prog 167 #[az g,aa wide] w λv' w'=>
   v'=.int .u16 (em (dg l e wide).1)/\hH w' g o (dg l e wide).2.1 (dg l e wide).2.2/\H (only g) w w':=by
 refine bz func167 ntmps167 λbk af=> ?_;simp[go_sem];refine(Iv g l e wide w (by omega) ak h).mono ?_;rintro fY ai ⟨bn,bh,bA,ex⟩;simp only[Ca]at bn bA;have KN:=Py l e wide;generalize(dg l e wide).1=V at*;have cu:=(bC.fF bn).len underlying101 3;simp[go_sem,cu];refine di (λq f bI=>∃k:Nat,k<=V.length/\q=V.length - k/\f 10=fY/\f 11=aa V.length/\f 12=aa k/\f 5=.int .u16 (em (V.take k))/\bI=ai) V.length ⟨0,gG _,rfl,by simp,by simp,by simp,by simp[em],rfl⟩ ?_;rintro cQ bJ _ f _ ⟨k,r,rfl,ix,lY,jW,bH,rfl⟩;simp[go_sem,lY,jW];refine Ip (λaO=> ?_) (λpe=> ?_)
 ·obtain⟨a,ao,Z,_⟩:=(bC.fF bn).at lE (eO V) (i:=k) (u:=ce (V[k]'aO)) (by simp[br,aO]);unfold ce at Z;have IV:=(V[k]'aO).toNat_lt;have ux:(V.take k).length=k:=by simp;omega
  have DQ:=acm (V.take k) (V[k]'aO);have iX:V.take k++[V[k]'aO]=V.take (k+1):=by simp_all
  rw[iX,ux]at DQ;have lO:=FT (V.take k);rw[ux]at lO;generalize(V[k]'aO).toNat=c at*;generalize aC:em (V.take k)=m at*;have On:256^(k+1)<=65536:=dK (LC (by omega) (show k+1<=2 by omega)) (by decide);rw[Ee]at On;have fd:c*256^k<65536:=gQ (XP (show c<256 from IV) (XQ (by simp))) (by omega);have ii:IntKind.u16.wrap (c:Int)=(c:Int):=by rw[ON];omega
  have sm:0<=IntKind.i64.wrap (8*(k:Int))/\IntKind.i64.wrap (8*(k:Int))<=16:=by rw[cz];omega
  obtain⟨sm,dx⟩:=sm;have eS:=Lib.hid ((aPX m c k (by omega) fd (by omega)).trans (by rw[DQ]));simp[go_sem,ix,jW,ao,Z,bH,ii];refine ct.intro (V.length -(k+1)) (by omega) (bJ _ _ _ ⟨k+1,by omega,rfl,by simpa using ix,by simpa using lY,by simp[cz];omega,?_,rfl⟩);simp;exact eS.out
 ·obtain rfl:k=V.length:=by omega
  simp[go_sem,bH];exact af _ _ ⟨rfl,bA,ex⟩
theorem aPZ(m c i:Nat)(aC:m<4294967296)(h:c*256^i<4294967296)(ad:i<=8):bits .or .u32 (m:Int) (IntKind.u32.wrap ((c:Int)*2^(IntKind.i64.wrap (8*(i:Int))).toNat))=((m|||c*256^i:Nat):Int):=by
 have J:IntKind.i64.wrap (8*(i:Int))=((8*i:Nat):Int):=by rw[cz];omega
 have T:(c:Int)*2^(8*i)=((c*256^i:Nat):Int):=by rw[show(256:Nat)=2^8 from rfl,<-Sr];simp
 have ag:IntKind.u32.wrap ((c*256^i:Nat):Int)=((c*256^i:Nat):Int):=by rw[ve];omega
 rw[J,Ca,T,ag];generalize c*256^i=b at*;have W:m|||b<2^32:=BZ (by omega) (by omega);show IntKind.u32.wrap ((BitVec.ofInt 32 (m:Int)|||BitVec.ofInt 32 (b:Int)).toNat:Int)=_;rw[BitVec.toNat_or,vd 32 m (by omega),vd 32 b (by omega),ve];omega
theorem aP0(g:Nat){o:Nat}(l:List UInt8)(e:Int)(wide:Nat)(w:M)(bM:wide<=4)(ak:l.length<=1000000000)(h:hH w g o l e):
  bc prog 222 #[az g,aa wide] w λv' w'=>
   v'=.int .u32 (em (dg l e wide).1)/\hH w' g o (dg l e wide).2.1 (dg l e wide).2.2/\H (only g) w w':=by
 refine bz func222 ntmps222 λbk af=> ?_;simp[go_sem];refine(Iv g l e wide w (by omega) ak h).mono ?_;rintro fY ai ⟨bn,bh,bA,ex⟩;simp only[Ca]at bn bA;have KN:=Py l e wide;generalize(dg l e wide).1=V at*;have cu:=(bC.fF bn).len underlying101 3;simp[go_sem,cu];refine di (λq f bI=>∃k:Nat,k<=V.length/\q=V.length - k/\f 10=fY/\f 11=aa V.length/\f 12=aa k/\f 5=.int .u32 (em (V.take k))/\bI=ai) V.length ⟨0,gG _,rfl,by simp,by simp,by simp,by simp[em],rfl⟩ ?_;rintro cQ bJ _ f _ ⟨k,r,rfl,ix,lY,jW,bH,rfl⟩;simp[go_sem,lY,jW];refine Ip (λaO=> ?_) (λpe=> ?_)
 ·obtain⟨a,ao,Z,_⟩:=(bC.fF bn).at lE (eO V) (i:=k) (u:=ce (V[k]'aO)) (by simp[br,aO]);unfold ce at Z;have IV:=(V[k]'aO).toNat_lt;have ux:(V.take k).length=k:=by simp;omega
  have DQ:=acm (V.take k) (V[k]'aO);have iX:V.take k++[V[k]'aO]=V.take (k+1):=by simp_all
  rw[iX,ux]at DQ;have lO:=FT (V.take k);rw[ux]at lO;generalize(V[k]'aO).toNat=c at*;generalize aC:em (V.take k)=m at*;have On:256^(k+1)<=4294967296:=dK (LC (by omega) (show k+1<=4 by omega)) (by decide);rw[Ee]at On;have fd:c*256^k<4294967296:=gQ (XP (show c<256 from IV) (XQ (by simp))) (by omega);have ii:IntKind.u32.wrap (c:Int)=(c:Int):=by rw[ve];omega
  have sm:0<=IntKind.i64.wrap (8*(k:Int))/\IntKind.i64.wrap (8*(k:Int))<=32:=by rw[cz];omega
  obtain⟨sm,dx⟩:=sm;have eS:=Lib.hid ((aPZ m c k (by omega) fd (by omega)).trans (by rw[DQ]));simp[go_sem,ix,jW,ao,Z,bH,ii];refine ct.intro (V.length -(k+1)) (by omega) (bJ _ _ _ ⟨k+1,by omega,rfl,by simpa using ix,by simpa using lY,by simp[cz];omega,?_,rfl⟩);simp;exact eS.out
 ·obtain rfl:k=V.length:=by omega
  simp[go_sem,bH];exact af _ _ ⟨rfl,bA,ex⟩
theorem aP1(m c i:Nat)(aC:m<18446744073709551616)(h:c*256^i<18446744073709551616)(ad:i<=8):bits .or .u64 (m:Int) (IntKind.u64.wrap ((c:Int)*2^(IntKind.i64.wrap (8*(i:Int))).toNat))=((m|||c*256^i:Nat):Int):=by
 have J:IntKind.i64.wrap (8*(i:Int))=((8*i:Nat):Int):=by rw[cz];omega
 have T:(c:Int)*2^(8*i)=((c*256^i:Nat):Int):=by rw[show(256:Nat)=2^8 from rfl,<-Sr];simp
 have ag:IntKind.u64.wrap ((c*256^i:Nat):Int)=((c*256^i:Nat):Int):=by rw[tg];omega
 rw[J,Ca,T,ag];generalize c*256^i=b at*;have W:m|||b<2^64:=BZ (by omega) (by omega);show IntKind.u64.wrap ((BitVec.ofInt 64 (m:Int)|||BitVec.ofInt 64 (b:Int)).toNat:Int)=_;rw[BitVec.toNat_or,vd 64 m (by omega),vd 64 b (by omega),tg];omega
theorem aP2(g:Nat){o:Nat}(l:List UInt8)(e:Int)(wide:Nat)(w:M)(bM:wide<=8)(ak:l.length<=1000000000)(h:hH w g o l e):
  bc prog 165 #[az g,aa wide] w λv' w'=>
   v'=.int .u64 (em (dg l e wide).1)/\hH w' g o (dg l e wide).2.1 (dg l e wide).2.2/\H (only g) w w':=by
 refine bz func165 ntmps165 λbk af=> ?_;simp[go_sem];refine(Iv g l e wide w (by omega) ak h).mono ?_;rintro fY ai ⟨bn,bh,bA,ex⟩;simp only[Ca]at bn bA;have KN:=Py l e wide;generalize(dg l e wide).1=V at*;have cu:=(bC.fF bn).len underlying101 3;simp[go_sem,cu];refine di (λq f bI=>∃k:Nat,k<=V.length/\q=V.length - k/\f 10=fY/\f 11=aa V.length/\f 12=aa k/\f 5=.int .u64 (em (V.take k))/\bI=ai) V.length ⟨0,gG _,rfl,by simp,by simp,by simp,by simp[em],rfl⟩ ?_;rintro cQ bJ _ f _ ⟨k,r,rfl,ix,lY,jW,bH,rfl⟩;simp[go_sem,lY,jW];refine Ip (λaO=> ?_) (λpe=> ?_)
 ·obtain⟨a,ao,Z,_⟩:=(bC.fF bn).at lE (eO V) (i:=k) (u:=ce (V[k]'aO)) (by simp[br,aO]);unfold ce at Z;have IV:=(V[k]'aO).toNat_lt;have ux:(V.take k).length=k:=by simp;omega
  have DQ:=acm (V.take k) (V[k]'aO);have iX:V.take k++[V[k]'aO]=V.take (k+1):=by simp_all
  rw[iX,ux]at DQ;have lO:=FT (V.take k);rw[ux]at lO;generalize(V[k]'aO).toNat=c at*;generalize aC:em (V.take k)=m at*;have On:256^(k+1)<=18446744073709551616:=dK (LC (by omega) (show k+1<=8 by omega)) (by decide);rw[Ee]at On;have fd:c*256^k<18446744073709551616:=gQ (XP (show c<256 from IV) (XQ (by simp))) (by omega);have ii:IntKind.u64.wrap (c:Int)=(c:Int):=by rw[tg];omega
  have sm:0<=IntKind.i64.wrap (8*(k:Int))/\IntKind.i64.wrap (8*(k:Int))<=64:=by rw[cz];omega
  obtain⟨sm,dx⟩:=sm;have eS:=Lib.hid ((aP1 m c k (by omega) fd (by omega)).trans (by rw[DQ]));simp[go_sem,ix,jW,ao,Z,bH,ii];refine ct.intro (V.length -(k+1)) (by omega) (bJ _ _ _ ⟨k+1,by omega,rfl,by simpa using ix,by simpa using lY,by simp[cz];omega,?_,rfl⟩);simp;exact eS.out
 ·obtain rfl:k=V.length:=by omega
  simp[go_sem,bH];exact af _ _ ⟨rfl,bA,ex⟩
theorem act(g:Nat){o:Nat}(l:List UInt8)(e:Int)(w:M)(ak:l.length<=1000000000)(h:hH w g o l e):
  bc prog 187 #[az g] w λv' w'=>
   v'=.int .u8 (em (dg l e 1).1)/\hH w' g o (dg l e 1).2.1 (dg l e 1).2.2/\H (only g) w w':=by
 refine bz func187 ntmps187 λbk af=> ?_;simp[go_sem];refine(aPW g l e 1 w (by omega) ak h).mono ?_;rintro fY ai ⟨rfl,bn,bh⟩;simp[go_sem];exact af _ _ ⟨rfl,bn,bh⟩
theorem Xc(g:Nat){o:Nat}(l:List UInt8)(e:Int)(w:M)(ak:l.length<=1000000000)(h:hH w g o l e):
  bc prog 116 #[az g] w λv' w'=>
   v'=.int .u16 (em (dg l e 2).1)/\hH w' g o (dg l e 2).2.1 (dg l e 2).2.2/\H (only g) w w':=by
 refine bz func116 ntmps116 λbk af=> ?_;simp[go_sem];refine(aPY g l e 2 w (by omega) ak h).mono ?_;rintro fY ai ⟨rfl,bn,bh⟩;simp[go_sem];exact af _ _ ⟨rfl,bn,bh⟩
theorem akV(g:Nat){o:Nat}(l:List UInt8)(e:Int)(w:M)(ak:l.length<=1000000000)(h:hH w g o l e):
  bc prog 188 #[az g] w λv' w'=>
   v'=.int .u32 (em (dg l e 4).1)/\hH w' g o (dg l e 4).2.1 (dg l e 4).2.2/\H (only g) w w':=by
 refine bz func188 ntmps188 λbk af=> ?_;simp[go_sem];refine(aP0 g l e 4 w (by omega) ak h).mono ?_;rintro fY ai ⟨rfl,bn,bh⟩;simp[go_sem];exact af _ _ ⟨rfl,bn,bh⟩
theorem acu(g:Nat){o:Nat}(l:List UInt8)(e:Int)(w:M)(ak:l.length<=1000000000)(h:hH w g o l e):
  bc prog 114 #[az g] w λv' w'=>
   v'=.int .u64 (em (dg l e 8).1)/\hH w' g o (dg l e 8).2.1 (dg l e 8).2.2/\H (only g) w w':=by
 refine bz func114 ntmps114 λbk af=> ?_;simp[go_sem];refine(aP2 g l e 8 w (by omega) ak h).mono ?_;rintro fY ai ⟨rfl,bn,bh⟩;simp[go_sem];exact af _ _ ⟨rfl,bn,bh⟩
def qM(l:List UInt8):Bool:=l.any λc=>c !=0
def we(l:List UInt8)(e:Int)(n:Nat):List UInt8×Int:=
 if qM (dg l e n).1 then om (dg l e n).2.1 (dg l e n).2.2 5 else(dg l e n).2
theorem aP3(l:List UInt8)(c:UInt8):qM (l++[c])=(qM l||c !=0):=by simp[qM]
theorem aP4(l:List UInt8)(e:Int):om (om l e 5).1 (om l e 5).2 5=om l e 5:=by
 unfold om
 grind
theorem Xf(g:Nat){o:Nat}(l:List UInt8)(e:Int)(n:Int)(w:M)(aq:n<=9223372036854775807)(ak:l.length<=1000000000)(h:hH w g o l e):
  bc prog 134 #[az g,aa n] w λv' w'=>
   v'=.tuple #[]/\hH w' g o (we l e n.toNat).1 (we l e n.toNat).2/\H (only g) w w':=by
 refine bz func134 ntmps134 λbk af=> ?_;simp[go_sem];refine(Iv g l e n w aq ak h).mono ?_;have aH:=h.lt;rintro fY ai ⟨bn,bh,bA,ex⟩;unfold we at af;have ah0:=dK (aPU l e n.toNat) ak;generalize dg l e n.toNat=st at*;obtain⟨V,nx,ek⟩:=st;simp only at bn bA af ah0;have cu:=(bC.fF bn).len underlying101 3;simp[go_sem,cu];refine di (λq f bI=>∃k:Nat,k<=V.length/\q=V.length - k/\f 0=az g/\f 8=fY/\f 9=aa V.length/\f 10=aa k/\
   (∃st,st=(if qM (V.take k)then om nx ek 5 else(nx,ek))/\hH bI g o st.1 st.2)/\H (only g) ai bI) V.length
  ⟨0,gG _,rfl,by simp,by simp,by simp,by simp,⟨_,rfl,by simpa[qM]using bA⟩,H.refl _ _⟩ ?_
 rintro cQ bJ _ f bI ⟨k,r,rfl,bi,er,ir,ix,⟨st,eS,ax⟩,Z⟩;simp[go_sem,ir,ix];refine Ip (λaO=> ?_) (λpe=> ?_)
 ·have fG:=gu bn Z λj I (e:j=g)=>by
   have:=bh j I;omega
  obtain⟨a,ao,mR,_⟩:=(bC.fF fG).at lE (eO V) (i:=k) (u:=ce (V[k]'aO)) (by simp[br,aO]);unfold ce at mR;have iX:V.take (k+1)=V.take k++[V[k]'aO]:=by simp_all
  have ry:=aP3 (V.take k) (V[k]'aO);rw[<-iX]at ry;have eS:=Lib.hid eS;by_cases hz:V[k]'aO=0
  ·have nR:(V[k]'aO).toNat=0:=by rw[hz];rfl
   rw[hz]at ry;have ry:=Lib.hid ry;simp[go_sem,er,ix,ao,mR,nR];refine ct.intro (V.length -(k+1)) (by omega) (bJ _ _ _ ⟨k+1,by omega,rfl,by simpa using bi,by simpa using er,by simpa using ir,by simp[cz];omega,⟨st,?_,ax⟩,Z⟩)
   grind
  ·have nR:(((V[k]'aO).toNat:Int)!=0)=true:=by
    simp;intro h;exact hz (by rw[<-UInt8.toNat_inj];exact h)
   have ju:(V[k]'aO !=0)=true:=by simpa using hz
   rw[ju]at ry;have ry:=Lib.hid ry;clear ju;simp[go_sem,bi,er,ix,ao,mR,nR];refine(acB g _ _ bI ax).mono ?_;rintro hk an ⟨rfl,bt,cY⟩;simp[go_sem,ix];refine ct.intro (V.length -(k+1)) (by omega) (bJ _ _ _ ⟨k+1,by omega,rfl,by simpa using bi,by simpa using er,by simpa using ir,by simp[cz];omega,⟨_,?_,bt⟩,Z.trans cY⟩);rw[eS.out,ry.out];simp;split
   ·exact aP4 _ _
   ·rfl
 ·obtain rfl:k=V.length:=by omega
  simp[go_sem];rw[wm]at eS;rw[eS]at ax;exact af _ _ ⟨rfl,ax,ex.trans Z⟩
theorem adm{w:M}{e n:Nat}{v:N}{xs:List N}(h:w.ownsRow 0 e 1 v n xs):∀k,v.ownBlock=some k->k<w.1.size:=by
 intro k r;rcases h.2 with⟨aM,bi⟩|⟨g,cap,dF,aM,_,ab,_⟩
 ·rw[aM]at r;simp[Value.ownBlock]at r
 ·rw[aM]at r;simp[Value.ownBlock]at r
  grind
theorem jc.trans{w ai an:M}{v fY hk:N}{n m m':Nat}{xs ys zs:List UInt8}(h:jc w v n xs m ys fY ai)(k:jc ai fY (n+m) (xs++ys) m' zs hk an):jc w v n xs (m+m') (ys++zs) hk an:=by
 refine⟨?_,h.2.1.bZ k.2.1 λj I e=> ?_,?_⟩
 ·have:=k.1
  grind
 ·rcases h.2.2 with ag|ag
  ·rw[<-ag];exact e
  ·have:=ag j e;omega
 ·rcases k.2.2 with bA|bA
  ·rcases h.2.2 with ag|ag
   ·exact .inl (bA.trans ag)
   ·exact .inr λj I=>ag j (by rw[<-bA];exact I)
  ·exact .inr (bA.mono h.2.1.size)
theorem jc.from{w w0 ai:M}{v fY:N}{n m:Nat}{xs ys:List UInt8}(Z:H al w w0)(h:jc w0 v n xs m ys fY ai):jc w v n xs m ys fY ai:=
 ⟨h.1,(Z.mono λ_ _ e=>e.elim).trans h.2.1,h.2.2.imp id λk=>k.mono Z.size⟩
def kf(p:Pt):List UInt8:=[UInt8.ofNat p.k,UInt8.ofNat p.l]++(ci p.o 2++(ci p.f 4++(ci p.b 8++(p.h++(p.a.flatMap (λx=>ci x 2)++List.replicate 8 0)))))
theorem XW(v:N)(n:Nat)(l:List UInt8)(p:Pt)(w:M)(ok:cc p)(aq:n<=1000000)(ak:l.length=n)(fG:w.ownsRow 0 5 1 v n (br l)):
  bc prog 185 #[v,.agg (ae p)] w (jc w v n l 64 (kf p)):=by
 obtain⟨a0,a1,a2,a3,ao,aO⟩:=a4 ok;have hU:=adm fG;have cu:=bC.len (bC.fF fG) underlying101 3;have dx:IntKind.i64.wrap ((n:Int)+64)=((n+64:Nat):Int):=by simp[cz];omega
 refine bz func185 ntmps185 λbk af=> ?_;simp[go_sem,cu,dx];have ab:=cr w (.cells (ae p) 44);have Z:=(H.refl al w).alloc (.cells (ae p) 44);have LK:=fG.alloc (.cells (ae p) 44);revert ab Z LK;generalize w.alloc (.cells (ae p) 44)=ai;generalize aH:w.1.size=g;intro ab Z LK;have xG:=(aG ab 0).trans FW;have hB:=(aG ab 1).trans Iu;have aaL:=(aG ab 2).trans acr;refine cT [F 0,F 1,F 2,F 3,F 4,F 7,F 8,(5,some [0,7,8]),(6,some [7,8]),(9,some []),F 10] ?_;have hV:=((H.refl al ai).alloc (.cells #[.int .u8 p.k,.int .u8 p.l] 5)).drew;have aP5:=hV.cell aaL id;simp[go_sem,xG,hB,aaL,aP5];have au:(ai.alloc (.cells #[.int .u8 p.k,.int .u8 p.l] 5)).drew.1[ai.1.size]? =some (.cells #[.int .u8 p.k,.int .u8 p.l] 5 (0,0)):=by simp
 have LL:(ai.alloc (.cells #[.int .u8 p.k,.int .u8 p.l] 5)).drew.ownsRow 0 5 1 v n (br l):=LK.alloc _;have dm:=hV.am ab id;have LM:=Z.trans hV;revert au LL dm LM;generalize(ai.alloc (.cells #[.int .u8 p.k,.int .u8 p.l] 5)).drew=an;intro au LL dm LM;have ox:[Value.int .u8 p.k,.int .u8 p.l]=br [UInt8.ofNat p.k,UInt8.ofNat p.l]:=by
  have J:=ok.k;have T:=ok.l;simp[br,adn];omega
 refine Lx lE LL (y:=.slice (some ⟨ai.1.size,0,none⟩) 2 2) (m:=2) (ys:=br [UInt8.ofNat p.k,UInt8.ofNat p.l]) (bC.Gb au (c_ _) (by decide) (by rw[<-ox];rfl)) rfl (AB _) (by unfold maxLen;omega) (by omega) λv3 aJ ex fJ jZ=> ?_;have lm:jc an v n l 2 [UInt8.ofNat p.k,UInt8.ofNat p.l] v3 aJ:=⟨by rw[Gc];exact ex,fJ,jZ⟩;have fK:∀{v' w' m ys},jc an v n l m ys v' w'->w'.1[g]? =some (.cells (ae p) 44 (0,0)):=λh=>h.2.1.am dm λe=>by have:=hU _ e;omega
 have aP6:=(aG (fK lm) 2).trans acr;simp[go_sem,aP6];refine(Xk v3 (n+2) (l++[UInt8.ofNat p.k,UInt8.ofNat p.l]) p.o aJ ok.o (by omega) lm.1).mono ?_;intro v4 bs fQ;have nC:=lm.trans fQ;have cI:=fK nC;simp[go_sem];refine cT [F 0,F 1,F 2,F 4,F 5,(3,some [4,5]),(6,some []),F 7] ?_;have ado:=(aG cI 3).trans akS;have aP7:=(aG cI 4).trans WY;simp[go_sem,ado,aP7];refine(aln v4 _ _ p.f bs.drew ok.f (by omega) nC.1).mono ?_;intro v5 bD hw;have LN:=nC.trans (jc.from (H.refl al bs).drew hw);have aP8:=(aG (fK LN) 4).trans WY;simp[go_sem,aP8];refine(acF v5 _ _ p.b bD ok.b (by omega) LN.1).mono ?_;intro oy cD vj;have OV:=LN.trans vj;have gj:=fK OV;simp[go_sem];have zM:bC cD (.slice (some ⟨g,5,none⟩) 32 32) 32 (br p.h):=bC.Gb gj (c_ _) (by decide) (by simp[ae,ok.h,eO]);refine Lx lE OV.1 zM (by rw[eO];exact ok.h) (AB _) (by unfold maxLen;omega) (by omega) λah5 cE iB oN zB=> ?_;have akI:=OV.trans (ys:=_) (zs:=p.h) (m':=32) ⟨by rw[Gc];exact iB,oN,zB⟩;have kk:=fK akI;have gs:=(aG kk 37).trans (mS ok (i:=0) (x:=a0) (by rw[ao];rfl));have aY:=(aG kk 38).trans (mS ok (i:=1) (x:=a1) (by rw[ao];rfl));have aK:=(aG kk 39).trans (mS ok (i:=2) (x:=a2) (by rw[ao];rfl));have aI:=(aG kk 40).trans (mS ok (i:=3) (x:=a3) (by rw[ao];rfl));simp[go_sem,gs,aY,aK,aI];generalize MC:([UInt8.ofNat p.k,UInt8.ofNat p.l]++ci p.o 2++ci p.f 4++ci p.b 8++p.h)=ys at akI;refine di (λV f bI=>∃k,k<=4/\V=4 - k/\f 5=aa ((n+64:Nat):Int)/\f 33=.agg #[.int .u16 a0,.int .u16 a1,.int .u16 a2,.int .u16 a3]/\f 34=aa k/\jc an v n l (2+2+4+8+32+2*k) (ys++(p.a.take k).flatMap (λx=>ci x 2)) (f 0) bI) 4
  ⟨0,by omega,rfl,by simp,by simp,by simp,by simpa using akI⟩ ?_
 rintro cQ bJ _ f bI ⟨k,r,rfl,gL,awi,akJ,av⟩;by_cases gq:k<4
 ·obtain⟨x,W,Cu,lj⟩:∃x,p.a[k]? =some x/\#[Value.int .u16 a0,Value.int .u16 a1,Value.int .u16 a2,Value.int .u16 a3][k]? =some (.int .u16 x)/\x<65536:=by
   rw[ao]
   match k,gq with
   |0,_=>exact⟨_,rfl,rfl,aO.1⟩
   |1,_=>exact⟨_,rfl,rfl,aO.2.1⟩
   |2,_=>exact⟨_,rfl,rfl,aO.2.2.1⟩
   |3,_=>exact⟨_,rfl,rfl,aO.2.2.2⟩
  have eo:(k:Int)<4:=by omega
  have pB:=λw=>IF (P:=prog) (kd:=.i64) underlying42 Tryz.sizeOf39 Tryz.isAgg39 gq Cu w;have ej:IntKind.i64.wrap ((k:Int)+1)=((k+1:Nat):Int):=by simp[cz];omega
  simp[go_sem,awi,akJ,eo,pB];refine(Xk (f 0) _ _ x bI lj (by omega) av.1).mono ?_;intro rS ec ue;have aP9:=av.trans ue;simp[go_sem,akJ,ej];refine ct.intro (4 -(k+1)) (by omega) (bJ _ _ _ ⟨k+1,by omega,rfl,by simpa using gL,by simp[awi],by simp,?_⟩);rw[nA,W];simpa[BY,yH]using aP9
 ·obtain rfl:k=4:=by omega
  simp[go_sem,akJ,gL];rw[mP (by rw[ok.a];omega)]at av;have Em:ys.length=48:=by rw[<-MC];simp[ku,ok.h]
  have apF:(p.a.flatMap (λx=>ci x 2)).length=8:=by rw[ao];simp[ku]
  refine(Xl (f 0) (n+(2+2+4+8+32+2*4)) _ ((n:Int)+64) bI (by omega) (by omega) (by simp only[kR,Em,apF,ak]) av.1).mono ?_;intro v9 db Sy;have LO:=av.trans Sy;have nD:((n:Int)+64).toNat -(n+(2+2+4+8+32+2*4))=8:=by omega
  rw[nD]at LO;simp[go_sem];refine af _ _ (jc.from LM ?_);have am:ys++p.a.flatMap (λx=>ci x 2)++List.replicate 8 0=kf p:=by
   rw[<-MC];simp only[kf,nv]
  rw[am]at LO;exact LO
def IR(a b:Nat):Bool:=decide (a=b)
theorem Ci{a b:Nat}(h:a=b):IR a b=true:=ou h
theorem AJ{a b:Nat}(h:a≠b):IR a b=false:=vi h
end Go.Proofs.YtoohkhcpboldjaaGreatDoor
