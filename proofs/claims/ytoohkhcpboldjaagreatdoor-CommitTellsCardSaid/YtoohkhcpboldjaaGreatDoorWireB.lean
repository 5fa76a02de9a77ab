/- What package wire's Reader answers, as contracts on calls: a reader's block holds what is left and the first error. No condition but on sizes. -/
import Derived.Test.YtoohkhcpboldjaaGreatDoorChecked
import Derived.Test.YtoohkhcpboldjaaGreatDoorVee
set_option linter.unusedSimpArgs false
set_option linter.unusedVariables false
namespace Go.Proofs.YtoohkhcpboldjaaGreatDoor
open Go.RowKit Go.Kin Tryz
theorem lE:sd prog 101 5 (.int .u8 0) 1:=⟨underlying101,by kernel_rfl,rfl⟩
def ci:Nat->Nat->List UInt8
 |_,0=>[]
 |n,k+1=>UInt8.ofNat n::ci (n / 256) k
theorem le_succ(n k:Nat):ci n (k+1)=ci n k++[UInt8.ofNat (n / 256^k)]:=by
 induction k generalizing n with
 |zero=>simp[ci]
 |succ k bL=>rw[ci,bL (n / 256),ci,XO,Ee,Nat.mul_comm 256];rfl
theorem ku(n k:Nat):(ci n k).length=k:=by
 induction k generalizing n with
 |zero=>rfl
 |succ k bL=>simp[ci,bL]
theorem adn(n:Nat):ce (UInt8.ofNat n)=.int .u8 ((n%256:Nat):Int):=by simp[ce]
def jc(w:M)(v:N)(n:Nat)(xs:List UInt8)(m:Nat)(ys:List UInt8):N->M->Prop:=λv' w'=>
 w'.ownsRow 0 5 1 v' (n+m) (br (xs++ys))/\H (λj=>v.ownBlock=some j) w w'/\(v'.ownBlock=v.ownBlock\/gr w.1.size v')
theorem jc.refl{w:M}{v:N}{n:Nat}{xs:List UInt8}(h:w.ownsRow 0 5 1 v n (br xs)):jc w v n xs 0 [] v w:=⟨by simpa using h,H.refl _ _,.inl rfl⟩
theorem jc.one{w ai an:M}{v fY hk:N}{n m:Nat}{xs ys:List UInt8}{c:UInt8}{u:N}(h:jc w v n xs m ys fY ai)(ap:u=ce c)
  (J:an.ownsRow 0 5 1 hk (n+m+1) (br (xs++ys)++[u]))(T:H (λk=>fY.ownBlock=some k) ai an)(ag:hk.ownBlock=fY.ownBlock\/gr ai.1.size hk):jc w v n xs (m+1) (ys++[c]) hk an:=by
 subst ap;obtain⟨bn,bh,bA⟩:=h;refine⟨by rw[<-nv,Gc];exact J,bh.bZ T (λj I e=> ?_),?_⟩
 ·rcases bA with bA|bA
  ·rw[<-bA];exact e
  ·have:=bA j e;omega
 ·rcases ag with ag|ag
  ·rcases bA with bA|bA
   ·exact .inl (ag.trans bA)
   ·exact .inr λj I=>bA j (by rw[<-ag];exact I)
  ·exact .inr (ag.mono bh.size)
theorem aPI(v:N)(n:Nat)(xs:List UInt8)(x:Nat)(wide:Nat)(w:M)(W:x<65536)(bM:wide<=8)(aq:n<=1000000000)
  (fG:w.ownsRow 0 5 1 v n (br xs)):
  bc prog 207 #[v,.int .u16 x,aa wide] w (jc w v n xs wide (ci x wide)):=by
 refine bz func207 ntmps207 λbk af=> ?_;simp[go_sem];refine di (λV f bI=>∃k y:Nat,k<=wide/\V=wide - k/\y=x / 256^k/\f 7=aa wide/\f 8=aa k/\f 1=.int .u16 y/\jc w v n xs k (ci x k) (f 0) bI) wide ⟨0,x,gG _,rfl,by simp,by simp,by simp,by simp,jc.refl fG⟩ ?_;rintro cQ bJ _ f bI ⟨k,y,r,rfl,ar,fi,er,J,av⟩;have KP:y<65536:=by rw[ar];exact R_ (R' _ _) W
 have Ic:y / 256=x / 256^(k+1):=by rw[ar,XO,Ee]
 have eh:=le_succ x k;rw[<-ar]at eh;simp[go_sem,fi,er];refine Ip (λaO=> ?_) (λpe=> ?_)
 ·simp[go_sem,J];refine HP lE av.1 rfl (by unfold maxLen;omega) (by omega) λv' w' bn bh bA=> ?_;simp[go_sem,er,J];refine ct.intro (wide -(k+1)) (by omega) (bJ _ _ _ ⟨k+1,y / 256,by omega,rfl,Ic,by simpa using fi,by simp[cz];omega,by simp,?_⟩);rw[eh];exact av.one (by rfl) bn bh bA
 ·simp[go_sem];obtain rfl:k=wide:=by omega
  exact af _ _ av
theorem Xk(v:N)(n:Nat)(xs:List UInt8)(x:Nat)(w:M)(W:x<65536)(aq:n<=1000000000)
  (fG:w.ownsRow 0 5 1 v n (br xs)):
  bc prog 169 #[v,.int .u16 x] w (jc w v n xs 2 (ci x 2)):=by
 refine bz func169 ntmps169 λbk af=> ?_;simp[go_sem];refine(aPI v n xs x 2 _ W (by omega) aq fG).mono λv' w' h=> ?_;simp[go_sem];exact af _ _ h
theorem aPJ(v:N)(n:Nat)(xs:List UInt8)(x:Nat)(wide:Nat)(w:M)(W:x<4294967296)(bM:wide<=8)(aq:n<=1000000000)
  (fG:w.ownsRow 0 5 1 v n (br xs)):
  bc prog 248 #[v,.int .u32 x,aa wide] w (jc w v n xs wide (ci x wide)):=by
 refine bz func248 ntmps248 λbk af=> ?_;simp[go_sem];refine di (λV f bI=>∃k y:Nat,k<=wide/\V=wide - k/\y=x / 256^k/\f 7=aa wide/\f 8=aa k/\f 1=.int .u32 y/\jc w v n xs k (ci x k) (f 0) bI) wide ⟨0,x,gG _,rfl,by simp,by simp,by simp,by simp,jc.refl fG⟩ ?_;rintro cQ bJ _ f bI ⟨k,y,r,rfl,ar,fi,er,J,av⟩;have KP:y<4294967296:=by rw[ar];exact R_ (R' _ _) W
 have Ic:y / 256=x / 256^(k+1):=by rw[ar,XO,Ee]
 have eh:=le_succ x k;rw[<-ar]at eh;simp[go_sem,fi,er];refine Ip (λaO=> ?_) (λpe=> ?_)
 ·simp[go_sem,J];refine HP lE av.1 rfl (by unfold maxLen;omega) (by omega) λv' w' bn bh bA=> ?_;simp[go_sem,er,J];refine ct.intro (wide -(k+1)) (by omega) (bJ _ _ _ ⟨k+1,y / 256,by omega,rfl,Ic,by simpa using fi,by simp[cz];omega,by simp,?_⟩);rw[eh];exact av.one (by rfl) bn bh bA
 ·simp[go_sem];obtain rfl:k=wide:=by omega
  exact af _ _ av
theorem aln(v:N)(n:Nat)(xs:List UInt8)(x:Nat)(w:M)(W:x<4294967296)(aq:n<=1000000000)
  (fG:w.ownsRow 0 5 1 v n (br xs)):
  bc prog 220 #[v,.int .u32 x] w (jc w v n xs 4 (ci x 4)):=by
 refine bz func220 ntmps220 λbk af=> ?_;simp[go_sem];refine(aPJ v n xs x 4 _ W (by omega) aq fG).mono λv' w' h=> ?_;simp[go_sem];exact af _ _ h
theorem aPK(v:N)(n:Nat)(xs:List UInt8)(x:Nat)(wide:Nat)(w:M)(W:x<18446744073709551616)(bM:wide<=8)(aq:n<=1000000000)
  (fG:w.ownsRow 0 5 1 v n (br xs)):
  bc prog 206 #[v,.int .u64 x,aa wide] w (jc w v n xs wide (ci x wide)):=by
 refine bz func206 ntmps206 λbk af=> ?_;simp[go_sem];refine di (λV f bI=>∃k y:Nat,k<=wide/\V=wide - k/\y=x / 256^k/\f 7=aa wide/\f 8=aa k/\f 1=.int .u64 y/\jc w v n xs k (ci x k) (f 0) bI) wide ⟨0,x,gG _,rfl,by simp,by simp,by simp,by simp,jc.refl fG⟩ ?_;rintro cQ bJ _ f bI ⟨k,y,r,rfl,ar,fi,er,J,av⟩;have KP:y<18446744073709551616:=by rw[ar];exact R_ (R' _ _) W
 have Ic:y / 256=x / 256^(k+1):=by rw[ar,XO,Ee]
 have eh:=le_succ x k;rw[<-ar]at eh;simp[go_sem,fi,er];refine Ip (λaO=> ?_) (λpe=> ?_)
 ·simp[go_sem,J];refine HP lE av.1 rfl (by unfold maxLen;omega) (by omega) λv' w' bn bh bA=> ?_;simp[go_sem,er,J];refine ct.intro (wide -(k+1)) (by omega) (bJ _ _ _ ⟨k+1,y / 256,by omega,rfl,Ic,by simpa using fi,by simp[cz];omega,by simp,?_⟩);rw[eh];exact av.one (by rfl) bn bh bA
 ·simp[go_sem];obtain rfl:k=wide:=by omega
  exact af _ _ av
theorem acF(v:N)(n:Nat)(xs:List UInt8)(x:Nat)(w:M)(W:x<18446744073709551616)(aq:n<=1000000000)
  (fG:w.ownsRow 0 5 1 v n (br xs)):
  bc prog 168 #[v,.int .u64 x] w (jc w v n xs 8 (ci x 8)):=by
 refine bz func168 ntmps168 λbk af=> ?_;simp[go_sem];refine(aPK v n xs x 8 _ W (by omega) aq fG).mono λv' w' h=> ?_;simp[go_sem];exact af _ _ h
theorem Xl(v:N)(n:Nat)(xs:List UInt8)(m:Int)(w:M)(aq:n<=1000000000)(aC:m<=1000000000)(W:xs.length=n)
  (fG:w.ownsRow 0 5 1 v n (br xs)):
  bc prog 170 #[v,aa m] w (jc w v n xs (m.toNat - n) (List.replicate (m.toNat - n) 0)):=by
 refine bz func170 ntmps170 λbk af=> ?_;simp[go_sem];refine di (λV f bI=>∃k:Nat,k<=m.toNat - n/\V=m.toNat - n - k/\f 1=aa m/\jc w v n xs k (List.replicate k 0) (f 0) bI) (m.toNat - n) ⟨0,gG _,rfl,by simp,by simpa using jc.refl fG⟩ ?_;rintro cQ bJ _ f bI ⟨k,r,rfl,J,av⟩;have ak:=bC.len (bC.fF av.1) underlying101 3;simp[go_sem,J,ak];refine Ip (λaO=> ?_) (λpe=> ?_)
 ·simp[go_sem];refine HP lE av.1 rfl (by unfold maxLen;omega) (by omega) λv' w' bn bh bA=> ?_;simp[go_sem];refine ct.intro (m.toNat - n -(k+1)) (by omega) (bJ _ _ _ ⟨k+1,by omega,rfl,by simpa using J,?_⟩);rw[ac3];simp;exact av.one rfl bn bh bA
 ·simp[go_sem];obtain rfl:k=m.toNat - n:=by omega
  exact af _ _ av
theorem GN(v:N)(n:Nat)(xs:List UInt8)(w:M)(aq:n<=1000000000)(W:xs.length=n)(aA:bC w v n (br xs)):
  bc prog 104 #[v] w λv' w'=>w'.ownsRow 0 5 1 v' n (br xs)/\H al w w'/\gr w.1.size v':=by
 refine bz func104 ntmps104 λbk af=> ?_;obtain⟨A,c,rfl,J,T,ag⟩:=id aA
 cases A with
 |none=>
  have dn:n=0:=by
   rcases ac4 n with h|h
   ·exact h
   ·obtain⟨bx,h',_⟩:=ag (by rw[eO];omega)
    cases h'
  subst dn;obtain rfl:xs=[]:=wh W;have ab:=λw=>Lib.run_eql_slice_nil (P:=prog) w 101 5 none 0 c 0 0 underlying101;simp[go_sem,ab];exact af _ _ ⟨pA _ _ _ _,H.refl _ _,λk r=>by simp[Value.ownBlock]at r⟩
 |some bx=>
  have ab:=λw=>Lib.run_eql_slice_nil (P:=prog) w 101 5 (some bx) n c 0 0 underlying101;simp[go_sem,ab];refine Lx lE (World.ownsRow_made w #[] 0 (gG _) (gG _) rfl) (aA.alloc _) (by rw[eO];exact W) (AB _) (by unfold maxLen;omega) (by omega) λv' w' bn bh bA=> ?_;simp[go_sem];refine af _ _ ⟨by simpa using bn,((H.refl al w).alloc _).bZ bh λj I e=> ?_,?_⟩
  ·simp[Value.ownBlock]at e;omega
  ·rcases bA with bA|bA
   ·intro k r;rw[bA]at r;simp[Value.ownBlock]at r;omega
   ·exact bA.mono (by simp)
def hH(w:M)(g o:Nat)(l:List UInt8)(e:Int):Prop:=
 ∃v,w.1[g]? =some (.cells #[v,aa e] 299 (0,0))/\bC w v l.length (br l)/\v.ownBlock≠some g/\∀k,v.ownBlock=some k->k=o
def only(g:Nat):Nat->Prop:=λk=>k=g
theorem hH.lt{w:M}{g o:Nat}{l:List UInt8}{e:Int}(h:hH w g o l e):g<w.1.size:=by
 obtain⟨v,J,_⟩:=h;exact lt_of_block J
theorem hH.ch{S:Nat->Prop}{w w':M}{g o:Nat}{l:List UInt8}{e:Int}(h:hH w g o l e)(Z:H S w w')(aH:¬S g)(av:¬S o):hH w' g o l e:=by
 obtain⟨v,J,T,ag,aP⟩:=h;exact⟨v,Z.obj J aH,T.ch Z (λk r e=>av (by rw[<-aP k r];exact e)),ag,aP⟩
theorem RL{w:M}{g:Nat}{v u:N}{bv:Nat}(ab:w.1[g]? =some (.cells #[v,u] bv (0,0))):
  w.cell? (bl g 0)=some v/\w.cell? (bl g 1)=some u/\w.frozen? (bl g 0)=false/\w.frozen? (bl g 1)=false:=by
 simp[World.cell?,World.frozen?,ab]
theorem awg{w:M}{g:Nat}{v u x:N}{bv:Nat}(ab:w.1[g]? =some (.cells #[v,u] bv (0,0))):(w.setCell ⟨g,0,none⟩ x).1[g]? =some (.cells #[x,u] bv (0,0)):=by
 simp[World.setCell,IK,ab]
theorem aPL{w:M}{g:Nat}{v u x:N}{bv:Nat}(ab:w.1[g]? =some (.cells #[v,u] bv (0,0))):(w.setCell ⟨g,1,none⟩ x).1[g]? =some (.cells #[v,x] bv (0,0)):=by
 simp[World.setCell,IK,ab]
theorem aPM(g:Nat){o:Nat}(l:List UInt8)(e:Int)(w:M)(h:hH w g o l 0):
  bc prog 190 #[az g,aa e] w λv' w'=>v'=.tuple #[]/\hH w' g o [] e/\H (only g) w w':=by
 obtain⟨v,ab,aA,dn,mE⟩:=h;refine bz func190 ntmps190 λbk af=> ?_;obtain⟨bi,J,f0,aW⟩:=RL ab;simp[go_sem,bi,J,f0,aW];refine af _ _ ⟨rfl,⟨.slice none 0 0,?_,bC.nil _,by simp[Value.ownBlock]⟩,?_⟩
 ·exact aPL (awg ab)
 ·exact((H.refl (only g) w).setCell (p:=bl g 0) (.inl rfl) _).setCell (p:=bl g 1) (.inl rfl) _
theorem aPN(g:Nat){o:Nat}(l:List UInt8)(e dk:Int)(w:M)(h:hH w g o l dk)(aV:dk≠0):
  bc prog 190 #[az g,aa e] w λv' w'=>v'=.tuple #[]/\w'=w:=by
 obtain⟨v,ab,aA,dn,mE⟩:=h;refine bz func190 ntmps190 λbk af=> ?_;obtain⟨bi,J,f0,aW⟩:=RL ab;have zz:(dk==0)=false:=by simpa using aV
 simp[go_sem,J,zz];exact af _ _ ⟨rfl,rfl⟩
def om(l:List UInt8)(dk e:Int):List UInt8×Int:=if dk=0 then([],e)else(l,dk)
theorem akG(g:Nat){o:Nat}(l:List UInt8)(e dk:Int)(w:M)(h:hH w g o l dk):
  bc prog 190 #[az g,aa e] w λv' w'=>v'=.tuple #[]/\hH w' g o (om l dk e).1 (om l dk e).2/\H (only g) w w':=by
 unfold om;by_cases aV:dk=0
 ·subst aV;exact(aPM g l e w h).mono λv' w' h=>by simpa using h
 ·refine(aPN g l e dk w h aV).mono ?_;rintro v' w' ⟨rfl,rfl⟩;rw[aQ aV];exact⟨rfl,h,H.refl _ _⟩
def dg(l:List UInt8)(e:Int)(n:Nat):List UInt8×List UInt8×Int:=
 if e≠0 then([],l,e)else if l.length<n then([],[],4)else(l.take n,l.drop n,0)
theorem aPO(g:Nat){o:Nat}(l:List UInt8)(e:Int)(n:Nat)(w:M)(ak:l.length<=1000000000)(h:hH w g o l e):
  bc prog 166 #[az g,aa n] w λv' w'=>
   bC w' v' (dg l e n).1.length (br (dg l e n).1)/\v'.ownBlock≠some g/\hH w' g o (dg l e n).2.1 (dg l e n).2.2/\H (only g) w w':=by
 have h':=h;obtain⟨v,ab,aA,dn,mE⟩:=h;obtain⟨bi,J,f0,aW⟩:=RL ab;have cu:=aA.len underlying101 3;refine bz func166 ntmps166 λbk af=> ?_;by_cases aO:l.length<n
 ·simp[go_sem,bi,cu,aO];refine(akG g l 4 e w h').mono ?_;rintro v' w' ⟨rfl,ax,Z⟩;have arW:(om l e 4).2≠0:=by unfold om;split<;>simp[*]
  have aVM:=ax;obtain⟨hk,dm,kg,zy,aVN⟩:=ax;obtain⟨Wj,NV,f20,f21⟩:=RL dm;have zz:((om l e 4).2 !=0)=true:=by simpa using arW
  simp[go_sem,NV,zz];refine af (.slice none 0 0) _ ⟨?_,by simp[Value.ownBlock],?_,Z⟩
  ·unfold dg;split<;>simp[br,bC.nil]
  ·unfold dg om at*
   grind
 ·by_cases aV:e=0
  ·subst aV;obtain⟨fY,gF,sy,gA⟩:=aA.ak9 lE (eO l) n (by omega);obtain⟨hk,kg,zF,_,_,pq⟩:=aA.rz lE (eO l) n l.length (by omega) (c_ _);have pq:=pq rfl;obtain⟨vA,aK,rfl,_⟩:=id kg;simp[go_sem,bi,J,f0,cu,aO,gA,pq];have tS:fY.ownBlock≠some g:=by rw[sy];exact dn
   have zy:(Value.slice vA (l.length - n) aK).ownBlock≠some g:=by rw[zF];exact dn
   have Z:H (only g) w (w.setCell ⟨g,0,none⟩ (.slice vA (l.length - n) aK)):=(H.refl (only g) w).setCell (p:=bl g 0) (.inl rfl) _;have vE:∀{v:N},v.ownBlock≠some g->∀k,v.ownBlock=some k->¬only g k:=λh k r e=>h (by rw[r,e]);have aL:dg l 0 n=(l.take n,l.drop n,0):=by simp[dg,aO]
   rw[aL]at af;refine af fY _ ⟨?_,tS,⟨_,awg ab,?_,zy,by rw[zF];exact mE⟩,Z⟩
   ·have:=gF.ch Z (vE tS);simpa[br,LB,show min n l.length=n by omega]using this
   ·have:=kg.ch Z (vE zy);rw[show l.length=(br l).length from(eO l).symm,wm]at this;simpa[br,OI]using this
  ·have zz:(e !=0)=true:=by simpa using aV
   simp[go_sem,bi,J,cu,aO,zz];refine af (.slice none 0 0) _ ⟨?_,by simp[Value.ownBlock],?_,H.refl _ _⟩
   ·simp[dg,aV,br,bC.nil]
   ·simpa[dg,aV]using h'
theorem Iv(g:Nat){o:Nat}(l:List UInt8)(e:Int)(n:Int)(w:M)(aq:n<=9223372036854775807)(ak:l.length<=1000000000)(h:hH w g o l e):
  bc prog 115 #[az g,aa n] w λv' w'=>
   w'.ownsRow 0 5 1 v' (dg l e n.toNat).1.length (br (dg l e n.toNat).1)/\gr w.1.size v'/\hH w' g o (dg l e n.toNat).2.1 (dg l e n.toNat).2.2/\H (only g) w w':=by
 refine bz func115 ntmps115 λbk af=> ?_;simp[go_sem];rw[show(if n<0 then 0 else n)=((n.toNat:Nat):Int)by split<;>omega];refine(aPO g l e n.toNat w ak h).mono ?_;rintro fY ai ⟨gF,tS,gA,fR⟩;simp[go_sem];have fb:(dg l e n.toNat).1.length<=1000000000:=by
  unfold dg;split
  ·simp
  ·grind
 refine(GN fY _ _ ai fb rfl gF).mono ?_;rintro hk an ⟨bn,bh,bA⟩;simp[go_sem];have bP:gr w.1.size hk:=bA.mono fR.size;refine af _ _ ⟨bn,bP,?_,fR.bZ bh λ_ _ e=>e.elim⟩;obtain⟨v3,bt,cY,cK⟩:=gA;exact⟨v3,bh.obj bt (λe=>e),cY.ch bh (λ_ _ e=>e),cK⟩
theorem RO(v:N)(l:List UInt8)(w:M)(ak:l.length<=1000000000)(aA:bC w v l.length (br l)):
  bc prog 113 #[v] w λv' w'=>∃g o,v'=az g/\w.1.size<=g/\w.1.size<=o/\o<w'.1.size/\hH w' g o l 0/\H al w w':=by
 refine bz func113 ntmps113 λbk af=> ?_;simp[go_sem];refine(GN v _ _ w ak rfl aA).mono ?_;rintro fY ai ⟨bn,bh,bA⟩;obtain⟨A,c,rfl,_⟩:=bC.fF bn;simp[go_sem];have hz:=bh.size
 cases A with
 |none=>
  refine af _ _ ⟨ai.1.size,ai.1.size,rfl,bh.size,bh.size,by simp,⟨_,heap_alloc_new ai _,(bC.fF bn).alloc _,λe=>by simp[Value.ownBlock]at e,λk e=>by simp[Value.ownBlock]at e⟩,bh.alloc _⟩
 |some bx=>
  have J:=(bn.lt bx.block rfl).2;have T:=bA bx.block rfl;refine af _ _ ⟨ai.1.size,bx.block,rfl,bh.size,T,by simp;omega,⟨_,heap_alloc_new ai _,(bC.fF bn).alloc _,λe=> ?_,λk e=> ?_⟩,bh.alloc _⟩
  ·simp[Value.ownBlock]at e;omega
  ·simp[Value.ownBlock]at e;omega
theorem acB(g:Nat){o:Nat}(l:List UInt8)(e:Int)(w:M)(h:hH w g o l e):
  bc prog 189 #[az g] w λv' w'=>v'=.tuple #[]/\hH w' g o (om l e 5).1 (om l e 5).2/\H (only g) w w':=by
 refine bz func189 ntmps189 λbk af=> ?_;simp[go_sem];refine(akG g l 5 e w h).mono ?_;rintro fY ai ⟨rfl,bn,bh⟩;simp[go_sem];exact af _ _ ⟨rfl,bn,bh⟩
theorem RU(g:Nat){o:Nat}(l:List UInt8)(e:Int)(w:M)(h:hH w g o l e):
  bc prog 135 #[az g] w λv' w'=>v'=aa l.length/\w'=w:=by
 obtain⟨v,ab,aA,dn,mE⟩:=h;obtain⟨bi,J,f0,aW⟩:=RL ab;have cu:=aA.len underlying101 3;refine bz func135 ntmps135 λbk af=> ?_;simp[go_sem,bi,cu];exact af _ _ ⟨rfl,rfl⟩
theorem awh(g:Nat){o:Nat}(l:List UInt8)(e:Int)(w:M)(h:hH w g o l e):
  bc prog 191 #[az g] w λv' w'=>v'=aa e/\w'=w:=by
 obtain⟨v,ab,aA,dn,mE⟩:=h;obtain⟨bi,J,f0,aW⟩:=RL ab;refine bz func191 ntmps191 λbk af=> ?_;simp[go_sem,J];exact af _ _ ⟨rfl,rfl⟩
def tf(l:List UInt8)(e:Int):List UInt8×Int:=if 0<l.length then om l e 5 else(l,e)
theorem Xg(g:Nat){o:Nat}(l:List UInt8)(e:Int)(w:M)(h:hH w g o l e):
  bc prog 136 #[az g] w λv' w'=>v'=aa (tf l e).2/\hH w' g o (tf l e).1 (tf l e).2/\H (only g) w w':=by
 refine bz func136 ntmps136 λbk af=> ?_;simp[go_sem];refine(RU g l e w h).mono ?_;rintro fY ai ⟨rfl,rfl⟩;by_cases ak:0<l.length
 ·simp[go_sem,ak];refine(akG g l 5 e ai h).mono ?_;rintro hk an ⟨rfl,bn,bh⟩;simp[go_sem];refine(awh g _ _ an bn).mono ?_;rintro v3 aJ ⟨rfl,rfl⟩;simp[go_sem];exact af _ _ (by simpa[tf,ak]using⟨bn,bh⟩)
 ·simp[go_sem,ak];refine(awh g _ _ ai h).mono ?_;rintro v3 aJ ⟨rfl,rfl⟩;simp[go_sem];exact af _ _ (by simpa[tf,ak]using⟨h,H.refl _ _⟩)
end Go.Proofs.YtoohkhcpboldjaaGreatDoor
