/- The numbers that a wire.Reader reads. No condition but on sizes. -/
import Derived.Test.YtoohkhcpboldjaaGreatDoorChecked
import Derived.Test.YtoohkhcpboldjaaGreatDoorVee
set_option linter.unusedSimpArgs false
set_option linter.unusedVariables false
namespace Go.Proofs.YtoohkhcpboldjaaGreatDoor
open Go.RowKit Go.Kin
theorem kB:tM Tryz.prog 101 5 (.int .u8 0) 1:=⟨Tryz.underlying101,by kernel_rfl,rfl⟩
def bX:Nat->Nat->List UInt8
 |_,0=>[]
 |n,k+1=>UInt8.ofNat n::bX (n / 256) k
theorem le_succ(n k:Nat):bX n (k+1)=bX n k++[UInt8.ofNat (n / 256^k)]:=by
 induction k generalizing n with
 |zero=>simp[bX]
 |succ k bG=>rw[bX,bG (n / 256),bX,Nat.div_div_eq_div_mul,Nat.pow_succ,Nat.mul_comm 256];rfl
theorem jC(n k:Nat):(bX n k).length=k:=by
 induction k generalizing n with
 |zero=>rfl
 |succ k bG=>simp[bX,bG]
theorem WI(n:Nat):ca (UInt8.ofNat n)=.int .u8 ((n%256:Nat):Int):=by simp[ca]
def hZ(w:World)(v:Value)(n:Nat)(xs:List UInt8)(m:Nat)(ys:List UInt8):Value->World->Prop:=λW w'=>
 w'.ownsRow 0 5 1 W (n+m) (bm (xs++ys))/\D (λj=>v.ownBlock=some j) w w'/\(W.ownBlock=v.ownBlock\/fZ w.1.size W)
theorem hZ.refl{w:World}{v:Value}{n:Nat}{xs:List UInt8}(h:w.ownsRow 0 5 1 v n (bm xs)):hZ w v n xs 0 [] v w:=⟨by simpa using h,D.refl _ _,.inl rfl⟩
theorem hZ.one{w ab ai:World}{v gw jf:Value}{n m:Nat}{xs ys:List UInt8}{c:UInt8}{u:Value}(h:hZ w v n xs m ys gw ab)(an:u=ca c)
  (H:ai.ownsRow 0 5 1 jf (n+m+1) (bm (xs++ys)++[u]))(I:D (λk=>gw.ownBlock=some k) ab ai)(af:jf.ownBlock=gw.ownBlock\/fZ ab.1.size jf):hZ w v n xs (m+1) (ys++[c]) jf ai:=by
 subst an;obtain⟨a',aX,bq⟩:=h;refine⟨by rw[<-List.append_assoc,Cs];exact H,aX.bJ I (λj F e=> ?_),?_⟩
 ·rcases bq with bq|bq
  ·rw[<-bq];exact e
  ·have:=bq j e;omega
 ·rcases af with af|af
  ·rcases bq with bq|bq
   ·exact .inl (af.trans bq)
   ·exact .inr λj F=>bq j (by rw[<-af];exact F)
  ·exact .inr (af.mono aX.size)
theorem aGf(v:Value)(n:Nat)(xs:List UInt8)(x:Nat)(wide:Nat)(w:World)(M:x<65536)(bH:wide<=8)(av:n<=1000000000)
  (eT:w.ownsRow 0 5 1 v n (bm xs)):
  aP Tryz.prog 207 #[v,.int .u16 x,.int .i64 wide] w (hZ w v n xs wide (bX x wide)):=by
 refine bn Tryz.func207 Tryz.ntmps207 λaZ Z=> ?_;simp[go_sem];refine du (λJ f bE=>∃k y:Nat,k<=wide/\J=wide - k/\y=x / 256^k/\f 7=.int .i64 wide/\f 8=.int .i64 k/\f 1=.int .u16 y/\hZ w v n xs k (bX x k) (f 0) bE) wide ⟨0,x,Nat.zero_le _,rfl,by simp,by simp,by simp,by simp,hZ.refl eT⟩ ?_;rintro cJ bK _ f bE ⟨k,y,r,rfl,ar,eD,eb,H,aB⟩;have FU:y<65536:=by rw[ar];exact Nat.lt_of_le_of_lt (Nat.div_le_self _ _) M
 have wN:y / 256=x / 256^(k+1):=by rw[ar,Nat.div_div_eq_div_mul,Nat.pow_succ]
 have dR:=le_succ x k;rw[<-ar]at dR;simp[go_sem,eD,eb];refine Ea (λaO=> ?_) (λnJ=> ?_)
 ·simp[go_sem,H];refine Iq kB aB.1 rfl (by unfold maxLen;omega) (by omega) λW w' a' aX bq=> ?_;simp[go_sem,eb,H];refine cH.intro (wide -(k+1)) (by omega) (bK _ _ _ ⟨k+1,y / 256,by omega,rfl,wN,by simpa using eD,by simp[IntKind.wrap_i64];omega,by simp,?_⟩);rw[dR];exact aB.one (by rfl) a' aX bq
 ·simp[go_sem];obtain rfl:k=wide:=by omega
  exact Z _ _ aB
theorem Rj(v:Value)(n:Nat)(xs:List UInt8)(x:Nat)(w:World)(M:x<65536)(av:n<=1000000000)
  (eT:w.ownsRow 0 5 1 v n (bm xs)):
  aP Tryz.prog 169 #[v,.int .u16 x] w (hZ w v n xs 2 (bX x 2)):=by
 refine bn Tryz.func169 Tryz.ntmps169 λaZ Z=> ?_;simp[go_sem];refine(aGf v n xs x 2 _ M (by omega) av eT).mono λW w' h=> ?_;simp[go_sem];exact Z _ _ h
theorem aGg(v:Value)(n:Nat)(xs:List UInt8)(x:Nat)(wide:Nat)(w:World)(M:x<4294967296)(bH:wide<=8)(av:n<=1000000000)
  (eT:w.ownsRow 0 5 1 v n (bm xs)):
  aP Tryz.prog 248 #[v,.int .u32 x,.int .i64 wide] w (hZ w v n xs wide (bX x wide)):=by
 refine bn Tryz.func248 Tryz.ntmps248 λaZ Z=> ?_;simp[go_sem];refine du (λJ f bE=>∃k y:Nat,k<=wide/\J=wide - k/\y=x / 256^k/\f 7=.int .i64 wide/\f 8=.int .i64 k/\f 1=.int .u32 y/\hZ w v n xs k (bX x k) (f 0) bE) wide ⟨0,x,Nat.zero_le _,rfl,by simp,by simp,by simp,by simp,hZ.refl eT⟩ ?_;rintro cJ bK _ f bE ⟨k,y,r,rfl,ar,eD,eb,H,aB⟩;have FU:y<4294967296:=by rw[ar];exact Nat.lt_of_le_of_lt (Nat.div_le_self _ _) M
 have wN:y / 256=x / 256^(k+1):=by rw[ar,Nat.div_div_eq_div_mul,Nat.pow_succ]
 have dR:=le_succ x k;rw[<-ar]at dR;simp[go_sem,eD,eb];refine Ea (λaO=> ?_) (λnJ=> ?_)
 ·simp[go_sem,H];refine Iq kB aB.1 rfl (by unfold maxLen;omega) (by omega) λW w' a' aX bq=> ?_;simp[go_sem,eb,H];refine cH.intro (wide -(k+1)) (by omega) (bK _ _ _ ⟨k+1,y / 256,by omega,rfl,wN,by simpa using eD,by simp[IntKind.wrap_i64];omega,by simp,?_⟩);rw[dR];exact aB.one (by rfl) a' aX bq
 ·simp[go_sem];obtain rfl:k=wide:=by omega
  exact Z _ _ aB
theorem aeh(v:Value)(n:Nat)(xs:List UInt8)(x:Nat)(w:World)(M:x<4294967296)(av:n<=1000000000)
  (eT:w.ownsRow 0 5 1 v n (bm xs)):
  aP Tryz.prog 220 #[v,.int .u32 x] w (hZ w v n xs 4 (bX x 4)):=by
 refine bn Tryz.func220 Tryz.ntmps220 λaZ Z=> ?_;simp[go_sem];refine(aGg v n xs x 4 _ M (by omega) av eT).mono λW w' h=> ?_;simp[go_sem];exact Z _ _ h
theorem aGh(v:Value)(n:Nat)(xs:List UInt8)(x:Nat)(wide:Nat)(w:World)(M:x<18446744073709551616)(bH:wide<=8)(av:n<=1000000000)
  (eT:w.ownsRow 0 5 1 v n (bm xs)):
  aP Tryz.prog 206 #[v,.int .u64 x,.int .i64 wide] w (hZ w v n xs wide (bX x wide)):=by
 refine bn Tryz.func206 Tryz.ntmps206 λaZ Z=> ?_;simp[go_sem];refine du (λJ f bE=>∃k y:Nat,k<=wide/\J=wide - k/\y=x / 256^k/\f 7=.int .i64 wide/\f 8=.int .i64 k/\f 1=.int .u64 y/\hZ w v n xs k (bX x k) (f 0) bE) wide ⟨0,x,Nat.zero_le _,rfl,by simp,by simp,by simp,by simp,hZ.refl eT⟩ ?_;rintro cJ bK _ f bE ⟨k,y,r,rfl,ar,eD,eb,H,aB⟩;have FU:y<18446744073709551616:=by rw[ar];exact Nat.lt_of_le_of_lt (Nat.div_le_self _ _) M
 have wN:y / 256=x / 256^(k+1):=by rw[ar,Nat.div_div_eq_div_mul,Nat.pow_succ]
 have dR:=le_succ x k;rw[<-ar]at dR;simp[go_sem,eD,eb];refine Ea (λaO=> ?_) (λnJ=> ?_)
 ·simp[go_sem,H];refine Iq kB aB.1 rfl (by unfold maxLen;omega) (by omega) λW w' a' aX bq=> ?_;simp[go_sem,eb,H];refine cH.intro (wide -(k+1)) (by omega) (bK _ _ _ ⟨k+1,y / 256,by omega,rfl,wN,by simpa using eD,by simp[IntKind.wrap_i64];omega,by simp,?_⟩);rw[dR];exact aB.one (by rfl) a' aX bq
 ·simp[go_sem];obtain rfl:k=wide:=by omega
  exact Z _ _ aB
theorem Wp(v:Value)(n:Nat)(xs:List UInt8)(x:Nat)(w:World)(M:x<18446744073709551616)(av:n<=1000000000)
  (eT:w.ownsRow 0 5 1 v n (bm xs)):
  aP Tryz.prog 168 #[v,.int .u64 x] w (hZ w v n xs 8 (bX x 8)):=by
 refine bn Tryz.func168 Tryz.ntmps168 λaZ Z=> ?_;simp[go_sem];refine(aGh v n xs x 8 _ M (by omega) av eT).mono λW w' h=> ?_;simp[go_sem];exact Z _ _ h
theorem Rk(v:Value)(n:Nat)(xs:List UInt8)(m:Int)(w:World)(av:n<=1000000000)(aH:m<=1000000000)(M:xs.length=n)
  (eT:w.ownsRow 0 5 1 v n (bm xs)):
  aP Tryz.prog 170 #[v,.int .i64 m] w (hZ w v n xs (m.toNat - n) (List.replicate (m.toNat - n) 0)):=by
 refine bn Tryz.func170 Tryz.ntmps170 λaZ Z=> ?_;simp[go_sem];refine du (λJ f bE=>∃k:Nat,k<=m.toNat - n/\J=m.toNat - n - k/\f 1=.int .i64 m/\hZ w v n xs k (List.replicate k 0) (f 0) bE) (m.toNat - n) ⟨0,Nat.zero_le _,rfl,by simp,by simpa using hZ.refl eT⟩ ?_;rintro cJ bK _ f bE ⟨k,r,rfl,H,aB⟩;have al:=bD.len (bD.fp aB.1) Tryz.underlying101 3;simp[go_sem,H,al];refine Ea (λaO=> ?_) (λnJ=> ?_)
 ·simp[go_sem];refine Iq kB aB.1 rfl (by unfold maxLen;omega) (by omega) λW w' a' aX bq=> ?_;simp[go_sem];refine cH.intro (m.toNat - n -(k+1)) (by omega) (bK _ _ _ ⟨k+1,by omega,rfl,by simpa using H,?_⟩);rw[List.replicate_succ'];simp;exact aB.one rfl a' aX bq
 ·simp[go_sem];obtain rfl:k=m.toNat - n:=by omega
  exact Z _ _ aB
theorem ED(v:Value)(n:Nat)(xs:List UInt8)(w:World)(av:n<=1000000000)(M:xs.length=n)(aw:bD w v n (bm xs)):
  aP Tryz.prog 104 #[v] w λW w'=>w'.ownsRow 0 5 1 W n (bm xs)/\D ak w w'/\fZ w.1.size W:=by
 refine bn Tryz.func104 Tryz.ntmps104 λaZ Z=> ?_;obtain⟨ag,c,rfl,H,I,af⟩:=id aw
 cases ag with
 |none=>
  have da:n=0:=by
   rcases Nat.eq_zero_or_pos n with h|h
   ·exact h
   ·obtain⟨bp,h',_⟩:=af (by rw[eB];omega)
    cases h'
  subst da;obtain rfl:xs=[]:=List.eq_nil_of_length_eq_zero M;have V:=λw=>Lib.run_eql_slice_nil (P:=Tryz.prog) w 101 5 none 0 c 0 0 Tryz.underlying101;simp[go_sem,V];exact Z _ _ ⟨World.ownsRow_nil _ _ _ _,D.refl _ _,λk r=>by simp[Value.ownBlock]at r⟩
 |some bp=>
  have V:=λw=>Lib.run_eql_slice_nil (P:=Tryz.prog) w 101 5 (some bp) n c 0 0 Tryz.underlying101;simp[go_sem,V];refine Jj kB (World.ownsRow_made w #[] 0 (Nat.zero_le _) (Nat.zero_le _) rfl) (aw.alloc _) (by rw[eB];exact M) (xf _) (by unfold maxLen;omega) (by omega) λW w' a' aX bq=> ?_;simp[go_sem];refine Z _ _ ⟨by simpa using a',((D.refl ak w).alloc _).bJ aX λj F e=> ?_,?_⟩
  ·simp[Value.ownBlock]at e;omega
  ·rcases bq with bq|bq
   ·intro k r;rw[bq]at r;simp[Value.ownBlock]at r;omega
   ·exact bq.mono (by simp)
def gH(w:World)(g o:Nat)(l:List UInt8)(e:Int):Prop:=
 ∃v,w.1[g]? =some (.cells #[v,.int .i64 e] 299 (0,0))/\bD w v l.length (bm l)/\v.ownBlock≠some g/\∀k,v.ownBlock=some k->k=o
def only(g:Nat):Nat->Prop:=λk=>k=g
theorem gH.lt{w:World}{g o:Nat}{l:List UInt8}{e:Int}(h:gH w g o l e):g<w.1.size:=by
 obtain⟨v,H,_⟩:=h;exact lt_of_block H
theorem gH.ch{S:Nat->Prop}{w w':World}{g o:Nat}{l:List UInt8}{e:Int}(h:gH w g o l e)(T:D S w w')(aF:¬S g)(aB:¬S o):gH w' g o l e:=by
 obtain⟨v,H,I,af,aU⟩:=h;exact⟨v,T.obj H aF,I.ch T (λk r e=>aB (by rw[<-aU k r];exact e)),af,aU⟩
theorem Ma{w:World}{g:Nat}{v u:Value}{bl:Nat}(V:w.1[g]? =some (.cells #[v,u] bl (0,0))):
  w.cell? ⟨g,0,none⟩=some v/\w.cell? ⟨g,1,none⟩=some u/\w.frozen? ⟨g,0,none⟩=false/\w.frozen? ⟨g,1,none⟩=false:=by
 simp[World.cell?,World.frozen?,V]
theorem aod{w:World}{g:Nat}{v u x:Value}{bl:Nat}(V:w.1[g]? =some (.cells #[v,u] bl (0,0))):(w.setCell ⟨g,0,none⟩ x).1[g]? =some (.cells #[x,u] bl (0,0)):=by
 simp[World.setCell,Array.getElem?_modify,V]
theorem aGi{w:World}{g:Nat}{v u x:Value}{bl:Nat}(V:w.1[g]? =some (.cells #[v,u] bl (0,0))):(w.setCell ⟨g,1,none⟩ x).1[g]? =some (.cells #[v,x] bl (0,0)):=by
 simp[World.setCell,Array.getElem?_modify,V]
theorem aGj(g:Nat){o:Nat}(l:List UInt8)(e:Int)(w:World)(h:gH w g o l 0):
  aP Tryz.prog 190 #[.pointer (some ⟨g,0,none⟩),.int .i64 e] w λW w'=>W=.tuple #[]/\gH w' g o [] e/\D (only g) w w':=by
 obtain⟨v,V,aw,da,my⟩:=h;refine bn Tryz.func190 Tryz.ntmps190 λaZ Z=> ?_;obtain⟨bf,H,f0,a_⟩:=Ma V;simp[go_sem,bf,H,f0,a_];refine Z _ _ ⟨rfl,⟨.slice none 0 0,?_,bD.nil _,by simp[Value.ownBlock]⟩,?_⟩
 ·exact aGi (aod V)
 ·exact((D.refl (only g) w).setCell (p:=⟨g,0,none⟩) (.inl rfl) _).setCell (p:=⟨g,1,none⟩) (.inl rfl) _
theorem aGk(g:Nat){o:Nat}(l:List UInt8)(e cR:Int)(w:World)(h:gH w g o l cR)(aV:cR≠0):
  aP Tryz.prog 190 #[.pointer (some ⟨g,0,none⟩),.int .i64 e] w λW w'=>W=.tuple #[]/\w'=w:=by
 obtain⟨v,V,aw,da,my⟩:=h;refine bn Tryz.func190 Tryz.ntmps190 λaZ Z=> ?_;obtain⟨bf,H,f0,a_⟩:=Ma V;have wa:(cR==0)=false:=by simpa using aV
 simp[go_sem,H,wa];exact Z _ _ ⟨rfl,rfl⟩
def mU(l:List UInt8)(cR e:Int):List UInt8×Int:=if cR=0 then([],e)else(l,cR)
theorem adG(g:Nat){o:Nat}(l:List UInt8)(e cR:Int)(w:World)(h:gH w g o l cR):
  aP Tryz.prog 190 #[.pointer (some ⟨g,0,none⟩),.int .i64 e] w λW w'=>W=.tuple #[]/\gH w' g o (mU l cR e).1 (mU l cR e).2/\D (only g) w w':=by
 unfold mU;by_cases aV:cR=0
 ·subst aV;exact(aGj g l e w h).mono λW w' h=>by simpa using h
 ·refine(aGk g l e cR w h aV).mono ?_;rintro W w' ⟨rfl,rfl⟩;rw[if_neg aV];exact⟨rfl,h,D.refl _ _⟩
def cQ(l:List UInt8)(e:Int)(n:Nat):List UInt8×List UInt8×Int:=
 if e≠0 then([],l,e)else if l.length<n then([],[],4)else(l.take n,l.drop n,0)
theorem aGl(g:Nat){o:Nat}(l:List UInt8)(e:Int)(n:Nat)(w:World)(al:l.length<=1000000000)(h:gH w g o l e):
  aP Tryz.prog 166 #[.pointer (some ⟨g,0,none⟩),.int .i64 n] w λW w'=>
   bD w' W (cQ l e n).1.length (bm (cQ l e n).1)/\W.ownBlock≠some g/\gH w' g o (cQ l e n).2.1 (cQ l e n).2.2/\D (only g) w w':=by
 have h':=h;obtain⟨v,V,aw,da,my⟩:=h;obtain⟨bf,H,f0,a_⟩:=Ma V;have cI:=aw.len Tryz.underlying101 3;refine bn Tryz.func166 Tryz.ntmps166 λaZ Z=> ?_;by_cases aO:l.length<n
 ·simp[go_sem,bf,cI,aO];refine(adG g l 4 e w h').mono ?_;rintro W w' ⟨rfl,ap,T⟩;have aj0:(mU l e 4).2≠0:=by unfold mU;split<;>simp[*]
  have ai5:=ap;obtain⟨jf,dk,jg,JF,aLP⟩:=ap;obtain⟨aLQ,aGm,f20,f21⟩:=Ma dk;have wa:((mU l e 4).2 !=0)=true:=by simpa using aj0
  simp[go_sem,aGm,wa];refine Z (.slice none 0 0) _ ⟨?_,by simp[Value.ownBlock],?_,T⟩
  ·unfold cQ;split<;>simp[bm,bD.nil]
  ·unfold cQ mU at*
   grind
 ·by_cases aV:e=0
  ·subst aV;obtain⟨gw,gE,qB,jR⟩:=aw.ad5 kB (eB l) n (by omega);obtain⟨jf,jg,wg,_,_,wC⟩:=aw.qo kB (eB l) n l.length (by omega) (Nat.le_refl _);have wC:=wC rfl;obtain⟨vh,aA,rfl,_⟩:=id jg;simp[go_sem,bf,H,f0,cI,aO,jR,wC];have rE:gw.ownBlock≠some g:=by rw[qB];exact da
   have JF:(Value.slice vh (l.length - n) aA).ownBlock≠some g:=by rw[wg];exact da
   have T:D (only g) w (w.setCell ⟨g,0,none⟩ (.slice vh (l.length - n) aA)):=(D.refl (only g) w).setCell (p:=⟨g,0,none⟩) (.inl rfl) _;have s_:∀{v:Value},v.ownBlock≠some g->∀k,v.ownBlock=some k->¬only g k:=λh k r e=>h (by rw[r,e]);have aK:cQ l 0 n=(l.take n,l.drop n,0):=by simp[cQ,aO]
   rw[aK]at Z;refine Z gw _ ⟨?_,rE,⟨_,aod V,?_,JF,by rw[wg];exact my⟩,T⟩
   ·have:=gE.ch T (s_ rE);simpa[bm,List.map_take,show min n l.length=n by omega]using this
   ·have:=jg.ch T (s_ JF);rw[show l.length=(bm l).length from(eB l).symm,List.take_length]at this;simpa[bm,List.map_drop]using this
  ·have wa:(e !=0)=true:=by simpa using aV
   simp[go_sem,bf,H,cI,aO,wa];refine Z (.slice none 0 0) _ ⟨?_,by simp[Value.ownBlock],?_,D.refl _ _⟩
   ·simp[cQ,aV,bm,bD.nil]
   ·simpa[cQ,aV]using h'
theorem Eg(g:Nat){o:Nat}(l:List UInt8)(e:Int)(n:Int)(w:World)(av:n<=9223372036854775807)(al:l.length<=1000000000)(h:gH w g o l e):
  aP Tryz.prog 115 #[.pointer (some ⟨g,0,none⟩),.int .i64 n] w λW w'=>
   w'.ownsRow 0 5 1 W (cQ l e n.toNat).1.length (bm (cQ l e n.toNat).1)/\fZ w.1.size W/\gH w' g o (cQ l e n.toNat).2.1 (cQ l e n.toNat).2.2/\D (only g) w w':=by
 refine bn Tryz.func115 Tryz.ntmps115 λaZ Z=> ?_;simp[go_sem];rw[show(if n<0 then 0 else n)=((n.toNat:Nat):Int)by split<;>omega];refine(aGl g l e n.toNat w al h).mono ?_;rintro gw ab ⟨gE,rE,jR,fY⟩;simp[go_sem];have eG:(cQ l e n.toNat).1.length<=1000000000:=by
  unfold cQ;split
  ·simp
  ·grind
 refine(ED gw _ _ ab eG rfl gE).mono ?_;rintro jf ai ⟨a',aX,bq⟩;simp[go_sem];have bU:fZ w.1.size jf:=bq.mono fY.size;refine Z _ _ ⟨a',bU,?_,fY.bJ aX λ_ _ e=>e.elim⟩;obtain⟨v3,ba,cC,cm⟩:=jR;exact⟨v3,aX.obj ba (λe=>e),cC.ch aX (λ_ _ e=>e),cm⟩
theorem Mc(v:Value)(l:List UInt8)(w:World)(al:l.length<=1000000000)(aw:bD w v l.length (bm l)):
  aP Tryz.prog 113 #[v] w λW w'=>∃g o,W=.pointer (some ⟨g,0,none⟩)/\w.1.size<=g/\w.1.size<=o/\o<w'.1.size/\gH w' g o l 0/\D ak w w':=by
 refine bn Tryz.func113 Tryz.ntmps113 λaZ Z=> ?_;simp[go_sem];refine(ED v _ _ w al rfl aw).mono ?_;rintro gw ab ⟨a',aX,bq⟩;obtain⟨ag,c,rfl,_⟩:=bD.fp a';simp[go_sem];have hz:=aX.size
 cases ag with
 |none=>
  refine Z _ _ ⟨ab.1.size,ab.1.size,rfl,aX.size,aX.size,by simp,⟨_,heap_alloc_new ab _,(bD.fp a').alloc _,λe=>by simp[Value.ownBlock]at e,λk e=>by simp[Value.ownBlock]at e⟩,aX.alloc _⟩
 |some bp=>
  have H:=(a'.lt bp.block rfl).2;have I:=bq bp.block rfl;refine Z _ _ ⟨ab.1.size,bp.block,rfl,aX.size,I,by simp;omega,⟨_,heap_alloc_new ab _,(bD.fp a').alloc _,λe=> ?_,λk e=> ?_⟩,aX.alloc _⟩
  ·simp[Value.ownBlock]at e;omega
  ·simp[Value.ownBlock]at e;omega
theorem Wm(g:Nat){o:Nat}(l:List UInt8)(e:Int)(w:World)(h:gH w g o l e):
  aP Tryz.prog 189 #[.pointer (some ⟨g,0,none⟩)] w λW w'=>W=.tuple #[]/\gH w' g o (mU l e 5).1 (mU l e 5).2/\D (only g) w w':=by
 refine bn Tryz.func189 Tryz.ntmps189 λaZ Z=> ?_;simp[go_sem];refine(adG g l 5 e w h).mono ?_;rintro gw ab ⟨rfl,a',aX⟩;simp[go_sem];exact Z _ _ ⟨rfl,a',aX⟩
theorem Mi(g:Nat){o:Nat}(l:List UInt8)(e:Int)(w:World)(h:gH w g o l e):
  aP Tryz.prog 135 #[.pointer (some ⟨g,0,none⟩)] w λW w'=>W=.int .i64 l.length/\w'=w:=by
 obtain⟨v,V,aw,da,my⟩:=h;obtain⟨bf,H,f0,a_⟩:=Ma V;have cI:=aw.len Tryz.underlying101 3;refine bn Tryz.func135 Tryz.ntmps135 λaZ Z=> ?_;simp[go_sem,bf,cI];exact Z _ _ ⟨rfl,rfl⟩
theorem aoe(g:Nat){o:Nat}(l:List UInt8)(e:Int)(w:World)(h:gH w g o l e):
  aP Tryz.prog 191 #[.pointer (some ⟨g,0,none⟩)] w λW w'=>W=.int .i64 e/\w'=w:=by
 obtain⟨v,V,aw,da,my⟩:=h;obtain⟨bf,H,f0,a_⟩:=Ma V;refine bn Tryz.func191 Tryz.ntmps191 λaZ Z=> ?_;simp[go_sem,H];exact Z _ _ ⟨rfl,rfl⟩
def rf(l:List UInt8)(e:Int):List UInt8×Int:=if 0<l.length then mU l e 5 else(l,e)
theorem Rf(g:Nat){o:Nat}(l:List UInt8)(e:Int)(w:World)(h:gH w g o l e):
  aP Tryz.prog 136 #[.pointer (some ⟨g,0,none⟩)] w λW w'=>W=.int .i64 (rf l e).2/\gH w' g o (rf l e).1 (rf l e).2/\D (only g) w w':=by
 refine bn Tryz.func136 Tryz.ntmps136 λaZ Z=> ?_;simp[go_sem];refine(Mi g l e w h).mono ?_;rintro gw ab ⟨rfl,rfl⟩;by_cases al:0<l.length
 ·simp[go_sem,al];refine(adG g l 5 e ab h).mono ?_;rintro jf ai ⟨rfl,a',aX⟩;simp[go_sem];refine(aoe g _ _ ai a').mono ?_;rintro v3 aC ⟨rfl,rfl⟩;simp[go_sem];exact Z _ _ (by simpa[rf,al]using⟨a',aX⟩)
 ·simp[go_sem,al];refine(aoe g _ _ ab h).mono ?_;rintro v3 aC ⟨rfl,rfl⟩;simp[go_sem];exact Z _ _ (by simpa[rf,al]using⟨h,D.refl _ _⟩)
def dQ:List UInt8->Nat
 |[]=>0
 |c::l=>c.toNat+256*dQ l
theorem Cj(l:List UInt8):dQ l<256^l.length:=by
 induction l with
 |nil=>simp[dQ]
 |cons c l bG=>
  have:=c.toNat_lt;simp only[dQ,List.length_cons,Nat.pow_succ];omega
theorem aGn(l:List UInt8)(c:UInt8):dQ (l++[c])=dQ l+c.toNat*256^l.length:=by
 induction l with
 |nil=>simp[dQ]
 |cons d l bG=>simp only[List.cons_append,dQ,bG,List.length_cons,Nat.pow_succ,Nat.mul_add];grind
theorem VY(l:List UInt8)(c:UInt8):dQ l|||c.toNat*256^l.length=dQ (l++[c]):=by
 rw[aGn,Nat.or_comm,Nat.add_comm];have h:256^l.length=2^(8*l.length):=by rw[Nat.pow_mul]
 have I:=Cj l;rw[h]at I⊢;rw[<-Nat.shiftLeft_eq,Nat.shiftLeft_add_eq_or_of_lt I]
theorem JD(l:List UInt8)(e:Int)(n:Nat):(cQ l e n).1.length<=n:=by
 unfold cQ
 grind
theorem aGo(l:List UInt8)(e:Int)(n:Nat):(cQ l e n).1.length<=l.length:=by
 unfold cQ
 grind
theorem sQ(aQ a:Nat)(h:a<2^aQ):(BitVec.ofInt aQ (a:Int)).toNat=a:=by
 grind
theorem aGp(m c i:Nat)(aH:m<256)(h:c*256^i<256)(aa:i<=8):bits .or .u8 (m:Int) (IntKind.u8.wrap ((c:Int)*2^(IntKind.i64.wrap (8*(i:Int))).toNat))=((m|||c*256^i:Nat):Int):=by
 have H:IntKind.i64.wrap (8*(i:Int))=((8*i:Nat):Int):=by rw[IntKind.wrap_i64];omega
 have I:(c:Int)*2^(8*i)=((c*256^i:Nat):Int):=by rw[show(256:Nat)=2^8 from rfl,<-Nat.pow_mul];simp
 have af:IntKind.u8.wrap ((c*256^i:Nat):Int)=((c*256^i:Nat):Int):=by rw[IntKind.wrap_u8];omega
 rw[H,Int.toNat_natCast,I,af];generalize c*256^i=b at*;have M:m|||b<2^8:=Nat.or_lt_two_pow (by omega) (by omega);show IntKind.u8.wrap ((BitVec.ofInt 8 (m:Int)|||BitVec.ofInt 8 (b:Int)).toNat:Int)=_;rw[BitVec.toNat_or,sQ 8 m (by omega),sQ 8 b (by omega),IntKind.wrap_u8];omega
theorem aGq(g:Nat){o:Nat}(l:List UInt8)(e:Int)(wide:Nat)(w:World)(bH:wide<=1)(al:l.length<=1000000000)(h:gH w g o l e):
  aP Tryz.prog 221 #[.pointer (some ⟨g,0,none⟩),.int .i64 wide] w λW w'=>
   W=.int .u8 (dQ (cQ l e wide).1)/\gH w' g o (cQ l e wide).2.1 (cQ l e wide).2.2/\D (only g) w w':=by
 refine bn Tryz.func221 Tryz.ntmps221 λaZ Z=> ?_;simp[go_sem];refine(Eg g l e wide w (by omega) al h).mono ?_;rintro gw ab ⟨a',aX,bq,ec⟩;simp only[Int.toNat_natCast]at a' bq;have Iv:=JD l e wide;generalize(cQ l e wide).1=J at*;have cI:=(bD.fp a').len Tryz.underlying101 3;simp[go_sem,cI];refine du (λq f bE=>∃k:Nat,k<=J.length/\q=J.length - k/\f 10=gw/\f 11=.int .i64 J.length/\f 12=.int .i64 k/\f 5=.int .u8 (dQ (J.take k))/\bE=ab) J.length ⟨0,Nat.zero_le _,rfl,by simp,by simp,by simp,by simp[dQ],rfl⟩ ?_;rintro cJ bK _ f _ ⟨k,r,rfl,jn,pz,mo,bC,rfl⟩;simp[go_sem,pz,mo];refine Ea (λaO=> ?_) (λnJ=> ?_)
 ·obtain⟨a,am,T,_⟩:=(bD.fp a').at kB (eB J) (i:=k) (u:=ca (J[k]'aO)) (by simp[bm,aO]);unfold ca at T;have I_:=(J[k]'aO).toNat_lt;have t':(J.take k).length=k:=by simp;omega
  have Aw:=VY (J.take k) (J[k]'aO);have jh:J.take k++[J[k]'aO]=J.take (k+1):=by simp_all
  rw[jh,t']at Aw;have kH:=Cj (J.take k);rw[t']at kH;generalize(J[k]'aO).toNat=c at*;generalize aH:dQ (J.take k)=m at*;have I':256^(k+1)<=256:=Nat.le_trans (Nat.pow_le_pow_right (by omega) (show k+1<=1 by omega)) (by decide);rw[Nat.pow_succ]at I';have gu:c*256^k<256:=Nat.lt_of_lt_of_le (Nat.mul_lt_mul_of_pos_right (show c<256 from I_) (Nat.pos_of_ne_zero (by simp))) (by omega);have hd:IntKind.u8.wrap (c:Int)=(c:Int):=by rw[IntKind.wrap_u8];omega
  have pf:0<=IntKind.i64.wrap (8*(k:Int))/\IntKind.i64.wrap (8*(k:Int))<=8:=by rw[IntKind.wrap_i64];omega
  obtain⟨pf,de⟩:=pf;have el:=Lib.hid ((aGp m c k (by omega) gu (by omega)).trans (by rw[Aw]));simp[go_sem,jn,mo,am,T,bC];refine cH.intro (J.length -(k+1)) (by omega) (bK _ _ _ ⟨k+1,by omega,rfl,by simpa using jn,by simpa using pz,by simp[IntKind.wrap_i64];omega,?_,rfl⟩);simp;exact el.out
 ·obtain rfl:k=J.length:=by omega
  simp[go_sem,bC];exact Z _ _ ⟨rfl,bq,ec⟩
theorem aGr(m c i:Nat)(aH:m<65536)(h:c*256^i<65536)(aa:i<=8):bits .or .u16 (m:Int) (IntKind.u16.wrap ((c:Int)*2^(IntKind.i64.wrap (8*(i:Int))).toNat))=((m|||c*256^i:Nat):Int):=by
 have H:IntKind.i64.wrap (8*(i:Int))=((8*i:Nat):Int):=by rw[IntKind.wrap_i64];omega
 have I:(c:Int)*2^(8*i)=((c*256^i:Nat):Int):=by rw[show(256:Nat)=2^8 from rfl,<-Nat.pow_mul];simp
 have af:IntKind.u16.wrap ((c*256^i:Nat):Int)=((c*256^i:Nat):Int):=by rw[IntKind.wrap_u16];omega
 rw[H,Int.toNat_natCast,I,af];generalize c*256^i=b at*;have M:m|||b<2^16:=Nat.or_lt_two_pow (by omega) (by omega);show IntKind.u16.wrap ((BitVec.ofInt 16 (m:Int)|||BitVec.ofInt 16 (b:Int)).toNat:Int)=_;rw[BitVec.toNat_or,sQ 16 m (by omega),sQ 16 b (by omega),IntKind.wrap_u16];omega
theorem aGs(g:Nat){o:Nat}(l:List UInt8)(e:Int)(wide:Nat)(w:World)(bH:wide<=2)(al:l.length<=1000000000)(h:gH w g o l e):
  aP Tryz.prog 167 #[.pointer (some ⟨g,0,none⟩),.int .i64 wide] w λW w'=>
   W=.int .u16 (dQ (cQ l e wide).1)/\gH w' g o (cQ l e wide).2.1 (cQ l e wide).2.2/\D (only g) w w':=by
 refine bn Tryz.func167 Tryz.ntmps167 λaZ Z=> ?_;simp[go_sem];refine(Eg g l e wide w (by omega) al h).mono ?_;rintro gw ab ⟨a',aX,bq,ec⟩;simp only[Int.toNat_natCast]at a' bq;have Iv:=JD l e wide;generalize(cQ l e wide).1=J at*;have cI:=(bD.fp a').len Tryz.underlying101 3;simp[go_sem,cI];refine du (λq f bE=>∃k:Nat,k<=J.length/\q=J.length - k/\f 10=gw/\f 11=.int .i64 J.length/\f 12=.int .i64 k/\f 5=.int .u16 (dQ (J.take k))/\bE=ab) J.length ⟨0,Nat.zero_le _,rfl,by simp,by simp,by simp,by simp[dQ],rfl⟩ ?_;rintro cJ bK _ f _ ⟨k,r,rfl,jn,pz,mo,bC,rfl⟩;simp[go_sem,pz,mo];refine Ea (λaO=> ?_) (λnJ=> ?_)
 ·obtain⟨a,am,T,_⟩:=(bD.fp a').at kB (eB J) (i:=k) (u:=ca (J[k]'aO)) (by simp[bm,aO]);unfold ca at T;have I_:=(J[k]'aO).toNat_lt;have t':(J.take k).length=k:=by simp;omega
  have Aw:=VY (J.take k) (J[k]'aO);have jh:J.take k++[J[k]'aO]=J.take (k+1):=by simp_all
  rw[jh,t']at Aw;have kH:=Cj (J.take k);rw[t']at kH;generalize(J[k]'aO).toNat=c at*;generalize aH:dQ (J.take k)=m at*;have I':256^(k+1)<=65536:=Nat.le_trans (Nat.pow_le_pow_right (by omega) (show k+1<=2 by omega)) (by decide);rw[Nat.pow_succ]at I';have gu:c*256^k<65536:=Nat.lt_of_lt_of_le (Nat.mul_lt_mul_of_pos_right (show c<256 from I_) (Nat.pos_of_ne_zero (by simp))) (by omega);have hd:IntKind.u16.wrap (c:Int)=(c:Int):=by rw[IntKind.wrap_u16];omega
  have pf:0<=IntKind.i64.wrap (8*(k:Int))/\IntKind.i64.wrap (8*(k:Int))<=16:=by rw[IntKind.wrap_i64];omega
  obtain⟨pf,de⟩:=pf;have el:=Lib.hid ((aGr m c k (by omega) gu (by omega)).trans (by rw[Aw]));simp[go_sem,jn,mo,am,T,bC,hd];refine cH.intro (J.length -(k+1)) (by omega) (bK _ _ _ ⟨k+1,by omega,rfl,by simpa using jn,by simpa using pz,by simp[IntKind.wrap_i64];omega,?_,rfl⟩);simp;exact el.out
 ·obtain rfl:k=J.length:=by omega
  simp[go_sem,bC];exact Z _ _ ⟨rfl,bq,ec⟩
theorem aGt(m c i:Nat)(aH:m<4294967296)(h:c*256^i<4294967296)(aa:i<=8):bits .or .u32 (m:Int) (IntKind.u32.wrap ((c:Int)*2^(IntKind.i64.wrap (8*(i:Int))).toNat))=((m|||c*256^i:Nat):Int):=by
 have H:IntKind.i64.wrap (8*(i:Int))=((8*i:Nat):Int):=by rw[IntKind.wrap_i64];omega
 have I:(c:Int)*2^(8*i)=((c*256^i:Nat):Int):=by rw[show(256:Nat)=2^8 from rfl,<-Nat.pow_mul];simp
 have af:IntKind.u32.wrap ((c*256^i:Nat):Int)=((c*256^i:Nat):Int):=by rw[IntKind.wrap_u32];omega
 rw[H,Int.toNat_natCast,I,af];generalize c*256^i=b at*;have M:m|||b<2^32:=Nat.or_lt_two_pow (by omega) (by omega);show IntKind.u32.wrap ((BitVec.ofInt 32 (m:Int)|||BitVec.ofInt 32 (b:Int)).toNat:Int)=_;rw[BitVec.toNat_or,sQ 32 m (by omega),sQ 32 b (by omega),IntKind.wrap_u32];omega
theorem aGu(g:Nat){o:Nat}(l:List UInt8)(e:Int)(wide:Nat)(w:World)(bH:wide<=4)(al:l.length<=1000000000)(h:gH w g o l e):
  aP Tryz.prog 222 #[.pointer (some ⟨g,0,none⟩),.int .i64 wide] w λW w'=>
   W=.int .u32 (dQ (cQ l e wide).1)/\gH w' g o (cQ l e wide).2.1 (cQ l e wide).2.2/\D (only g) w w':=by
 refine bn Tryz.func222 Tryz.ntmps222 λaZ Z=> ?_;simp[go_sem];refine(Eg g l e wide w (by omega) al h).mono ?_;rintro gw ab ⟨a',aX,bq,ec⟩;simp only[Int.toNat_natCast]at a' bq;have Iv:=JD l e wide;generalize(cQ l e wide).1=J at*;have cI:=(bD.fp a').len Tryz.underlying101 3;simp[go_sem,cI];refine du (λq f bE=>∃k:Nat,k<=J.length/\q=J.length - k/\f 10=gw/\f 11=.int .i64 J.length/\f 12=.int .i64 k/\f 5=.int .u32 (dQ (J.take k))/\bE=ab) J.length ⟨0,Nat.zero_le _,rfl,by simp,by simp,by simp,by simp[dQ],rfl⟩ ?_;rintro cJ bK _ f _ ⟨k,r,rfl,jn,pz,mo,bC,rfl⟩;simp[go_sem,pz,mo];refine Ea (λaO=> ?_) (λnJ=> ?_)
 ·obtain⟨a,am,T,_⟩:=(bD.fp a').at kB (eB J) (i:=k) (u:=ca (J[k]'aO)) (by simp[bm,aO]);unfold ca at T;have I_:=(J[k]'aO).toNat_lt;have t':(J.take k).length=k:=by simp;omega
  have Aw:=VY (J.take k) (J[k]'aO);have jh:J.take k++[J[k]'aO]=J.take (k+1):=by simp_all
  rw[jh,t']at Aw;have kH:=Cj (J.take k);rw[t']at kH;generalize(J[k]'aO).toNat=c at*;generalize aH:dQ (J.take k)=m at*;have I':256^(k+1)<=4294967296:=Nat.le_trans (Nat.pow_le_pow_right (by omega) (show k+1<=4 by omega)) (by decide);rw[Nat.pow_succ]at I';have gu:c*256^k<4294967296:=Nat.lt_of_lt_of_le (Nat.mul_lt_mul_of_pos_right (show c<256 from I_) (Nat.pos_of_ne_zero (by simp))) (by omega);have hd:IntKind.u32.wrap (c:Int)=(c:Int):=by rw[IntKind.wrap_u32];omega
  have pf:0<=IntKind.i64.wrap (8*(k:Int))/\IntKind.i64.wrap (8*(k:Int))<=32:=by rw[IntKind.wrap_i64];omega
  obtain⟨pf,de⟩:=pf;have el:=Lib.hid ((aGt m c k (by omega) gu (by omega)).trans (by rw[Aw]));simp[go_sem,jn,mo,am,T,bC,hd];refine cH.intro (J.length -(k+1)) (by omega) (bK _ _ _ ⟨k+1,by omega,rfl,by simpa using jn,by simpa using pz,by simp[IntKind.wrap_i64];omega,?_,rfl⟩);simp;exact el.out
 ·obtain rfl:k=J.length:=by omega
  simp[go_sem,bC];exact Z _ _ ⟨rfl,bq,ec⟩
theorem aGv(m c i:Nat)(aH:m<18446744073709551616)(h:c*256^i<18446744073709551616)(aa:i<=8):bits .or .u64 (m:Int) (IntKind.u64.wrap ((c:Int)*2^(IntKind.i64.wrap (8*(i:Int))).toNat))=((m|||c*256^i:Nat):Int):=by
 have H:IntKind.i64.wrap (8*(i:Int))=((8*i:Nat):Int):=by rw[IntKind.wrap_i64];omega
 have I:(c:Int)*2^(8*i)=((c*256^i:Nat):Int):=by rw[show(256:Nat)=2^8 from rfl,<-Nat.pow_mul];simp
 have af:IntKind.u64.wrap ((c*256^i:Nat):Int)=((c*256^i:Nat):Int):=by rw[IntKind.wrap_u64];omega
 rw[H,Int.toNat_natCast,I,af];generalize c*256^i=b at*;have M:m|||b<2^64:=Nat.or_lt_two_pow (by omega) (by omega);show IntKind.u64.wrap ((BitVec.ofInt 64 (m:Int)|||BitVec.ofInt 64 (b:Int)).toNat:Int)=_;rw[BitVec.toNat_or,sQ 64 m (by omega),sQ 64 b (by omega),IntKind.wrap_u64];omega
theorem aGw(g:Nat){o:Nat}(l:List UInt8)(e:Int)(wide:Nat)(w:World)(bH:wide<=8)(al:l.length<=1000000000)(h:gH w g o l e):
  aP Tryz.prog 165 #[.pointer (some ⟨g,0,none⟩),.int .i64 wide] w λW w'=>
   W=.int .u64 (dQ (cQ l e wide).1)/\gH w' g o (cQ l e wide).2.1 (cQ l e wide).2.2/\D (only g) w w':=by
 refine bn Tryz.func165 Tryz.ntmps165 λaZ Z=> ?_;simp[go_sem];refine(Eg g l e wide w (by omega) al h).mono ?_;rintro gw ab ⟨a',aX,bq,ec⟩;simp only[Int.toNat_natCast]at a' bq;have Iv:=JD l e wide;generalize(cQ l e wide).1=J at*;have cI:=(bD.fp a').len Tryz.underlying101 3;simp[go_sem,cI];refine du (λq f bE=>∃k:Nat,k<=J.length/\q=J.length - k/\f 10=gw/\f 11=.int .i64 J.length/\f 12=.int .i64 k/\f 5=.int .u64 (dQ (J.take k))/\bE=ab) J.length ⟨0,Nat.zero_le _,rfl,by simp,by simp,by simp,by simp[dQ],rfl⟩ ?_;rintro cJ bK _ f _ ⟨k,r,rfl,jn,pz,mo,bC,rfl⟩;simp[go_sem,pz,mo];refine Ea (λaO=> ?_) (λnJ=> ?_)
 ·obtain⟨a,am,T,_⟩:=(bD.fp a').at kB (eB J) (i:=k) (u:=ca (J[k]'aO)) (by simp[bm,aO]);unfold ca at T;have I_:=(J[k]'aO).toNat_lt;have t':(J.take k).length=k:=by simp;omega
  have Aw:=VY (J.take k) (J[k]'aO);have jh:J.take k++[J[k]'aO]=J.take (k+1):=by simp_all
  rw[jh,t']at Aw;have kH:=Cj (J.take k);rw[t']at kH;generalize(J[k]'aO).toNat=c at*;generalize aH:dQ (J.take k)=m at*;have I':256^(k+1)<=18446744073709551616:=Nat.le_trans (Nat.pow_le_pow_right (by omega) (show k+1<=8 by omega)) (by decide);rw[Nat.pow_succ]at I';have gu:c*256^k<18446744073709551616:=Nat.lt_of_lt_of_le (Nat.mul_lt_mul_of_pos_right (show c<256 from I_) (Nat.pos_of_ne_zero (by simp))) (by omega);have hd:IntKind.u64.wrap (c:Int)=(c:Int):=by rw[IntKind.wrap_u64];omega
  have pf:0<=IntKind.i64.wrap (8*(k:Int))/\IntKind.i64.wrap (8*(k:Int))<=64:=by rw[IntKind.wrap_i64];omega
  obtain⟨pf,de⟩:=pf;have el:=Lib.hid ((aGv m c k (by omega) gu (by omega)).trans (by rw[Aw]));simp[go_sem,jn,mo,am,T,bC,hd];refine cH.intro (J.length -(k+1)) (by omega) (bK _ _ _ ⟨k+1,by omega,rfl,by simpa using jn,by simpa using pz,by simp[IntKind.wrap_i64];omega,?_,rfl⟩);simp;exact el.out
 ·obtain rfl:k=J.length:=by omega
  simp[go_sem,bC];exact Z _ _ ⟨rfl,bq,ec⟩
theorem Wd(g:Nat){o:Nat}(l:List UInt8)(e:Int)(w:World)(al:l.length<=1000000000)(h:gH w g o l e):
  aP Tryz.prog 187 #[.pointer (some ⟨g,0,none⟩)] w λW w'=>
   W=.int .u8 (dQ (cQ l e 1).1)/\gH w' g o (cQ l e 1).2.1 (cQ l e 1).2.2/\D (only g) w w':=by
 refine bn Tryz.func187 Tryz.ntmps187 λaZ Z=> ?_;simp[go_sem];refine(aGq g l e 1 w (by omega) al h).mono ?_;rintro gw ab ⟨rfl,a',aX⟩;simp[go_sem];exact Z _ _ ⟨rfl,a',aX⟩
theorem Ra(g:Nat){o:Nat}(l:List UInt8)(e:Int)(w:World)(al:l.length<=1000000000)(h:gH w g o l e):
  aP Tryz.prog 116 #[.pointer (some ⟨g,0,none⟩)] w λW w'=>
   W=.int .u16 (dQ (cQ l e 2).1)/\gH w' g o (cQ l e 2).2.1 (cQ l e 2).2.2/\D (only g) w w':=by
 refine bn Tryz.func116 Tryz.ntmps116 λaZ Z=> ?_;simp[go_sem];refine(aGs g l e 2 w (by omega) al h).mono ?_;rintro gw ab ⟨rfl,a',aX⟩;simp[go_sem];exact Z _ _ ⟨rfl,a',aX⟩
theorem adS(g:Nat){o:Nat}(l:List UInt8)(e:Int)(w:World)(al:l.length<=1000000000)(h:gH w g o l e):
  aP Tryz.prog 188 #[.pointer (some ⟨g,0,none⟩)] w λW w'=>
   W=.int .u32 (dQ (cQ l e 4).1)/\gH w' g o (cQ l e 4).2.1 (cQ l e 4).2.2/\D (only g) w w':=by
 refine bn Tryz.func188 Tryz.ntmps188 λaZ Z=> ?_;simp[go_sem];refine(aGu g l e 4 w (by omega) al h).mono ?_;rintro gw ab ⟨rfl,a',aX⟩;simp[go_sem];exact Z _ _ ⟨rfl,a',aX⟩
theorem We(g:Nat){o:Nat}(l:List UInt8)(e:Int)(w:World)(al:l.length<=1000000000)(h:gH w g o l e):
  aP Tryz.prog 114 #[.pointer (some ⟨g,0,none⟩)] w λW w'=>
   W=.int .u64 (dQ (cQ l e 8).1)/\gH w' g o (cQ l e 8).2.1 (cQ l e 8).2.2/\D (only g) w w':=by
 refine bn Tryz.func114 Tryz.ntmps114 λaZ Z=> ?_;simp[go_sem];refine(aGw g l e 8 w (by omega) al h).mono ?_;rintro gw ab ⟨rfl,a',aX⟩;simp[go_sem];exact Z _ _ ⟨rfl,a',aX⟩
def nU(l:List UInt8):Bool:=l.any λc=>c !=0
def tK(l:List UInt8)(e:Int)(n:Nat):List UInt8×Int:=
 if nU (cQ l e n).1 then mU (cQ l e n).2.1 (cQ l e n).2.2 5 else(cQ l e n).2
theorem aGx(l:List UInt8)(c:UInt8):nU (l++[c])=(nU l||c !=0):=by simp[nU]
theorem aGy(l:List UInt8)(e:Int):mU (mU l e 5).1 (mU l e 5).2 5=mU l e 5:=by
 unfold mU
 grind
theorem Re(g:Nat){o:Nat}(l:List UInt8)(e:Int)(n:Int)(w:World)(av:n<=9223372036854775807)(al:l.length<=1000000000)(h:gH w g o l e):
  aP Tryz.prog 134 #[.pointer (some ⟨g,0,none⟩),.int .i64 n] w λW w'=>
   W=.tuple #[]/\gH w' g o (tK l e n.toNat).1 (tK l e n.toNat).2/\D (only g) w w':=by
 refine bn Tryz.func134 Tryz.ntmps134 λaZ Z=> ?_;simp[go_sem];refine(Eg g l e n w av al h).mono ?_;have aF:=h.lt;rintro gw ab ⟨a',aX,bq,ec⟩;unfold tK at Z;have FE:=Nat.le_trans (aGo l e n.toNat) al;generalize cQ l e n.toNat=st at*;obtain⟨J,l',dM⟩:=st;simp only at a' bq Z FE;have cI:=(bD.fp a').len Tryz.underlying101 3;simp[go_sem,cI];refine du (λq f bE=>∃k:Nat,k<=J.length/\q=J.length - k/\f 0=.pointer (some ⟨g,0,none⟩)/\f 8=gw/\f 9=.int .i64 J.length/\f 10=.int .i64 k/\
   (∃st,st=(if nU (J.take k)then mU l' dM 5 else(l',dM))/\gH bE g o st.1 st.2)/\D (only g) ab bE) J.length
  ⟨0,Nat.zero_le _,rfl,by simp,by simp,by simp,by simp,⟨_,rfl,by simpa[nU]using bq⟩,D.refl _ _⟩ ?_
 rintro cJ bK _ f bE ⟨k,r,rfl,bf,eb,hl,jn,⟨st,el,ap⟩,T⟩;simp[go_sem,hl,jn];refine Ea (λaO=> ?_) (λnJ=> ?_)
 ·have eT:=ej a' T λj F (e:j=g)=>by
   have:=aX j F;omega
  obtain⟨a,am,kz,_⟩:=(bD.fp eT).at kB (eB J) (i:=k) (u:=ca (J[k]'aO)) (by simp[bm,aO]);unfold ca at kz;have jh:J.take (k+1)=J.take k++[J[k]'aO]:=by simp_all
  have oC:=aGx (J.take k) (J[k]'aO);rw[<-jh]at oC;have el:=Lib.hid el;by_cases hz:J[k]'aO=0
  ·have ua:(J[k]'aO).toNat=0:=by rw[hz];rfl
   rw[hz]at oC;have oC:=Lib.hid oC;simp[go_sem,eb,jn,am,kz,ua];refine cH.intro (J.length -(k+1)) (by omega) (bK _ _ _ ⟨k+1,by omega,rfl,by simpa using bf,by simpa using eb,by simpa using hl,by simp[IntKind.wrap_i64];omega,⟨st,?_,ap⟩,T⟩)
   grind
  ·have ua:(((J[k]'aO).toNat:Int)!=0)=true:=by
    simp;intro h;exact hz (by rw[<-UInt8.toNat_inj];exact h)
   have iu:(J[k]'aO !=0)=true:=by simpa using hz
   rw[iu]at oC;have oC:=Lib.hid oC;clear iu;simp[go_sem,bf,eb,jn,am,kz,ua];refine(Wm g _ _ bE ap).mono ?_;rintro jf ai ⟨rfl,ba,cC⟩;simp[go_sem,jn];refine cH.intro (J.length -(k+1)) (by omega) (bK _ _ _ ⟨k+1,by omega,rfl,by simpa using bf,by simpa using eb,by simpa using hl,by simp[IntKind.wrap_i64];omega,⟨_,?_,ba⟩,T.trans cC⟩);rw[el.out,oC.out];simp;split
   ·exact aGy _ _
   ·rfl
 ·obtain rfl:k=J.length:=by omega
  simp[go_sem];rw[List.take_length]at el;rw[el]at ap;exact Z _ _ ⟨rfl,ap,ec.trans T⟩
end Go.Proofs.YtoohkhcpboldjaaGreatDoor
