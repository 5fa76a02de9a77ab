/- Whole numbers sorted: a few steps of insertion. No condition. -/
import Derived.Test.YtoohkhcpboldjaaGreatDoorOvG
set_option maxRecDepth 100000
set_option maxHeartbeats 16000000
set_option linter.unusedSimpArgs false
set_option linter.unusedVariables false
namespace Go.Proofs.YtoohkhcpboldjaaGreatDoor.SS
open Go.RowKit Go.Kin Go.Maps Go.Sort
abbrev E(bb:Bool):Type:=Fin (bif bb then 65536 else 4294967296)
instance(bb:Bool):Inhabited (E bb):=⟨⟨0,by cases bb<;>decide⟩⟩
def c'(bb:Bool)(a:E bb):Value:=.int (bif bb then .u16 else .u32) a.val
@[simp] theorem mm(a:E true):c' true a=.int .u16 a.val:=rfl
@[simp] theorem mn(a:E false):c' false a=.int .u32 a.val:=rfl
variable{bb:Bool}
def aBd{bb:Bool}(_:Array (E bb)):FuncId:=bif bb then 223 else 271
def ali{bb:Bool}(_:Array (E bb)):FuncId:=bif bb then 249 else 285
def aBe{bb:Bool}(_:Array (E bb)):FuncId:=bif bb then 224 else 272
def alf{bb:Bool}(_:Array (E bb)):FuncId:=bif bb then 231 else 279
def alh{bb:Bool}(_:Array (E bb)):FuncId:=bif bb then 230 else 278
def alj{bb:Bool}(_:Array (E bb)):FuncId:=bif bb then 228 else 276
def aBf{bb:Bool}(_:Array (E bb)):FuncId:=bif bb then 227 else 275
def aBg{bb:Bool}(_:Array (E bb)):FuncId:=bif bb then 225 else 273
def aBh{bb:Bool}(_:Array (E bb)):FuncId:=bif bb then 280 else 289
def aBi{bb:Bool}(_:Array (E bb)):FuncId:=bif bb then 253 else 287
def aBj{bb:Bool}(_:Array (E bb)):FuncId:=bif bb then 252 else 286
def aBk{bb:Bool}(_:Array (E bb)):FuncId:=bif bb then 226 else 274
def alk{bb:Bool}(_:Array (E bb)):FuncId:=bif bb then 193 else 246
def aBl{bb:Bool}(_:Array (E bb)):FuncId:=bif bb then 139 else 216
def aBm{bb:Bool}(_:E bb):FuncId:=bif bb then 254 else 242
def aBn{bb:Bool}(_:E bb):FuncId:=bif bb then 229 else 277
def lt(x y:(E bb)):Bool:=decide (x<y)
theorem Qb:SWO (lt (bb:=bb)) where
 irrefl x:=by simp[lt]
 trans x y z H I:=by
  simp only[lt,decide_eq_true_eq,Fin.lt_def]at*;omega
 ntrans x y z H I:=by
  simp only[lt,decide_eq_false_iff_not,Fin.lt_def]at*;omega
abbrev dI(blk n cap:Nat):Value:=.slice (some ⟨blk,0,none⟩) n cap
theorem en(x:Int)(m:Nat)(h:x=m)(I:m<=1000000):IntKind.i64.wrap x=m:=by rw[IntKind.wrap_i64];omega
theorem aBo(x:(E bb))(w:World):aP Tryz.prog (aBm x) #[c' _ x] w λW w'=>W=.bool false/\w'=w:=by
 cases bb
 all_goals
  first|refine bn Tryz.func254 Tryz.ntmps254 λaZ Z=> ?_|refine bn Tryz.func242 Tryz.ntmps242 λaZ Z=> ?_
  simp[go_sem];exact Z _ _ ⟨rfl,rfl⟩
theorem tC(x y:(E bb))(w:World):aP Tryz.prog (aBn x) #[c' _ x,c' _ y] w λW w'=>W=.bool (lt x y)/\w'=w:=by
 cases bb
 all_goals
  first|refine bn Tryz.func229 Tryz.ntmps229 λaZ Z=> ?_|refine bn Tryz.func277 Tryz.ntmps277 λaZ Z=> ?_
  simp[go_sem];refine(aBo x w).mono ?_;rintro _ ab ⟨rfl,bH⟩;subst ab;simp[go_sem];refine Z _ _ ⟨?_,rfl⟩;congr 1
section
variable{w u:World}{blk aQ i j:Nat}{d au:Array (E bb)}{x y:(E bb)}
theorem rd(h:dm (c' _) u blk au)(r:au.size=aQ)(aa:i<aQ):∃x,au[i]! =x/\u.cell? ⟨blk,i,none⟩=some (c' _ x)/\(i:Int)<aQ/\u.frozen? ⟨blk,i,none⟩=false:=by
 subst r;exact⟨_,rfl,h.cell aa,by omega,h.aAH i⟩
theorem Ce(h:dm (c' _) u blk au)(r:au.size=aQ)(F:j<aQ)(i:Nat)(y:(E bb)):∃z,(u.setCell ⟨blk,i,none⟩ (c' _ y)).cell? ⟨blk,j,none⟩=some z:=by
 subst r;obtain⟨di,bl,V,I⟩:=h;have aw:=(Array.getElem?_eq_some_iff.1 (I j F)).1;have dk:(u.setCell ⟨blk,i,none⟩ (c' _ y)).1[blk]? =some (.cells (di.setIfInBounds i (c' _ y)) bl (0,0)):=by simp_all
 exact⟨_,(aG dk j).trans (Array.getElem?_eq_getElem (by simpa using aw))⟩
theorem sI(h:dm (c' _) u blk au)(r:au.size=aQ)(aa:i<aQ)(F:j<aQ)(M:au[i]! =x)(ar:au[j]! =y):
  dm (c' _) ((u.setCell ⟨blk,i,none⟩ (c' _ y)).setCell ⟨blk,j,none⟩ (c' _ x)) blk (swp au i j)/\(swp au i j).size=aQ/\D (aj blk) u ((u.setCell ⟨blk,i,none⟩ (c' _ y)).setCell ⟨blk,j,none⟩ (c' _ x)):=by
 subst r M ar;exact⟨h.swp aa F,size_swp _ _ _,D.swp _ _ _ _⟩
theorem aBp(h:dm (c' _) w blk d)(a b cap:Nat)(fE:a<=b)(V:b<=d.size)(cL:d.size<=255):
  aP Tryz.prog (aBd d) #[dI blk d.size cap,.int .i64 a,.int .i64 b] w λ_ w'=>dm (c' _) w' blk (insertionSort lt d a b)/\D (aj blk) w w':=by
 cases bb
 all_goals
  first|refine bn Tryz.func223 Tryz.ntmps223 λaZ Z=> ?_|refine bn Tryz.func271 Tryz.ntmps271 λaZ Z=> ?_
  have de:=en ((a:Int)+1) (a+1) (by omega) (by omega);obtain⟨aQ,dE⟩:=az (d.size);rw[dE]at V cL⊢;simp[go_sem,de];refine du (λJ f u=>∃i au,J=b+1 - i/\a<i/\i<=b+1/\f 6=.int .i64 i/\(f 0=dI blk aQ cap/\f 1=.int .i64 a/\f 2=.int .i64 b)/\au.size=aQ/\dm (c' _) u blk au/\insOuter lt a b i au=insOuter lt a b (a+1) d/\D (aj blk) w u) (b+1 -(a+1))
   ⟨a+1,d,rfl,by omega,by omega,by simp,by simp,dE,h,rfl,D.refl _ _⟩ ?_
  rintro cJ bK _ f u ⟨i,au,rfl,abV,abW,f6,⟨f0,a_,bh⟩,r,an,eV,aJ⟩;by_cases aO:i<b
  ·have jm:(i:Int)<b:=by omega
   simp[go_sem,f6,bh,jm,aO];refine du (λJ f u=>∃j sA,J=j+1/\a<=j/\j<=i/\f 7=.int .i64 j/\f 6=.int .i64 i/\(f 0=dI blk aQ cap/\f 1=.int .i64 a/\f 2=.int .i64 b)/\sA.size=aQ/\dm (c' _) u blk sA/\insInner lt a j sA=insInner lt a i au/\D (aj blk) w u) (i+1)
    ⟨i,au,rfl,by omega,by omega,by simp,by simp[f6],by simp[f0,a_,bh],r,an,rfl,aJ⟩ ?_
   clear f0 a_ bh f6 f;rintro CO pV _ f u ⟨j,sA,rfl,yp,nl,cg,f6,⟨f0,a_,bh⟩,Qc,UU,bP,abX⟩;have ru:=UU.drew;have alm:=en ((i:Int)+1) (i+1) (by omega) (by omega);have out:(j<=a\/lt sA[j]! sA[j - 1]! =false)->insOuter lt a b (i+1) sA=insOuter lt a b (a+1) d:=λaw=>by
    rw[<-eV,aAL _ _ _ _ aO,<-bP,aAK _ _ _ aw]
   by_cases F:a<j
   ·have jt:(a:Int)<j:=by omega
    obtain⟨q,aq⟩:∃q,j=q+1:=⟨j - 1,by omega⟩;have rm:j - 1=q:=by omega
    have kJ:=en ((j:Int) - 1) q (by omega) (by omega);have hB:j<aQ:=by omega
    have tE:q<aQ:=by omega
    obtain⟨x,M,cx,qV,hC⟩:=rd UU Qc hB;obtain⟨y,ar,fg,Gc,kf⟩:=rd UU Qc tE;simp[go_sem];refine cD [A 0,A 1,A 2,A 3,A 4,A 5,A 6,A 7,A 8,A 9,A 10,A 11,A 12,(13,some []),A 14] ?_;simp[go_sem,f0,a_,bh,cg,jt,F,kJ,hB,tE,qV,Gc,cx,fg];refine(tC x y _).mono ?_;rintro _ ai ⟨rfl,hd⟩;subst ai
    cases al:lt x y with
    |true=>
     simp[go_sem];obtain⟨gi,eH,gX⟩:=sI UU Qc hB tE M ar;simp only[mm,mn]at gi gX;refine cD [A 0,A 1,A 2,A 3,A 4,A 5,A 6,A 7,A 8,A 9,A 10,A 11,A 12,A 13,A 14,(15,some [2,3,4]),A 16,(17,some [])] ?_;simp[go_sem,f0,a_,bh,cg,kJ,hB,tE,qV,Gc,cx,fg,hC,kf];exact cH.intro (q+1) (by omega) (pV _ _ _ ⟨q,_,rfl,by omega,by omega,by simp,by simp[f6],by simp[f0,a_,bh],eH,gi,by rw[<-bP,aAJ a j sA F (by rw[M,rm,ar];exact al),rm],(abX.trans gX).drew.drew⟩)
    |false=>
     simp[go_sem,f6,alm];exact cH.intro (b+1 -(i+1)) (by omega) (bK _ _ _ ⟨i+1,sA,rfl,by omega,by omega,by simp,by simp[f0,a_,bh],Qc,ru,out (.inr (by rw[M,rm,ar];exact al)),abX.drew⟩)
   ·have jt:¬(a:Int)<j:=by omega
    simp[go_sem];refine cD [A 0,A 1,A 2,A 3,A 4,A 5,A 6,A 7,A 8,A 9,A 10,A 11,A 12,(13,some []),A 14] ?_;simp[go_sem,f0,a_,bh,f6,cg,jt,F,alm];exact cH.intro (b+1 -(i+1)) (by omega) (bK _ _ _ ⟨i+1,sA,rfl,by omega,by omega,by simp,by simp[f0,a_,bh],Qc,ru,out (.inl (by omega)),abX.drew⟩)
  ·have jm:¬(i:Int)<b:=by omega
   simp[go_sem,f6,bh,jm,aO];refine Z _ _ ⟨?_,aJ⟩;rw[insertionSort,<-eV,aAM _ _ _ _ aO];exact an
theorem abY(h:dm (c' _) w blk d)(vE aa first cap:Nat)(V:first+aa<=d.size)(cL:d.size<=255)(Lv:vE<=255):
  aP Tryz.prog (ali d) #[dI blk d.size cap,.int .i64 vE,.int .i64 aa,.int .i64 first] w λ_ w'=>dm (c' _) w' blk (siftDown lt aa first vE d)/\D (aj blk) w w':=by
 cases bb
 all_goals
  first|refine bn Tryz.func249 Tryz.ntmps249 λaZ Z=> ?_|refine bn Tryz.func285 Tryz.ntmps285 λaZ Z=> ?_
  obtain⟨aQ,dE⟩:=az (d.size);rw[dE]at V cL⊢;simp[go_sem];refine du (λJ f u=>∃bu au,J=aa - bu/\f 8=.int .i64 bu/\(f 0=dI blk aQ cap/\f 2=.int .i64 aa/\f 3=.int .i64 first/\bu<=255)/\au.size=aQ/\dm (c' _) u blk au/\siftDown lt aa first bu au=siftDown lt aa first vE d/\D (aj blk) w u) (aa - vE)
   ⟨vE,d,rfl,by simp,by simp[Lv],dE,h,rfl,D.refl _ _⟩ ?_
  rintro cJ bK _ f u ⟨bu,au,rfl,bz,⟨f0,bh,bV,aJc⟩,r,an,cf,aJ⟩;obtain⟨m,aH⟩:=az (2*bu);obtain⟨c,T⟩:=az (m+1);have zk:=en (2*(bu:Int)) m (by omega) (by omega);have aln:=en ((m:Int)+1) c (by omega) (by omega);have aW:2*bu+1=c:=by omega
  have dt:2*bu+2=c+1:=by omega
  have he:=abE (lt:=lt) aa first bu au
  rw[aW,dt]at he;by_cases nJ:c>=aa
  ·have abZ:(aa:Int)<=c:=by omega
   simp[go_sem,bz,bh,zk,aln,nJ,abZ];exact Z _ _ ⟨by grind,aJ⟩
  rw[if_neg nJ]at he;have abZ:¬(aa:Int)<=c:=by omega
  have aBq:¬aa<=c:=by omega
  obtain⟨e,aV⟩:=az (c+1);have Gd:=en ((c:Int)+1) e (by omega) (by omega);obtain⟨nC,ap⟩:=az (first+bu);have lA:=en ((first:Int)+bu) nC (by omega) (by omega);have Lw:nC<aQ:=by omega
  obtain⟨p,ah⟩:=az (first+c);have oB:=en ((first:Int)+c) p (by omega) (by omega);have jA:p<aQ:=by omega
  obtain⟨x,M,cx,qU,hC⟩:=rd an r jA;rw[aV,ap,ah]at he;simp[go_sem,bz,bh,zk,aln,abZ,aBq];by_cases aO:e<aa
  ·have wT:(e:Int)<aa:=by omega
   obtain⟨nZ,fW⟩:=az (p+1);have aBr:=en ((p:Int)+1) nZ (by omega) (by omega);have alo:=en ((first:Int)+e) nZ (by omega) (by omega);have alp:first+e=nZ:=by omega
   have UV:nZ<aQ:=by omega
   obtain⟨y,ar,fg,ab0,kf⟩:=rd an r UV;refine cD [A 0,A 1,A 2,A 3,A 4,A 5,A 6,A 7,A 8,A 9,A 10,A 11,A 12,A 13,A 14,A 15,A 16,A 17,(18,some []),A 19] ?_;simp[go_sem,f0,bh,bV,bz,Gd,aO,wT,oB,aBr,jA,qU,UV,ab0,cx,fg];refine(tC x y _).mono ?_;rintro _ ai ⟨rfl,hd⟩;subst ai
   cases al:lt x y with
   |true=>
    have Ds:=he;rw[alp]at Ds;rw[if_pos (by simp[aO,M,ar,al])]at Ds;have ef:True:=trivial;simp[go_sem,Gd];obtain⟨z,hz,mP,Ge,ip⟩:=rd an r (show nC<aQ by omega);refine cD [A 0,A 1,A 2,A 3,A 4,A 5,A 6,A 7,A 8,A 9,A 10,A 11,(12,some []),A 13] ?_;simp[go_sem,f0,bh,bV,bz,ef,lA,alo,Lw,Ge,mP,UV,ab0,fg,kf];refine(tC z y _).mono ?_;rintro _ ai ⟨rfl,hd⟩;subst ai
    cases yQ:lt z y with
    |false=>
     simp[go_sem];exact Z _ _ ⟨by rw[<-cf,Ds];simp only[hz,yQ,ar,Bool.not_false,if_true];exact an,by(repeat apply D.drew);exact aJ⟩
    |true=>
     simp[go_sem];obtain⟨gi,eH,gX⟩:=sI an r (show nC<aQ by omega) (show nZ<aQ by omega) hz ar;simp only[mm,mn]at gi gX;refine cD [A 0,A 1,A 2,A 3,A 4,A 5,A 6,A 7,A 8,A 9,A 10,A 11,A 12,A 13,A 14,A 15,A 16,A 17,A 18,A 19,A 20,(21,some [4,5,6,7]),A 22,(23,some [])] ?_;simp[go_sem,f0,bh,bV,bz,ef,lA,alo,Lw,Ge,mP,ip,UV,ab0,fg,kf];exact cH.intro (aa - e) (by omega) (bK _ _ _ ⟨e,_,rfl,by simp,⟨by simp[f0],by simp[bh],by simp[bV],by omega⟩,eH,gi,by grind,by(repeat apply D.drew);exact aJ.trans gX⟩)
   |false=>
    have Ds:=he;rw[alp]at Ds;rw[if_neg (by simp[aO,M,ar,al])]at Ds;have ef:True:=trivial;simp[go_sem];obtain⟨z,hz,mP,Ge,ip⟩:=rd an r (show nC<aQ by omega);refine cD [A 0,A 1,A 2,A 3,A 4,A 5,A 6,A 7,A 8,A 9,A 10,A 11,(12,some []),A 13] ?_;simp[go_sem,f0,bh,bV,bz,ef,lA,oB,Lw,Ge,mP,jA,qU,cx,hC];refine(tC z x _).mono ?_;rintro _ ai ⟨rfl,hd⟩;subst ai
    cases yQ:lt z x with
    |false=>
     simp[go_sem];exact Z _ _ ⟨by rw[<-cf,Ds];simp only[hz,yQ,M,Bool.not_false,if_true];exact an,by(repeat apply D.drew);exact aJ⟩
    |true=>
     simp[go_sem];obtain⟨gi,eH,gX⟩:=sI an r (show nC<aQ by omega) (show p<aQ by omega) hz M;simp only[mm,mn]at gi gX;refine cD [A 0,A 1,A 2,A 3,A 4,A 5,A 6,A 7,A 8,A 9,A 10,A 11,A 12,A 13,A 14,A 15,A 16,A 17,A 18,A 19,A 20,(21,some [4,5,6,7]),A 22,(23,some [])] ?_;simp[go_sem,f0,bh,bV,bz,ef,lA,oB,Lw,Ge,mP,ip,jA,qU,cx,hC];exact cH.intro (aa - c) (by omega) (bK _ _ _ ⟨c,_,rfl,by simp,⟨by simp[f0],by simp[bh],by simp[bV],by omega⟩,eH,gi,by grind,by(repeat apply D.drew);exact aJ.trans gX⟩)
  ·have wT:¬(e:Int)<aa:=by omega
   rw[if_neg (by simp[aO])]at he;have ef:True:=trivial;refine cD [A 0,A 1,A 2,A 3,A 4,A 5,A 6,A 7,A 8,A 9,A 10,A 11,A 12,A 13,A 14,A 15,A 16,A 17,(18,some []),A 19] ?_;simp[go_sem,bh,Gd,aO,wT];obtain⟨z,hz,mP,Ge,ip⟩:=rd an r (show nC<aQ by omega);refine cD [A 0,A 1,A 2,A 3,A 4,A 5,A 6,A 7,A 8,A 9,A 10,A 11,(12,some []),A 13] ?_;simp[go_sem,f0,bh,bV,bz,ef,lA,oB,Lw,Ge,mP,jA,qU,cx,hC];refine(tC z x _).mono ?_;rintro _ ai ⟨rfl,hd⟩;subst ai
   cases yQ:lt z x with
   |false=>
    simp[go_sem];exact Z _ _ ⟨by rw[<-cf,he];simp only[hz,yQ,M,Bool.not_false,if_true];exact an,by(repeat apply D.drew);exact aJ⟩
   |true=>
    simp[go_sem];obtain⟨gi,eH,gX⟩:=sI an r (show nC<aQ by omega) (show p<aQ by omega) hz M;simp only[mm,mn]at gi gX;refine cD [A 0,A 1,A 2,A 3,A 4,A 5,A 6,A 7,A 8,A 9,A 10,A 11,A 12,A 13,A 14,A 15,A 16,A 17,A 18,A 19,A 20,(21,some [4,5,6,7]),A 22,(23,some [])] ?_;simp[go_sem,f0,bh,bV,bz,ef,lA,oB,Lw,Ge,mP,ip,jA,qU,cx,hC];exact cH.intro (aa - c) (by omega) (bK _ _ _ ⟨c,_,rfl,by simp,⟨by simp[f0],by simp[bh],by simp[bV],by omega⟩,eH,gi,by grind,by(repeat apply D.drew);exact aJ.trans gX⟩)
theorem aBs(h:dm (c' _) w blk d)(a b cap:Nat)(fE:a<b)(V:b<=d.size)(cL:d.size<=255):
  aP Tryz.prog (aBe d) #[dI blk d.size cap,.int .i64 a,.int .i64 b] w λ_ w'=>dm (c' _) w' blk (heapSort lt d a b)/\D (aj blk) w w':=by
 cases bb
 all_goals
  first|refine bn Tryz.func224 Tryz.ntmps224 λaZ Z=> ?_|refine bn Tryz.func272 Tryz.ntmps272 λaZ Z=> ?_
  obtain⟨aQ,dE⟩:=az (d.size);rw[dE]at V cL⊢;obtain⟨n,av⟩:=az (b - a);obtain⟨hY,rE⟩:=az (n - 1);obtain⟨m,aH⟩:=az (hY / 2);have de:=en ((b:Int) - a) n (by omega) (by omega);have hd:=en ((n:Int) - 1) hY (by omega) (by omega);have hk:((hY:Int).tdiv 2)=m:=by rw[Int.tdiv_eq_ediv_of_nonneg (by omega)];omega
  have mb:IntKind.i64.wrap (m:Int)=m:=en _ m rfl (by omega);have DQ:Int.tdiv (hY:Int) 2<=1000:=by omega
  have aN:heapSort lt d a b=heapPop lt a n (heapBuild lt n a (m+1) d):=by
   unfold heapSort;rw[av,rE,aH]
  rw[aN]at Z;simp[go_sem,de,hd,hk,mb];refine du (λJ f u=>∃k v au,J=k/\k<=255/\v=(k:Int) - 1/\f 9=.int .i64 v/\(f 0=dI blk aQ cap/\f 6=.int .i64 a/\f 7=.int .i64 0/\f 8=.int .i64 n)/\au.size=aQ/\dm (c' _) u blk au/\heapBuild lt n a k au=heapBuild lt n a (m+1) d/\D (aj blk) w u) (m+1)
   ⟨m+1,m,d,rfl,by omega,by omega,by simp,by simp,dE,h,rfl,D.refl _ _⟩ ?_
  rintro cJ bK J f u ⟨k,v,au,aBt,aJd,aS,ef,⟨f0,f6,cg,bz⟩,r,an,cf,aJ⟩
  cases k with
  |succ q=>
   have aS:v=(q:Int):=by omega
   have ts:IntKind.i64.wrap ((q:Int) - 1)=(q:Int) - 1:=by rw[IntKind.wrap_i64];omega
   subst v;have aw:=abY an q n a cap (by omega) (by omega) (by omega);rw[r]at aw;simp[go_sem,ef,f0,f6,bz];refine aw.mono ?_;rintro _ ai ⟨I,aA⟩;simp[go_sem,ef,ts];exact cH.intro q (by omega) (bK _ _ _ ⟨q,_,_,rfl,by omega,rfl,by simp,by simp[f0,f6,cg,bz],by rw[UT _ _ _ _ _ (Nat.le_refl _),r],I,by rw[<-cf];rfl,aJ.trans aA⟩)
  |zero=>
   have aS:v= -1:=by omega
   subst v;have cf:au=heapBuild lt n a (m+1) d:=cf;rw[<-cf]at Z;simp[go_sem,ef,bz,hd];clear bK cJ ef;refine du (λJ f u=>∃k v Gf,J=k/\k<=n/\v=(k:Int) - 1/\f 10=.int .i64 v/\(f 0=dI blk aQ cap/\f 6=.int .i64 a/\f 7=.int .i64 0)/\Gf.size=aQ/\dm (c' _) u blk Gf/\heapPop lt a k Gf=heapPop lt a n au/\D (aj blk) w u) n
    ⟨n,hY,au,rfl,by omega,by omega,by simp,by simp[f0,f6,cg],r,an,rfl,aJ⟩ ?_
   rintro cJ bK J f u ⟨k,v,Gf,aBt,kQ,aS,eE,⟨f0,f6,cg⟩,r,an,cf,aJ⟩
   cases k with
   |succ q=>
    have aS:v=(q:Int):=by omega
    have ts:IntKind.i64.wrap ((q:Int) - 1)=(q:Int) - 1:=by rw[IntKind.wrap_i64];omega
    obtain⟨p,ah⟩:=az (a+q);have uk:=en ((a:Int)+q) p (by omega) (by omega);have gA:a<aQ:=by omega
    have jA:p<aQ:=by omega
    obtain⟨x,M,cx,qh,hC⟩:=rd an r gA;obtain⟨y,ar,fg,qU,kf⟩:=rd an r jA;obtain⟨gi,eH,gX⟩:=sI an r gA jA M ar;simp only[mm,mn]at gi gX;obtain⟨rB,iu⟩:=Ce an r jA a y;simp only[mm,mn]at iu;subst v;simp[go_sem,eE];refine cD [A 0,A 1,A 2,A 3,A 4,A 5,A 6,A 7,A 8,A 9,A 10,A 11,A 12,A 13,A 14,A 15,A 16,(17,some [2,3,4,5]),A 18,(19,some [])] ?_;simp[go_sem,f0,f6,cg,eE,uk,gA,qh,jA,qU,cx,fg,hC,kf,iu];have aw:=abY gi 0 q a cap (by rw[eH];omega) (by omega) (by omega);rw[eH]at aw;have AM:∀{fw:World},dm (c' _) fw blk (swp Gf a p)->aP Tryz.prog (ali Gf) #[dI blk aQ cap,.int .i64 0,.int .i64 q,.int .i64 a] fw λ_ w'=>dm (c' _) w' blk (siftDown lt q a 0 (swp Gf a p))/\D (aj blk) fw w':=λ{fw} I=>by
     have:=abY I 0 q a cap (by rw[eH];omega) (by omega) (by omega);rw[eH]at this;exact this
    refine(AM gi.drew).mono ?_;rintro _ ai ⟨I,aA⟩;simp[go_sem,eE,ts];refine cH.intro q (by omega) (bK _ _ _ ⟨q,_,_,rfl,by omega,rfl,by simp,by simp[f0,f6,cg],by rw[UT _ _ _ _ _ (Nat.le_refl _),eH],I,by rw[<-cf,heapPop,ah],?_⟩);exact(aJ.trans gX).trans (D.iy aA)
   |zero=>
    have aS:v= -1:=by omega
    subst v;have cf:Gf=heapPop lt a n au:=cf;rw[<-cf]at Z;simp[go_sem,eE];exact Z _ _ ⟨an,aJ⟩
end
variable{bb:Bool}
section
variable{w u:World}{blk aQ i j:Nat}{d au:Array (E bb)}{x y:(E bb)}
theorem aBu(h:dm (c' _) w blk d)(a b cap:Nat)(fE:a<b)(V:b<=d.size)(cL:d.size<=255):
  aP Tryz.prog (alj d) #[dI blk d.size cap,.int .i64 a,.int .i64 b] w λW w'=>W=.bool (partialInsertionSort lt d a b).2/\dm (c' _) w' blk (partialInsertionSort lt d a b).1/\D (aj blk) w w':=by
 cases bb
 all_goals
  first|refine bn Tryz.func228 Tryz.ntmps228 λaZ Z=> ?_|refine bn Tryz.func276 Tryz.ntmps276 λaZ Z=> ?_
  obtain⟨aQ,dE⟩:=az (d.size);rw[dE]at V cL⊢;have rF:=en ((a:Int)+1) (a+1) (by omega) (by omega);unfold partialInsertionSort at Z;simp[go_sem,rF];refine du (λJ f u=>∃j i au,J=5 - j/\j<=5/\a<i/\i<=b/\f 0=dI blk aQ cap/\f 1=.int .i64 a/\f 2=.int .i64 b/\f 7=.int .i64 i/\f 8=.int .i64 j/\au.size=aQ/\dm (c' _) u blk au/\partialIns lt a b (5 - j) i au=partialIns lt a b 5 (a+1) d/\D (aj blk) w u) 5
   ⟨0,a+1,d,rfl,by omega,by omega,by omega,by simp,by simp,by simp,by simp,by simp,dE,h,rfl,D.refl _ _⟩ ?_
  rintro cJ bK _ f u ⟨j,i,au,rfl,aJe,abV,abW,f0,a_,bh,cg,bz,r,an,cf,aJ⟩;have aBv:j=5\/j<5:=by omega
  rcases aBv with rfl|Qd
  ·have cf:(au,false)=partialIns lt a b 5 (a+1) d:=cf;rw[<-cf]at Z;simp[go_sem,bz];exact Z _ _ ⟨rfl,an,aJ⟩
  have aBw:(j:Int)<5:=by omega
  obtain⟨s,aw⟩:∃s,5 - j=s+1:=⟨4 - j,by omega⟩;rw[aw,aAN]at cf;simp[go_sem,bz,Qd,aBw];obtain⟨bg,bP⟩:∃bg:(Nat->Value)->World->Prop,bg=λf u=>∃bY,scanSorted lt au b i=bY/\i<=bY/\bY<=b/\f 0=dI blk aQ cap/\f 1=.int .i64 a/\f 2=.int .i64 b/\f 7=.int .i64 bY/\f 8=.int .i64 j/\dm (c' _) u blk au/\D (aj blk) w u:=⟨_,rfl⟩;refine wq bg ?_ ?_
  ·refine du (λJ f u=>∃bY,J=b - bY/\scanSorted lt au b bY=scanSorted lt au b i/\i<=bY/\bY<=b/\f 0=dI blk aQ cap/\f 1=.int .i64 a/\f 2=.int .i64 b/\f 7=.int .i64 bY/\f 8=.int .i64 j/\dm (c' _) u blk au/\D (aj blk) w u) (b - i)
    ⟨i,rfl,rfl,Nat.le_refl _,abW,by simp[f0],by simp[a_],by simp[bh],by simp[cg],by simp[bz],an,aJ⟩ ?_
   clear f0 a_ bh cg bz an aJ f u;rintro CO pV _ f u ⟨bY,rfl,DC,jm,ab1,f0,a_,bh,cg,bz,an,aJ⟩;have gO:=en ((bY:Int)+1) (bY+1) (by omega) (by omega);by_cases dR:bY<b
   ·have gZ:(bY:Int)<b:=by omega
    obtain⟨q,aq⟩:∃q,bY=q+1:=⟨bY - 1,by omega⟩;have rm:bY - 1=q:=by omega
    have ts:=en ((bY:Int) - 1) q (by omega) (by omega);have iG:bY<aQ:=by omega
    have tE:q<aQ:=by omega
    obtain⟨x,M,cx,qi,hC⟩:=rd an r iG;obtain⟨y,ar,fg,Gc,kf⟩:=rd an r tE;simp[go_sem];refine cD [A 0,A 1,A 2,A 3,A 4,A 5,A 6,A 7,A 8,A 9,A 10,A 11,A 12,(13,some []),A 14,A 15] ?_;simp[go_sem,f0,a_,bh,cg,dR,gZ,ts,iG,qi,tE,Gc,cx,fg];refine(tC x y _).mono ?_;rintro _ ai ⟨rfl,hd⟩;subst ai
    cases al:lt x y with
    |false=>
     simp[go_sem,cg,gO];exact cH.intro (b -(bY+1)) (by omega) (pV _ _ _ ⟨bY+1,rfl,by rw[<-DC];conv=>{rhs;rw[scanSorted]};simp[dR,M,rm,ar,al],by omega,by omega,by simp[f0],by simp[a_],by simp[bh],by simp,by simp[bz],an,aJ.drew⟩)
    |true=>
     simp[go_sem];rw[bP];exact⟨bY,by rw[<-DC,scanSorted];simp[M,rm,ar,al],jm,ab1,by simp[f0],by simp[a_],by simp[bh],by simp[cg],by simp[bz],an,aJ.drew⟩
   ·have gZ:¬(bY:Int)<b:=by omega
    simp[go_sem];refine cD [A 0,A 1,A 2,A 3,A 4,A 5,A 6,A 7,A 8,A 9,A 10,A 11,A 12,(13,some []),A 14,A 15] ?_;simp[go_sem,f0,a_,bh,cg,dR,gZ];rw[bP];exact⟨bY,by rw[<-DC,scanSorted];simp[dR],jm,ab1,by simp[f0],by simp[a_],by simp[bh],by simp[cg],by simp[bz],an,aJ.drew⟩
  rw[bP];clear bP bg f0 a_ bh cg bz an aJ f u;rintro f u ⟨bY,pw,jm,ab1,f0,a_,bh,cg,bz,an,aJ⟩;rw[pw]at cf;by_cases oW:bY=b
  ·rw[if_pos oW]at cf;rw[<-cf]at Z;simp[go_sem,cg,bh,oW];exact Z _ _ ⟨rfl,an,aJ⟩
  rw[if_neg oW]at cf;have ab2:¬(bY:Int)=b:=by omega
  have alq:((bY:Int)==(b:Int))=false:=beq_false_of_ne ab2;obtain⟨l,al⟩:=az (b - a);have zx:=en ((b:Int) - a) l (by omega) (by omega);rw[al]at cf;by_cases wQ:l<50
  ·have Iy:(l:Int)<50:=by omega
   rw[if_pos wQ]at cf;rw[<-cf]at Z;simp[go_sem,cg,a_,bh,oW,ab2,alq,zx,wQ,Iy];exact Z _ _ ⟨rfl,an,aJ⟩
  rw[if_neg wQ]at cf;have Iy:¬(l:Int)<50:=by omega
  obtain⟨q,aq⟩:∃q,bY=q+1:=⟨bY - 1,by omega⟩;have rm:bY - 1=q:=by omega
  have ts:=en ((bY:Int) - 1) q (by omega) (by omega);have gO:=en ((bY:Int)+1) (bY+1) (by omega) (by omega);have iG:bY<aQ:=by omega
  have tE:q<aQ:=by omega
  obtain⟨x,M,cx,qi,hC⟩:=rd an r iG;obtain⟨y,ar,fg,Gc,kf⟩:=rd an r tE;obtain⟨gi,eH,gX⟩:=sI an r iG tE M ar;simp only[mm,mn]at gi gX;obtain⟨e,aV⟩:=az (bY - a);have Gd:=en ((bY:Int) - a) e (by omega) (by omega);obtain⟨aW,mY⟩:=az (b - bY);have aBx:=en ((b:Int) - bY) aW (by omega) (by omega);rw[rm,aV,mY]at cf;simp[go_sem,cg,a_,bh,oW,ab2,alq,zx,wQ,Iy];refine cD [A 0,A 1,A 2,A 3,A 4,A 5,A 6,A 7,A 8,A 9,A 10,A 11,A 12,A 13,A 14,(15,some [2,3,4]),A 16,(17,some [])] ?_;simp[go_sem,f0,a_,cg,ts,iG,qi,tE,Gc,cx,fg,hC,kf,Gd];generalize swp au bY q=oK at*;have kr:=(aJ.trans gX).drew;clear aJ gX cx fg hC kf M ar an;obtain⟨tD,rN⟩:=az ((if e>=2 then shiftDown lt q oK else oK));have jX:tD.size=aQ:=by
   rw[<-rN];split
   ·rw[ak4,eH]
   ·exact eH
  rw[rN]at cf;obtain⟨bg,bP⟩:∃bg:(Nat->Value)->World->Prop,bg=λf u=>f 0=dI blk aQ cap/\f 1=.int .i64 a/\f 2=.int .i64 b/\f 7=.int .i64 bY/\f 8=.int .i64 j/\dm (c' _) u blk tD/\D (aj blk) w u:=⟨_,rfl⟩;refine Hj bg ?_ ?_
  ·by_cases I:2<=e
   ·have je:(2:Int)<=e:=by omega
    rw[if_pos I]at rN;simp[go_sem,I,je,cg,ts];refine du (λJ f u=>∃k au,J=k+1/\k<=q/\f 0=dI blk aQ cap/\f 1=.int .i64 a/\f 2=.int .i64 b/\f 7=.int .i64 bY/\f 8=.int .i64 j/\f 9=.int .i64 k/\au.size=aQ/\shiftDown lt k au=tD/\dm (c' _) u blk au/\D (aj blk) w u) (q+1)
     ⟨q,oK,rfl,Nat.le_refl _,by simp[f0],by simp[a_],by simp[bh],by simp[cg],by simp[bz],by simp,eH,rN,gi,kr⟩ ?_
    clear f0 a_ bh cg bz f rN;rintro CO pV _ f u ⟨k,au,rfl,ah1,f0,a_,bh,cg,bz,ef,pC,rN,an,aJ⟩
    cases k with
    |zero=>
     have rN:au=tD:=rN;simp[go_sem,ef];rw[bP];exact⟨by simp[f0],by simp[a_],by simp[bh],by simp[cg],by simp[bz],by rw[<-rN];exact an,aJ⟩
    |succ p=>
     obtain⟨k,r⟩:=az (p+1);rw[r]at ef;have UW:1<=k:=by omega
     have aBy:(1:Int)<=k:=by omega
     have eo:=en ((k:Int) - 1) p (by omega) (by omega);have fd:k<aQ:=by omega
     have jA:p<aQ:=by omega
     obtain⟨x,M,cx,Qe,hC⟩:=rd an pC fd;obtain⟨y,ar,fg,qU,kf⟩:=rd an pC jA;rw[shiftDown,r,M,ar]at rN;simp[go_sem,ef,UW,aBy];refine cD [A 0,A 1,A 2,A 3,A 4,A 5,A 6,A 7,A 8,(9,some []),A 10] ?_;simp[go_sem,f0,ef,eo,fd,Qe,jA,qU,cx,fg];refine(tC x y _).mono ?_;rintro _ ai ⟨rfl,hd⟩;subst ai
     cases al:lt x y with
     |false=>
      rw[al]at rN;simp[go_sem];rw[bP];exact⟨by simp[f0],by simp[a_],by simp[bh],by simp[cg],by simp[bz],by rw[<-rN];exact an,aJ.drew⟩
     |true=>
      rw[al]at rN;obtain⟨gi,eH,gX⟩:=sI an pC fd jA M ar;simp only[mm,mn]at gi gX;simp[go_sem];refine cD [A 0,A 1,A 2,A 3,A 4,A 5,A 6,A 7,A 8,A 9,A 10,A 11,A 12,A 13,A 14,(15,some [2,3,4]),A 16,(17,some [])] ?_;simp[go_sem,f0,ef,eo,fd,Qe,jA,qU,cx,fg,hC,kf];exact cH.intro (p+1) (by omega) (pV _ _ _ ⟨p,_,rfl,by omega,by simp[f0],by simp[a_],by simp[bh],by simp[cg],by simp[bz],by simp,eH,rN,gi,by(repeat apply D.drew);exact aJ.trans gX⟩)
   ·have je:¬(2:Int)<=e:=by omega
    rw[if_neg I]at rN;simp[go_sem,I,je];rw[bP];exact⟨by simp[f0],by simp[a_],by simp[bh],by simp[cg],by simp[bz],by rw[<-rN];exact gi,kr⟩
  rw[bP];clear bP bg f0 a_ bh cg bz gi kr f;rintro f u ⟨f0,a_,bh,cg,bz,an,aJ⟩;obtain⟨UX,sJ⟩:=az ((if aW>=2 then shiftUp lt b (bY+1) tD else tD));have Aa:UX.size=aQ:=by
   rw[<-sJ];split
   ·rw[ak5 _ _ _ _ (Nat.le_refl _),jX]
   ·exact jX
  rw[sJ]at cf;simp[go_sem,cg,bh,aBx];obtain⟨bg,bP⟩:∃bg:(Nat->Value)->World->Prop,bg=λf u=>f 0=dI blk aQ cap/\f 1=.int .i64 a/\f 2=.int .i64 b/\f 7=.int .i64 bY/\f 8=.int .i64 j/\dm (c' _) u blk UX/\D (aj blk) w u:=⟨_,rfl⟩;refine aBz bg ?_ ?_
  ·by_cases I:2<=aW
   ·have je:(2:Int)<=aW:=by omega
    rw[if_pos I]at sJ;simp[go_sem,I,je,cg,gO];refine du (λJ f u=>∃k au,J=b - k/\bY<k/\k<=b/\f 0=dI blk aQ cap/\f 1=.int .i64 a/\f 2=.int .i64 b/\f 7=.int .i64 bY/\f 8=.int .i64 j/\f 10=.int .i64 k/\au.size=aQ/\shiftUp lt b k au=UX/\dm (c' _) u blk au/\D (aj blk) w u) (b -(bY+1))
     ⟨bY+1,tD,rfl,by omega,by omega,by simp[f0],by simp[a_],by simp[bh],by simp[cg],by simp[bz],by simp,jX,sJ,an,aJ⟩ ?_
    clear f0 a_ bh cg bz f sJ;rintro CO pV _ f u ⟨k,au,rfl,ah1,aho,f0,a_,bh,cg,bz,eE,pC,sJ,an,aJ⟩;rw[shiftUp]at sJ;by_cases aO:k<b
    ·rw[if_pos aO]at sJ;have wT:(k:Int)<b:=by omega
     obtain⟨p,ah⟩:∃p,k=p+1:=⟨k - 1,by omega⟩;have fW:k - 1=p:=by omega
     have eo:=en ((k:Int) - 1) p (by omega) (by omega);have aBA:=en ((k:Int)+1) (k+1) (by omega) (by omega);have fd:k<aQ:=by omega
     have jA:p<aQ:=by omega
     obtain⟨x,M,cx,Qe,hC⟩:=rd an pC fd;obtain⟨y,ar,fg,qU,kf⟩:=rd an pC jA;rw[fW,M,ar]at sJ;simp[go_sem,eE,bh,aO,wT];refine cD [A 0,A 1,A 2,A 3,A 4,A 5,A 6,A 7,A 8,(9,some []),A 10] ?_;simp[go_sem,f0,eE,eo,fd,Qe,jA,qU,cx,fg];refine(tC x y _).mono ?_;rintro _ ai ⟨rfl,hd⟩;subst ai
     cases al:lt x y with
     |false=>
      rw[al]at sJ;simp[go_sem];rw[bP];exact⟨by simp[f0],by simp[a_],by simp[bh],by simp[cg],by simp[bz],by rw[<-sJ];exact an,aJ.drew⟩
     |true=>
      rw[al]at sJ;obtain⟨gi,eH,gX⟩:=sI an pC fd jA M ar;simp only[mm,mn]at gi gX;simp[go_sem];refine cD [A 0,A 1,A 2,A 3,A 4,A 5,A 6,A 7,A 8,A 9,A 10,A 11,A 12,A 13,A 14,(15,some [2,3,4]),A 16,(17,some [])] ?_;simp[go_sem,f0,eE,eo,aBA,fd,Qe,jA,qU,cx,fg,hC,kf];exact cH.intro (b -(k+1)) (by omega) (pV _ _ _ ⟨k+1,_,rfl,by omega,by omega,by simp[f0],by simp[a_],by simp[bh],by simp[cg],by simp[bz],by simp,eH,sJ,gi,by(repeat apply D.drew);exact aJ.trans gX⟩)
    ·rw[if_neg aO]at sJ;have wT:¬(k:Int)<b:=by omega
     simp[go_sem,eE,bh,aO,wT];rw[bP];exact⟨by simp[f0],by simp[a_],by simp[bh],by simp[cg],by simp[bz],by rw[<-sJ];exact an,aJ⟩
   ·have je:¬(2:Int)<=aW:=by omega
    rw[if_neg I]at sJ;simp[go_sem,I,je];rw[bP];exact⟨by simp[f0],by simp[a_],by simp[bh],by simp[cg],by simp[bz],by rw[<-sJ];exact an,aJ⟩
  rw[bP];clear bP bg f0 a_ bh cg bz an aJ f u;rintro f u ⟨f0,a_,bh,cg,bz,an,aJ⟩;have kJ:=en ((j:Int)+1) (j+1) (by omega) (by omega);simp[go_sem,bz,kJ];exact cH.intro (5 -(j+1)) (by omega) (bK _ _ _ ⟨j+1,bY,UX,rfl,by omega,by omega,by omega,by simp[f0],by simp[a_],by simp[bh],by simp[cg],by simp,Aa,an,by grind,aJ⟩)
end
end Go.Proofs.YtoohkhcpboldjaaGreatDoor.SS
