/- Whole numbers sorted: a few steps of insertion. No condition. -/
import Derived.Test.YtoohkhcpboldjaaGreatDoorOvG
set_option maxRecDepth 100000
set_option maxHeartbeats 16000000
set_option linter.unusedSimpArgs false
set_option linter.unusedVariables false
namespace Go.Proofs.YtoohkhcpboldjaaGreatDoor.SS
open Go.RowKit Go.Kin Go.Maps Go.Sort Tryz
abbrev E(bb:Bool):Type:=Fin (bif bb then 65536 else 4294967296)
instance (bb:Bool):Inhabited (E bb):=⟨⟨0,by cases bb<;>decide⟩⟩
def df(bb:Bool)(a:E bb):N:=.int (bif bb then .u16 else .u32) a.val
@[simp] theorem nr(a:E true):df true a=.int .u16 a.val:=rfl
@[simp] theorem ns(a:E false):df false a=.int .u32 a.val:=rfl
variable {bb:Bool}
def aKl{bb:Bool}(_:Array (E bb)):FuncId:=bif bb then 223 else 271
def ath{bb:Bool}(_:Array (E bb)):FuncId:=bif bb then 249 else 285
def aKm{bb:Bool}(_:Array (E bb)):FuncId:=bif bb then 224 else 272
def ate{bb:Bool}(_:Array (E bb)):FuncId:=bif bb then 231 else 279
def atg{bb:Bool}(_:Array (E bb)):FuncId:=bif bb then 230 else 278
def ati{bb:Bool}(_:Array (E bb)):FuncId:=bif bb then 228 else 276
def aKn{bb:Bool}(_:Array (E bb)):FuncId:=bif bb then 227 else 275
def aKo{bb:Bool}(_:Array (E bb)):FuncId:=bif bb then 225 else 273
def aKp{bb:Bool}(_:Array (E bb)):FuncId:=bif bb then 280 else 289
def aKq{bb:Bool}(_:Array (E bb)):FuncId:=bif bb then 253 else 287
def aKr{bb:Bool}(_:Array (E bb)):FuncId:=bif bb then 252 else 286
def aKs{bb:Bool}(_:Array (E bb)):FuncId:=bif bb then 226 else 274
def atj{bb:Bool}(_:Array (E bb)):FuncId:=bif bb then 193 else 246
def aKt{bb:Bool}(_:Array (E bb)):FuncId:=bif bb then 139 else 216
def aKu{bb:Bool}(_:E bb):FuncId:=bif bb then 254 else 242
def aKv{bb:Bool}(_:E bb):FuncId:=bif bb then 229 else 277
def lt(x y:(E bb)):Bool:=decide (x<y)
theorem VZ:SWO (lt (bb:=bb)) where
 irrefl x:=by simp[lt]
 trans x y z J T:=by
  simp only[lt,qf,Fin.lt_def]at*;omega
 ntrans x y z J T:=by
  simp only[lt,Sj,Fin.lt_def]at*;omega
abbrev dR(blk n cap:Nat):N:=.slice (some ⟨blk,0,none⟩) n cap
theorem eN(x:Int)(m:Nat)(h:x=m)(T:m<=1000000):IntKind.i64.wrap x=m:=by rw[cz];omega
theorem aKw(x:(E bb))(w:M):bc prog (aKu x) #[df _ x] w λv' w'=>v'=.bool false/\w'=w:=by
 cases bb
 all_goals
  first|refine bz func254 ntmps254 λbk af=> ?_|refine bz func242 ntmps242 λbk af=> ?_
  simp[go_sem];exact af _ _ ⟨rfl,rfl⟩
theorem vX(x y:(E bb))(w:M):bc prog (aKv x) #[df _ x,df _ y] w λv' w'=>v'=.bool (lt x y)/\w'=w:=by
 cases bb
 all_goals
  first|refine bz func229 ntmps229 λbk af=> ?_|refine bz func277 ntmps277 λbk af=> ?_
  simp[go_sem];refine(aKw x w).mono ?_;rintro _ ai ⟨rfl,bM⟩;subst ai;simp[go_sem];refine af _ _ ⟨?_,rfl⟩;congr 1
section
variable {w u:M}{blk bd i j:Nat}{d aB:Array (E bb)}{x y:(E bb)}
theorem rd(h:dM (df _) u blk aB)(r:aB.size=bd)(ad:i<bd):∃x,aB[i]! =x/\u.cell? (bl blk i)=some (df _ x)/\(i:Int)<bd/\u.frozen? (bl blk i)=false:=by
 subst r;exact⟨_,rfl,h.cell ad,by omega,h.aJR i⟩
theorem FN(h:dM (df _) u blk aB)(r:aB.size=bd)(I:j<bd)(i:Nat)(y:(E bb)):∃z,(u.setCell ⟨blk,i,none⟩ (df _ y)).cell? (bl blk j)=some z:=by
 subst r;obtain⟨dF,bv,ab,T⟩:=h;have aA:=(B'.1 (T j I)).1;have dm:(u.setCell ⟨blk,i,none⟩ (df _ y)).1[blk]? =some (.cells (dF.setIfInBounds i (df _ y)) bv (0,0)):=by simp_all
 exact⟨_,(aG dm j).trans (yP (by simpa using aA))⟩
theorem uX(h:dM (df _) u blk aB)(r:aB.size=bd)(ad:i<bd)(I:j<bd)(W:aB[i]! =x)(ar:aB[j]! =y):
  dM (df _) ((u.setCell ⟨blk,i,none⟩ (df _ y)).setCell ⟨blk,j,none⟩ (df _ x)) blk (swp aB i j)/\(swp aB i j).size=bd/\H (aj blk) u ((u.setCell ⟨blk,i,none⟩ (df _ y)).setCell ⟨blk,j,none⟩ (df _ x)):=by
 subst r W ar;exact⟨h.swp ad I,size_swp _ _ _,H.swp _ _ _ _⟩
theorem aKx(h:dM (df _) w blk d)(a b cap:Nat)(gE:a<=b)(ab:b<=d.size)(cU:d.size<=255):
  bc prog (aKl d) #[dR blk d.size cap,aa a,aa b] w λ_ w'=>dM (df _) w' blk (insertionSort lt d a b)/\H (aj blk) w w':=by
 cases bb
 all_goals
  first|refine bz func223 ntmps223 λbk af=> ?_|refine bz func271 ntmps271 λbk af=> ?_
  have dx:=eN ((a:Int)+1) (a+1) (by omega) (by omega);obtain⟨bd,dO⟩:=aD (d.size);rw[dO]at ab cU⊢;simp[go_sem,dx];refine di (λV f u=>∃i aB,V=b+1 - i/\a<i/\i<=b+1/\f 6=aa i/\(f 0=dR blk bd cap/\f 1=aa a/\f 2=aa b)/\aB.size=bd/\dM (df _) u blk aB/\insOuter lt a b i aB=insOuter lt a b (a+1) d/\H (aj blk) w u) (b+1 -(a+1))
   ⟨a+1,d,rfl,by omega,by omega,by simp,by simp,dO,h,rfl,H.refl _ _⟩ ?_
  rintro cQ bJ _ f u ⟨i,aB,rfl,aiJ,aiK,f6,⟨f0,aW,bg⟩,r,ap,eZ,aS⟩;by_cases aO:i<b
  ·have fy:(i:Int)<b:=by omega
   simp[go_sem,f6,bg,fy,aO];refine di (λV f u=>∃j uQ,V=j+1/\a<=j/\j<=i/\f 7=aa j/\f 6=aa i/\(f 0=dR blk bd cap/\f 1=aa a/\f 2=aa b)/\uQ.size=bd/\dM (df _) u blk uQ/\insInner lt a j uQ=insInner lt a i aB/\H (aj blk) w u) (i+1)
    ⟨i,aB,rfl,by omega,by omega,by simp,by simp[f6],by simp[f0,aW,bg],r,ap,rfl,aS⟩ ?_
   clear f0 aW bg f6 f;rintro vq jR _ f u ⟨j,uQ,rfl,BM,ly,bQ,f6,⟨f0,aW,bg⟩,V_,abm,bW,aiL⟩;have tz:=abm.drew;have atk:=eN ((i:Int)+1) (i+1) (by omega) (by omega);have out:(j<=a\/lt uQ[j]! uQ[j - 1]! =false)->insOuter lt a b (i+1) uQ=insOuter lt a b (a+1) d:=λaA=>by
    rw[<-eZ,aJV _ _ _ _ aO,<-bW,aJU _ _ _ aA]
   by_cases I:a<j
   ·have kT:(a:Int)<j:=by omega
    obtain⟨q,au⟩:∃q,j=q+1:=⟨j - 1,by omega⟩;have pj:j - 1=q:=by omega
    have hN:=eN ((j:Int) - 1) q (by omega) (by omega);have iF:j<bd:=by omega
    have vZ:q<bd:=by omega
    obtain⟨x,W,cx,sV,iG⟩:=rd abm V_ iF;obtain⟨y,ar,fI,Lb,lg⟩:=rd abm V_ vZ;simp[go_sem];refine cT [F 0,F 1,F 2,F 3,F 4,F 5,F 6,F 7,F 8,F 9,F 10,F 11,F 12,(13,some []),F 14] ?_;simp[go_sem,f0,aW,bg,bQ,kT,I,hN,iF,vZ,sV,Lb,cx,fI];refine(vX x y _).mono ?_;rintro _ an ⟨rfl,ii⟩;subst an
    cases ak:lt x y with
    |true=>
     simp[go_sem];obtain⟨hi,fH,ia⟩:=uX abm V_ iF vZ W ar;simp only[nr,ns]at hi ia;refine cT [F 0,F 1,F 2,F 3,F 4,F 5,F 6,F 7,F 8,F 9,F 10,F 11,F 12,F 13,F 14,(15,some [2,3,4]),F 16,(17,some [])] ?_;simp[go_sem,f0,aW,bg,bQ,hN,iF,vZ,sV,Lb,cx,fI,iG,lg];exact ct.intro (q+1) (by omega) (jR _ _ _ ⟨q,_,rfl,by omega,by omega,by simp,by simp[f6],by simp[f0,aW,bg],fH,hi,by rw[<-bW,aJT a j uQ I (by rw[W,pj,ar];exact ak),pj],(aiL.trans ia).drew.drew⟩)
    |false=>
     simp[go_sem,f6,atk];exact ct.intro (b+1 -(i+1)) (by omega) (bJ _ _ _ ⟨i+1,uQ,rfl,by omega,by omega,by simp,by simp[f0,aW,bg],V_,tz,out (.inr (by rw[W,pj,ar];exact ak)),aiL.drew⟩)
   ·have kT:¬(a:Int)<j:=by omega
    simp[go_sem];refine cT [F 0,F 1,F 2,F 3,F 4,F 5,F 6,F 7,F 8,F 9,F 10,F 11,F 12,(13,some []),F 14] ?_;simp[go_sem,f0,aW,bg,f6,bQ,kT,I,atk];exact ct.intro (b+1 -(i+1)) (by omega) (bJ _ _ _ ⟨i+1,uQ,rfl,by omega,by omega,by simp,by simp[f0,aW,bg],V_,tz,out (.inl (by omega)),aiL.drew⟩)
  ·have fy:¬(i:Int)<b:=by omega
   simp[go_sem,f6,bg,fy,aO];refine af _ _ ⟨?_,aS⟩;rw[insertionSort,<-eZ,aJW _ _ _ _ aO];exact ap
theorem aiM(h:dM (df _) w blk d)(sP ad first cap:Nat)(ab:first+ad<=d.size)(cU:d.size<=255)(Rn:sP<=255):
  bc prog (ath d) #[dR blk d.size cap,aa sP,aa ad,aa first] w λ_ w'=>dM (df _) w' blk (siftDown lt ad first sP d)/\H (aj blk) w w':=by
 cases bb
 all_goals
  first|refine bz func249 ntmps249 λbk af=> ?_|refine bz func285 ntmps285 λbk af=> ?_
  obtain⟨bd,dO⟩:=aD (d.size);rw[dO]at ab cU⊢;simp[go_sem];refine di (λV f u=>∃bO aB,V=ad - bO/\f 8=aa bO/\(f 0=dR blk bd cap/\f 2=aa ad/\f 3=aa first/\bO<=255)/\aB.size=bd/\dM (df _) u blk aB/\siftDown lt ad first bO aB=siftDown lt ad first sP d/\H (aj blk) w u) (ad - sP)
   ⟨sP,d,rfl,by simp,by simp[Rn],dO,h,rfl,H.refl _ _⟩ ?_
  rintro cQ bJ _ f u ⟨bO,aB,rfl,bB,⟨f0,bg,bR,aSX⟩,r,ap,cl,aS⟩;obtain⟨m,aC⟩:=aD (2*bO);obtain⟨c,Z⟩:=aD (m+1);have CP:=eN (2*(bO:Int)) m (by omega) (by omega);have QB:=eN ((m:Int)+1) c (by omega) (by omega);have aR:2*bO+1=c:=by omega
  have dB:2*bO+2=c+1:=by omega
  have hx:=ait (lt:=lt) ad first bO aB
  rw[aR,dB]at hx;by_cases pe:c>=ad
  ·have aiN:(ad:Int)<=c:=by omega
   simp[go_sem,bB,bg,CP,QB,pe,aiN];exact af _ _ ⟨by grind,aS⟩
  rw[aQ pe]at hx;have aiN:¬(ad:Int)<=c:=by omega
  have aKy:¬ad<=c:=by omega
  obtain⟨e,aV⟩:=aD (c+1);have Lc:=eN ((c:Int)+1) e (by omega) (by omega);obtain⟨nP,ax⟩:=aD (first+bO);have kH:=eN ((first:Int)+bO) nP (by omega) (by omega);have Ro:nP<bd:=by omega
  obtain⟨p,am⟩:=aD (first+c);have qe:=eN ((first:Int)+c) p (by omega) (by omega);have kt:p<bd:=by omega
  obtain⟨x,W,cx,sU,iG⟩:=rd ap r kt;rw[aV,ax,am]at hx;simp[go_sem,bB,bg,CP,QB,aiN,aKy];by_cases aO:e<ad
  ·have Al:(e:Int)<ad:=by omega
   obtain⟨oY,gT⟩:=aD (p+1);have aKz:=eN ((p:Int)+1) oY (by omega) (by omega);have atl:=eN ((first:Int)+e) oY (by omega) (by omega);have atm:first+e=oY:=by omega
   have abn:oY<bd:=by omega
   obtain⟨y,ar,fI,aiO,lg⟩:=rd ap r abn;refine cT [F 0,F 1,F 2,F 3,F 4,F 5,F 6,F 7,F 8,F 9,F 10,F 11,F 12,F 13,F 14,F 15,F 16,F 17,(18,some []),F 19] ?_;simp[go_sem,f0,bg,bR,bB,Lc,aO,Al,qe,aKz,kt,sU,abn,aiO,cx,fI];refine(vX x y _).mono ?_;rintro _ an ⟨rfl,ii⟩;subst an
   cases ak:lt x y with
   |true=>
    have HF:=hx;rw[atm]at HF;rw[be (by simp[aO,W,ar,ak])]at HF;have dt:True:=trivial;simp[go_sem,Lc];obtain⟨z,hz,kS,Ld,js⟩:=rd ap r (show nP<bd by omega);refine cT [F 0,F 1,F 2,F 3,F 4,F 5,F 6,F 7,F 8,F 9,F 10,F 11,(12,some []),F 13] ?_;simp[go_sem,f0,bg,bR,bB,dt,kH,atl,Ro,Ld,kS,abn,aiO,fI,lg];refine(vX z y _).mono ?_;rintro _ an ⟨rfl,ii⟩;subst an
    cases xP:lt z y with
    |false=>
     simp[go_sem];exact af _ _ ⟨by rw[<-cl,HF];simp only[hz,xP,ar,XG,if_true];exact ap,by(repeat apply H.drew);exact aS⟩
    |true=>
     simp[go_sem];obtain⟨hi,fH,ia⟩:=uX ap r (show nP<bd by omega) (show oY<bd by omega) hz ar;simp only[nr,ns]at hi ia;refine cT [F 0,F 1,F 2,F 3,F 4,F 5,F 6,F 7,F 8,F 9,F 10,F 11,F 12,F 13,F 14,F 15,F 16,F 17,F 18,F 19,F 20,(21,some [4,5,6,7]),F 22,(23,some [])] ?_;simp[go_sem,f0,bg,bR,bB,dt,kH,atl,Ro,Ld,kS,js,abn,aiO,fI,lg];exact ct.intro (ad - e) (by omega) (bJ _ _ _ ⟨e,_,rfl,by simp,⟨by simp[f0],by simp[bg],by simp[bR],by omega⟩,fH,hi,by grind,by(repeat apply H.drew);exact aS.trans ia⟩)
   |false=>
    have HF:=hx;rw[atm]at HF;rw[aQ (by simp[aO,W,ar,ak])]at HF;have dt:True:=trivial;simp[go_sem];obtain⟨z,hz,kS,Ld,js⟩:=rd ap r (show nP<bd by omega);refine cT [F 0,F 1,F 2,F 3,F 4,F 5,F 6,F 7,F 8,F 9,F 10,F 11,(12,some []),F 13] ?_;simp[go_sem,f0,bg,bR,bB,dt,kH,qe,Ro,Ld,kS,kt,sU,cx,iG];refine(vX z x _).mono ?_;rintro _ an ⟨rfl,ii⟩;subst an
    cases xP:lt z x with
    |false=>
     simp[go_sem];exact af _ _ ⟨by rw[<-cl,HF];simp only[hz,xP,W,XG,if_true];exact ap,by(repeat apply H.drew);exact aS⟩
    |true=>
     simp[go_sem];obtain⟨hi,fH,ia⟩:=uX ap r (show nP<bd by omega) (show p<bd by omega) hz W;simp only[nr,ns]at hi ia;refine cT [F 0,F 1,F 2,F 3,F 4,F 5,F 6,F 7,F 8,F 9,F 10,F 11,F 12,F 13,F 14,F 15,F 16,F 17,F 18,F 19,F 20,(21,some [4,5,6,7]),F 22,(23,some [])] ?_;simp[go_sem,f0,bg,bR,bB,dt,kH,qe,Ro,Ld,kS,js,kt,sU,cx,iG];exact ct.intro (ad - c) (by omega) (bJ _ _ _ ⟨c,_,rfl,by simp,⟨by simp[f0],by simp[bg],by simp[bR],by omega⟩,fH,hi,by grind,by(repeat apply H.drew);exact aS.trans ia⟩)
  ·have Al:¬(e:Int)<ad:=by omega
   rw[aQ (by simp[aO])]at hx;have dt:True:=trivial;refine cT [F 0,F 1,F 2,F 3,F 4,F 5,F 6,F 7,F 8,F 9,F 10,F 11,F 12,F 13,F 14,F 15,F 16,F 17,(18,some []),F 19] ?_;simp[go_sem,bg,Lc,aO,Al];obtain⟨z,hz,kS,Ld,js⟩:=rd ap r (show nP<bd by omega);refine cT [F 0,F 1,F 2,F 3,F 4,F 5,F 6,F 7,F 8,F 9,F 10,F 11,(12,some []),F 13] ?_;simp[go_sem,f0,bg,bR,bB,dt,kH,qe,Ro,Ld,kS,kt,sU,cx,iG];refine(vX z x _).mono ?_;rintro _ an ⟨rfl,ii⟩;subst an
   cases xP:lt z x with
   |false=>
    simp[go_sem];exact af _ _ ⟨by rw[<-cl,hx];simp only[hz,xP,W,XG,if_true];exact ap,by(repeat apply H.drew);exact aS⟩
   |true=>
    simp[go_sem];obtain⟨hi,fH,ia⟩:=uX ap r (show nP<bd by omega) (show p<bd by omega) hz W;simp only[nr,ns]at hi ia;refine cT [F 0,F 1,F 2,F 3,F 4,F 5,F 6,F 7,F 8,F 9,F 10,F 11,F 12,F 13,F 14,F 15,F 16,F 17,F 18,F 19,F 20,(21,some [4,5,6,7]),F 22,(23,some [])] ?_;simp[go_sem,f0,bg,bR,bB,dt,kH,qe,Ro,Ld,kS,js,kt,sU,cx,iG];exact ct.intro (ad - c) (by omega) (bJ _ _ _ ⟨c,_,rfl,by simp,⟨by simp[f0],by simp[bg],by simp[bR],by omega⟩,fH,hi,by grind,by(repeat apply H.drew);exact aS.trans ia⟩)
theorem aKA(h:dM (df _) w blk d)(a b cap:Nat)(gE:a<b)(ab:b<=d.size)(cU:d.size<=255):
  bc prog (aKm d) #[dR blk d.size cap,aa a,aa b] w λ_ w'=>dM (df _) w' blk (heapSort lt d a b)/\H (aj blk) w w':=by
 cases bb
 all_goals
  first|refine bz func224 ntmps224 λbk af=> ?_|refine bz func272 ntmps272 λbk af=> ?_
  obtain⟨bd,dO⟩:=aD (d.size);rw[dO]at ab cU⊢;obtain⟨n,aq⟩:=aD (b - a);obtain⟨iW,tS⟩:=aD (n - 1);obtain⟨m,aC⟩:=aD (iW / 2);have dx:=eN ((b:Int) - a) n (by omega) (by omega);have ii:=eN ((n:Int) - 1) iW (by omega) (by omega);have ik:((iW:Int).tdiv 2)=m:=by rw[LF (by omega)];omega
  have qv:IntKind.i64.wrap (m:Int)=m:=eN _ m rfl (by omega);have Ib:Int.tdiv (iW:Int) 2<=1000:=by omega
  have aT:heapSort lt d a b=heapPop lt a n (heapBuild lt n a (m+1) d):=by
   unfold heapSort;rw[aq,tS,aC]
  rw[aT]at af;simp[go_sem,dx,ii,ik,qv];refine di (λV f u=>∃k v aB,V=k/\k<=255/\v=(k:Int) - 1/\f 9=aa v/\(f 0=dR blk bd cap/\f 6=aa a/\f 7=aa 0/\f 8=aa n)/\aB.size=bd/\dM (df _) u blk aB/\heapBuild lt n a k aB=heapBuild lt n a (m+1) d/\H (aj blk) w u) (m+1)
   ⟨m+1,m,d,rfl,by omega,by omega,by simp,by simp,dO,h,rfl,H.refl _ _⟩ ?_
  rintro cQ bJ V f u ⟨k,v,aB,aKB,aSY,aM,dt,⟨f0,f6,bQ,bB⟩,r,ap,cl,aS⟩
  cases k with
  |succ q=>
   have aM:v=(q:Int):=by omega
   have vu:IntKind.i64.wrap ((q:Int) - 1)=(q:Int) - 1:=by rw[cz];omega
   subst v;have aA:=aiM ap q n a cap (by omega) (by omega) (by omega);rw[r]at aA;simp[go_sem,dt,f0,f6,bB];refine aA.mono ?_;rintro _ an ⟨T,aK⟩;simp[go_sem,dt,vu];exact ct.intro q (by omega) (bJ _ _ _ ⟨q,_,_,rfl,by omega,rfl,by simp,by simp[f0,f6,bQ,bB],by rw[abk _ _ _ _ _ (c_ _),r],T,by rw[<-cl];rfl,aS.trans aK⟩)
  |zero=>
   have aM:v= -1:=by omega
   subst v;have cl:aB=heapBuild lt n a (m+1) d:=cl;rw[<-cl]at af;simp[go_sem,dt,bB,ii];clear bJ cQ dt;refine di (λV f u=>∃k v pG,V=k/\k<=n/\v=(k:Int) - 1/\f 10=aa v/\(f 0=dR blk bd cap/\f 6=aa a/\f 7=aa 0)/\pG.size=bd/\dM (df _) u blk pG/\heapPop lt a k pG=heapPop lt a n aB/\H (aj blk) w u) n
    ⟨n,iW,aB,rfl,by omega,by omega,by simp,by simp[f0,f6,bQ],r,ap,rfl,aS⟩ ?_
   rintro cQ bJ V f u ⟨k,v,pG,aKB,lW,aM,fA,⟨f0,f6,bQ⟩,r,ap,cl,aS⟩
   cases k with
   |succ q=>
    have aM:v=(q:Int):=by omega
    have vu:IntKind.i64.wrap ((q:Int) - 1)=(q:Int) - 1:=by rw[cz];omega
    obtain⟨p,am⟩:=aD (a+q);have wN:=eN ((a:Int)+q) p (by omega) (by omega);have hu:a<bd:=by omega
    have kt:p<bd:=by omega
    obtain⟨x,W,cx,rY,iG⟩:=rd ap r hu;obtain⟨y,ar,fI,sU,lg⟩:=rd ap r kt;obtain⟨hi,fH,ia⟩:=uX ap r hu kt W ar;simp only[nr,ns]at hi ia;obtain⟨sp,ju⟩:=FN ap r kt a y;simp only[nr,ns]at ju;subst v;simp[go_sem,fA];refine cT [F 0,F 1,F 2,F 3,F 4,F 5,F 6,F 7,F 8,F 9,F 10,F 11,F 12,F 13,F 14,F 15,F 16,(17,some [2,3,4,5]),F 18,(19,some [])] ?_;simp[go_sem,f0,f6,bQ,fA,wN,hu,rY,kt,sU,cx,fI,iG,lg,ju];have aA:=aiM hi 0 q a cap (by rw[fH];omega) (by omega) (by omega);rw[fH]at aA;have Cz:∀{u2:M},dM (df _) u2 blk (swp pG a p)->bc prog (ath pG) #[dR blk bd cap,aa 0,aa q,aa a] u2 λ_ w'=>dM (df _) w' blk (siftDown lt q a 0 (swp pG a p))/\H (aj blk) u2 w':=λ{u2} T=>by
     have:=aiM T 0 q a cap (by rw[fH];omega) (by omega) (by omega);rw[fH]at this;exact this
    refine(Cz hi.drew).mono ?_;rintro _ an ⟨T,aK⟩;simp[go_sem,fA,vu];refine ct.intro q (by omega) (bJ _ _ _ ⟨q,_,_,rfl,by omega,rfl,by simp,by simp[f0,f6,bQ],by rw[abk _ _ _ _ _ (c_ _),fH],T,by rw[<-cl,heapPop,am],?_⟩);exact(aS.trans ia).trans (H.hR aK)
   |zero=>
    have aM:v= -1:=by omega
    subst v;have cl:pG=heapPop lt a n aB:=cl;rw[<-cl]at af;simp[go_sem,fA];exact af _ _ ⟨ap,aS⟩
end
variable {bb:Bool}
section
variable {w u:M}{blk bd i j:Nat}{d aB:Array (E bb)}{x y:(E bb)}
theorem aKC(h:dM (df _) w blk d)(a b cap:Nat)(gE:a<b)(ab:b<=d.size)(cU:d.size<=255):
  bc prog (ati d) #[dR blk d.size cap,aa a,aa b] w λv' w'=>v'=.bool (partialInsertionSort lt d a b).2/\dM (df _) w' blk (partialInsertionSort lt d a b).1/\H (aj blk) w w':=by
 cases bb
 all_goals
  first|refine bz func228 ntmps228 λbk af=> ?_|refine bz func276 ntmps276 λbk af=> ?_
  obtain⟨bd,dO⟩:=aD (d.size);rw[dO]at ab cU⊢;have j_:=eN ((a:Int)+1) (a+1) (by omega) (by omega);unfold partialInsertionSort at af;simp[go_sem,j_];refine di (λV f u=>∃j i aB,V=5 - j/\j<=5/\a<i/\i<=b/\f 0=dR blk bd cap/\f 1=aa a/\f 2=aa b/\f 7=aa i/\f 8=aa j/\aB.size=bd/\dM (df _) u blk aB/\partialIns lt a b (5 - j) i aB=partialIns lt a b 5 (a+1) d/\H (aj blk) w u) 5
   ⟨0,a+1,d,rfl,by omega,by omega,by omega,by simp,by simp,by simp,by simp,by simp,dO,h,rfl,H.refl _ _⟩ ?_
  rintro cQ bJ _ f u ⟨j,i,aB,rfl,aSZ,aiJ,aiK,f0,aW,bg,bQ,bB,r,ap,cl,aS⟩;have aKD:j=5\/j<5:=by omega
  rcases aKD with rfl|V'
  ·have cl:(aB,false)=partialIns lt a b 5 (a+1) d:=cl;rw[<-cl]at af;simp[go_sem,bB];exact af _ _ ⟨rfl,ap,aS⟩
  have aKE:(j:Int)<5:=by omega
  obtain⟨s,aA⟩:∃s,5 - j=s+1:=⟨4 - j,by omega⟩;rw[aA,aJX]at cl;simp[go_sem,bB,V',aKE];obtain⟨bq,bW⟩:∃bq:(Nat->N)->M->Prop,bq=λf u=>∃cf,scanSorted lt aB b i=cf/\i<=cf/\cf<=b/\f 0=dR blk bd cap/\f 1=aa a/\f 2=aa b/\f 7=aa cf/\f 8=aa j/\dM (df _) u blk aB/\H (aj blk) w u:=⟨_,rfl⟩;refine zR bq ?_ ?_
  ·refine di (λV f u=>∃cf,V=b - cf/\scanSorted lt aB b cf=scanSorted lt aB b i/\i<=cf/\cf<=b/\f 0=dR blk bd cap/\f 1=aa a/\f 2=aa b/\f 7=aa cf/\f 8=aa j/\dM (df _) u blk aB/\H (aj blk) w u) (b - i)
    ⟨i,rfl,rfl,c_ _,aiK,by simp[f0],by simp[aW],by simp[bg],by simp[bQ],by simp[bB],ap,aS⟩ ?_
   clear f0 aW bg bQ bB ap aS f u;rintro vq jR _ f u ⟨cf,rfl,Du,fy,aiP,f0,aW,bg,bQ,bB,ap,aS⟩;have eQ:=eN ((cf:Int)+1) (cf+1) (by omega) (by omega);by_cases eh:cf<b
   ·have ie:(cf:Int)<b:=by omega
    obtain⟨q,au⟩:∃q,cf=q+1:=⟨cf - 1,by omega⟩;have pj:cf - 1=q:=by omega
    have vu:=eN ((cf:Int) - 1) q (by omega) (by omega);have hJ:cf<bd:=by omega
    have vZ:q<bd:=by omega
    obtain⟨x,W,cx,rZ,iG⟩:=rd ap r hJ;obtain⟨y,ar,fI,Lb,lg⟩:=rd ap r vZ;simp[go_sem];refine cT [F 0,F 1,F 2,F 3,F 4,F 5,F 6,F 7,F 8,F 9,F 10,F 11,F 12,(13,some []),F 14,F 15] ?_;simp[go_sem,f0,aW,bg,bQ,eh,ie,vu,hJ,rZ,vZ,Lb,cx,fI];refine(vX x y _).mono ?_;rintro _ an ⟨rfl,ii⟩;subst an
    cases ak:lt x y with
    |false=>
     simp[go_sem,bQ,eQ];exact ct.intro (b -(cf+1)) (by omega) (jR _ _ _ ⟨cf+1,rfl,by rw[<-Du];conv=>{rhs;rw[scanSorted]};simp[eh,W,pj,ar,ak],by omega,by omega,by simp[f0],by simp[aW],by simp[bg],by simp,by simp[bB],ap,aS.drew⟩)
    |true=>
     simp[go_sem];rw[bW];exact⟨cf,by rw[<-Du,scanSorted];simp[W,pj,ar,ak],fy,aiP,by simp[f0],by simp[aW],by simp[bg],by simp[bQ],by simp[bB],ap,aS.drew⟩
   ·have ie:¬(cf:Int)<b:=by omega
    simp[go_sem];refine cT [F 0,F 1,F 2,F 3,F 4,F 5,F 6,F 7,F 8,F 9,F 10,F 11,F 12,(13,some []),F 14,F 15] ?_;simp[go_sem,f0,aW,bg,bQ,eh,ie];rw[bW];exact⟨cf,by rw[<-Du,scanSorted];simp[eh],fy,aiP,by simp[f0],by simp[aW],by simp[bg],by simp[bQ],by simp[bB],ap,aS.drew⟩
  rw[bW];clear bW bq f0 aW bg bQ bB ap aS f u;rintro f u ⟨cf,q_,fy,aiP,f0,aW,bg,bQ,bB,ap,aS⟩;rw[q_]at cl;by_cases qE:cf=b
  ·rw[be qE]at cl;rw[<-cl]at af;simp[go_sem,bQ,bg,qE];exact af _ _ ⟨rfl,ap,aS⟩
  rw[aQ qE]at cl;have aiQ:¬(cf:Int)=b:=by omega
  have atn:((cf:Int)==(b:Int))=false:=hv aiQ;obtain⟨l,ak⟩:=aD (b - a);have Br:=eN ((b:Int) - a) l (by omega) (by omega);rw[ak]at cl;by_cases Aj:l<50
  ·have NN:(l:Int)<50:=by omega
   rw[be Aj]at cl;rw[<-cl]at af;simp[go_sem,bQ,aW,bg,qE,aiQ,atn,Br,Aj,NN];exact af _ _ ⟨rfl,ap,aS⟩
  rw[aQ Aj]at cl;have NN:¬(l:Int)<50:=by omega
  obtain⟨q,au⟩:∃q,cf=q+1:=⟨cf - 1,by omega⟩;have pj:cf - 1=q:=by omega
  have vu:=eN ((cf:Int) - 1) q (by omega) (by omega);have eQ:=eN ((cf:Int)+1) (cf+1) (by omega) (by omega);have hJ:cf<bd:=by omega
  have vZ:q<bd:=by omega
  obtain⟨x,W,cx,rZ,iG⟩:=rd ap r hJ;obtain⟨y,ar,fI,Lb,lg⟩:=rd ap r vZ;obtain⟨hi,fH,ia⟩:=uX ap r hJ vZ W ar;simp only[nr,ns]at hi ia;obtain⟨e,aV⟩:=aD (cf - a);have Lc:=eN ((cf:Int) - a) e (by omega) (by omega);obtain⟨aR,qW⟩:=aD (b - cf);have aKF:=eN ((b:Int) - cf) aR (by omega) (by omega);rw[pj,aV,qW]at cl;simp[go_sem,bQ,aW,bg,qE,aiQ,atn,Br,Aj,NN];refine cT [F 0,F 1,F 2,F 3,F 4,F 5,F 6,F 7,F 8,F 9,F 10,F 11,F 12,F 13,F 14,(15,some [2,3,4]),F 16,(17,some [])] ?_;simp[go_sem,f0,aW,bQ,vu,hJ,rZ,vZ,Lb,cx,fI,iG,lg,Lc];generalize swp aB cf q=qn at*;have kJ:=(aS.trans ia).drew;clear aS ia cx fI iG lg W ar ap;obtain⟨vY,tA⟩:=aD ((if e>=2 then shiftDown lt q qn else qn));have oD:vY.size=bd:=by
   rw[<-tA];split
   ·rw[as6,fH]
   ·exact fH
  rw[tA]at cl;obtain⟨bq,bW⟩:∃bq:(Nat->N)->M->Prop,bq=λf u=>f 0=dR blk bd cap/\f 1=aa a/\f 2=aa b/\f 7=aa cf/\f 8=aa j/\dM (df _) u blk vY/\H (aj blk) w u:=⟨_,rfl⟩;refine Jf bq ?_ ?_
  ·by_cases T:2<=e
   ·have k':(2:Int)<=e:=by omega
    rw[be T]at tA;simp[go_sem,T,k',bQ,vu];refine di (λV f u=>∃k aB,V=k+1/\k<=q/\f 0=dR blk bd cap/\f 1=aa a/\f 2=aa b/\f 7=aa cf/\f 8=aa j/\f 9=aa k/\aB.size=bd/\shiftDown lt k aB=vY/\dM (df _) u blk aB/\H (aj blk) w u) (q+1)
     ⟨q,qn,rfl,c_ _,by simp[f0],by simp[aW],by simp[bg],by simp[bQ],by simp[bB],by simp,fH,tA,hi,kJ⟩ ?_
    clear f0 aW bg bQ bB f tA;rintro vq jR _ f u ⟨k,aB,rfl,apE,f0,aW,bg,bQ,bB,dt,kZ,tA,ap,aS⟩
    cases k with
    |zero=>
     have tA:aB=vY:=tA;simp[go_sem,dt];rw[bW];exact⟨by simp[f0],by simp[aW],by simp[bg],by simp[bQ],by simp[bB],by rw[<-tA];exact ap,aS⟩
    |succ p=>
     obtain⟨k,r⟩:=aD (p+1);rw[r]at dt;have abo:1<=k:=by omega
     have aKG:(1:Int)<=k:=by omega
     have ej:=eN ((k:Int) - 1) p (by omega) (by omega);have fT:k<bd:=by omega
     have kt:p<bd:=by omega
     obtain⟨x,W,cx,Wa,iG⟩:=rd ap kZ fT;obtain⟨y,ar,fI,sU,lg⟩:=rd ap kZ kt;rw[shiftDown,r,W,ar]at tA;simp[go_sem,dt,abo,aKG];refine cT [F 0,F 1,F 2,F 3,F 4,F 5,F 6,F 7,F 8,(9,some []),F 10] ?_;simp[go_sem,f0,dt,ej,fT,Wa,kt,sU,cx,fI];refine(vX x y _).mono ?_;rintro _ an ⟨rfl,ii⟩;subst an
     cases ak:lt x y with
     |false=>
      rw[ak]at tA;simp[go_sem];rw[bW];exact⟨by simp[f0],by simp[aW],by simp[bg],by simp[bQ],by simp[bB],by rw[<-tA];exact ap,aS.drew⟩
     |true=>
      rw[ak]at tA;obtain⟨hi,fH,ia⟩:=uX ap kZ fT kt W ar;simp only[nr,ns]at hi ia;simp[go_sem];refine cT [F 0,F 1,F 2,F 3,F 4,F 5,F 6,F 7,F 8,F 9,F 10,F 11,F 12,F 13,F 14,(15,some [2,3,4]),F 16,(17,some [])] ?_;simp[go_sem,f0,dt,ej,fT,Wa,kt,sU,cx,fI,iG,lg];exact ct.intro (p+1) (by omega) (jR _ _ _ ⟨p,_,rfl,by omega,by simp[f0],by simp[aW],by simp[bg],by simp[bQ],by simp[bB],by simp,fH,tA,hi,by(repeat apply H.drew);exact aS.trans ia⟩)
   ·have k':¬(2:Int)<=e:=by omega
    rw[aQ T]at tA;simp[go_sem,T,k'];rw[bW];exact⟨by simp[f0],by simp[aW],by simp[bg],by simp[bQ],by simp[bB],by rw[<-tA];exact hi,kJ⟩
  rw[bW];clear bW bq f0 aW bg bQ bB hi kJ f;rintro f u ⟨f0,aW,bg,bQ,bB,ap,aS⟩;obtain⟨abp,uY⟩:=aD ((if aR>=2 then shiftUp lt b (cf+1) vY else vY));have Fx:abp.size=bd:=by
   rw[<-uY];split
   ·rw[as7 _ _ _ _ (c_ _),oD]
   ·exact oD
  rw[uY]at cl;simp[go_sem,bQ,bg,aKF];obtain⟨bq,bW⟩:∃bq:(Nat->N)->M->Prop,bq=λf u=>f 0=dR blk bd cap/\f 1=aa a/\f 2=aa b/\f 7=aa cf/\f 8=aa j/\dM (df _) u blk abp/\H (aj blk) w u:=⟨_,rfl⟩;refine aKH bq ?_ ?_
  ·by_cases T:2<=aR
   ·have k':(2:Int)<=aR:=by omega
    rw[be T]at uY;simp[go_sem,T,k',bQ,eQ];refine di (λV f u=>∃k aB,V=b - k/\cf<k/\k<=b/\f 0=dR blk bd cap/\f 1=aa a/\f 2=aa b/\f 7=aa cf/\f 8=aa j/\f 10=aa k/\aB.size=bd/\shiftUp lt b k aB=abp/\dM (df _) u blk aB/\H (aj blk) w u) (b -(cf+1))
     ⟨cf+1,vY,rfl,by omega,by omega,by simp[f0],by simp[aW],by simp[bg],by simp[bQ],by simp[bB],by simp,oD,uY,ap,aS⟩ ?_
    clear f0 aW bg bQ bB f uY;rintro vq jR _ f u ⟨k,aB,rfl,apE,ao9,f0,aW,bg,bQ,bB,fA,kZ,uY,ap,aS⟩;rw[shiftUp]at uY;by_cases aO:k<b
    ·rw[be aO]at uY;have Al:(k:Int)<b:=by omega
     obtain⟨p,am⟩:∃p,k=p+1:=⟨k - 1,by omega⟩;have gT:k - 1=p:=by omega
     have ej:=eN ((k:Int) - 1) p (by omega) (by omega);have aKI:=eN ((k:Int)+1) (k+1) (by omega) (by omega);have fT:k<bd:=by omega
     have kt:p<bd:=by omega
     obtain⟨x,W,cx,Wa,iG⟩:=rd ap kZ fT;obtain⟨y,ar,fI,sU,lg⟩:=rd ap kZ kt;rw[gT,W,ar]at uY;simp[go_sem,fA,bg,aO,Al];refine cT [F 0,F 1,F 2,F 3,F 4,F 5,F 6,F 7,F 8,(9,some []),F 10] ?_;simp[go_sem,f0,fA,ej,fT,Wa,kt,sU,cx,fI];refine(vX x y _).mono ?_;rintro _ an ⟨rfl,ii⟩;subst an
     cases ak:lt x y with
     |false=>
      rw[ak]at uY;simp[go_sem];rw[bW];exact⟨by simp[f0],by simp[aW],by simp[bg],by simp[bQ],by simp[bB],by rw[<-uY];exact ap,aS.drew⟩
     |true=>
      rw[ak]at uY;obtain⟨hi,fH,ia⟩:=uX ap kZ fT kt W ar;simp only[nr,ns]at hi ia;simp[go_sem];refine cT [F 0,F 1,F 2,F 3,F 4,F 5,F 6,F 7,F 8,F 9,F 10,F 11,F 12,F 13,F 14,(15,some [2,3,4]),F 16,(17,some [])] ?_;simp[go_sem,f0,fA,ej,aKI,fT,Wa,kt,sU,cx,fI,iG,lg];exact ct.intro (b -(k+1)) (by omega) (jR _ _ _ ⟨k+1,_,rfl,by omega,by omega,by simp[f0],by simp[aW],by simp[bg],by simp[bQ],by simp[bB],by simp,fH,uY,hi,by(repeat apply H.drew);exact aS.trans ia⟩)
    ·rw[aQ aO]at uY;have Al:¬(k:Int)<b:=by omega
     simp[go_sem,fA,bg,aO,Al];rw[bW];exact⟨by simp[f0],by simp[aW],by simp[bg],by simp[bQ],by simp[bB],by rw[<-uY];exact ap,aS⟩
   ·have k':¬(2:Int)<=aR:=by omega
    rw[aQ T]at uY;simp[go_sem,T,k'];rw[bW];exact⟨by simp[f0],by simp[aW],by simp[bg],by simp[bQ],by simp[bB],by rw[<-uY];exact ap,aS⟩
  rw[bW];clear bW bq f0 aW bg bQ bB ap aS f u;rintro f u ⟨f0,aW,bg,bQ,bB,ap,aS⟩;have hN:=eN ((j:Int)+1) (j+1) (by omega) (by omega);simp[go_sem,bB,hN];exact ct.intro (5 -(j+1)) (by omega) (bJ _ _ _ ⟨j+1,cf,abp,rfl,by omega,by omega,by omega,by simp[f0],by simp[aW],by simp[bg],by simp[bQ],by simp,Fx,ap,by grind,aS⟩)
end
end Go.Proofs.YtoohkhcpboldjaaGreatDoor.SS
