/- How many addresses of a disk a state takes: as charge says. They speak of no memory. No condition. -/
import Derived.Test.YtoohkhcpboldjaaGreatDoorTdA
set_option linter.unusedSimpArgs false
set_option linter.unusedVariables false
namespace Go.Proofs.YtoohkhcpboldjaaGreatDoor
open Go.RowKit Go.Kin Tryz
def El(w:M):Prop:=w.cell? (bl 1 0)=some (.int .u8 0)/\w.cell? (bl 1 1)=some (.int .u8 1)/\w.cell? (bl 1 2)=some (.int .u8 2)/\w.cell? (bl 1 3)=some (.int .u8 2)
theorem El.ch{S:Nat->Prop}{w w':M}(h:El w)(Z:H S w w')(aq:¬S 1):El w':=⟨Z.cell h.1 aq,Z.cell h.2.1 aq,Z.cell h.2.2.1 aq,Z.cell h.2.2.2 aq⟩
theorem El.lt{w:M}(h:El w):1<w.1.size:=xC w _ h.1
def Fz(k:Nat):Nat:=if 4<=k then 0 else if k=0 then 0 else if k=1 then 1 else 2
theorem aLl(k:Nat)(w:M)(r:k<256)(ak:El w):bc prog 141 #[.int .u8 k] w λv' w'=>v'=.int .u8 (Fz k)/\w'=w:=by
 obtain⟨tb,mx,lh,qL⟩:=ak;refine bz func141 ntmps141 λbk af=> ?_;have bM:IntKind.i64.wrap (k:Int)=k:=by simp[cz];omega
 by_cases aP:4<=k
 ·have LP:(4:Int)<=k:=by omega
  simp[go_sem,bM,LP];exact af _ _ ⟨by simp[Fz,aP],rfl⟩
 ·have gq:k=0\/k=1\/k=2\/k=3:=by omega
  rcases gq with rfl|rfl|rfl|rfl<;>simp[go_sem,cz,tb,mx,lh,qL]<;>exact af _ _ ⟨rfl,rfl⟩
theorem aLm(k:Nat)(w:M)(r:k<256)(ak:El w):bc prog 85 #[.int .u8 k] w λv' w'=>v'=aa (if Fz k=1 then 1 else 2)/\w'=w:=by
 refine bz func85 ntmps85 λbk af=> ?_;simp[go_sem];refine(aLl k w r ak).mono ?_;rintro _ w ⟨rfl,rfl⟩;by_cases h:Fz k=1
 ·simp[go_sem,h];exact af _ _ ⟨by simp[h],rfl⟩
 ·have h':((Fz k:Int)==1)=false:=by simp;omega
  simp[go_sem,h'];exact af _ _ ⟨by simp[h],rfl⟩
def iH(l:List Bool):List N:=l.map Value.bool
theorem abD(l:List Bool):(iH l).length=l.length:=oV ..
theorem aLn(l:List Bool):∀u∈iH l,u.oneCell'=true:=by
 intro u ap;obtain⟨c,_,rfl⟩:=lF.1 ap;rfl
theorem at':sd prog 199 4 (.bool false) 1:=⟨underlying199,by kernel_rfl,rfl⟩
def oc(l:List Bool)(j:Nat):Nat:=(l.take j).count true
def Dr(l:List Bool)(i:Nat):Bool:=((l.drop (8*i)).take 8).any id
def k_(l:List Bool):Nat->Nat
 |0=>0
 |k+1=>k_ l k+(if Dr l k then 1 else 0)
theorem aLo(l:List Bool)(j:Nat)(b:Bool)(h:l[j]? =some b):oc l (j+1)=oc l j+(if b then 1 else 0):=by
 unfold oc;rw[nA,h,AE]
 cases b<;>simp
theorem Vb(l:List Bool)(j:Nat):oc l j<=j:=dK List.count_le_length (by rw[ol];omega)
theorem QG(l:List Bool)(k:Nat):k_ l k<=k:=by
 induction k with
 |zero=>exact c_ _
 |succ k bL=>unfold k_;split<;>omega
theorem aua(v:N)(l:List Bool)(w:M)(ak:l.length=64)(aA:bC w v 64 (iH l)):bc prog 84 #[v] w λv' w'=>v'=.tuple #[aa (k_ l 8),aa (oc l 64)]/\w'=w:=by
 refine bz func84 ntmps84 λbk af=> ?_;have cu:=aA.len underlying199 3;simp[go_sem];refine di (λV f bI=>∃k,k<=8/\V=8 - k/\bI=w/\f 0=v/\f 4=aa (k_ l k)/\f 5=aa (oc l (8*k))/\f 6=aa (8*k:Nat)) 8
  ⟨0,by omega,rfl,rfl,by simp,by simp[k_],by simp[oc],by simp⟩ ?_
 rintro cQ bJ _ f ai ⟨k,r,rfl,rfl,bi,aP,bH,cS⟩;by_cases mT:k<8
 ·have eo:((8*k:Nat):Int)<64:=by omega
  obtain⟨fY,gF,_,EX,_⟩:=aA.rz at' (by rw[abD,ak]) (8*k) (8*k+8) (by omega) (by omega);have CU:IntKind.i64.wrap (((8*k:Nat):Int)+8)=((8*k+8:Nat):Int):=by simp[cz];omega
  rw[show 8*k+8 - 8*k=8 by omega]at gF;have aLp:=gF.len underlying199 3;have H':((iH l).take (8*k+8)).drop (8*k)=iH ((l.drop (8*k)).take 8):=by
   rw[List.drop_take,show 8*k+8 - 8*k=8 by omega];simp[iH,LB,OI]
  rw[H']at gF;have fb:((l.drop (8*k)).take 8).length=8:=by simp[ak];omega
  push_cast at eo CU EX cS
  simp[go_sem,bi,cS,cu,eo,CU,EX,aLp];clear EX;refine di (λV f' bI=>∃j,j<=8/\V=8 - j/\bI=ai/\f' 0=v/\f' 4=aa (k_ l k)/\f' 5=aa (oc l (8*k+j))/\f' 6=aa (8*(k:Int))/\f' 7=.bool (((l.drop (8*k)).take j).any id)/\f' 20=fY/\f' 21=aa 8/\f' 22=aa j) 8
   ⟨0,by omega,rfl,rfl,by simp[bi],by simp[aP],by simp[bH],by simp[cS],by simp,by simp,by simp,by simp⟩ ?_
  clear bi aP bH cS f;rintro vq jR _ f an ⟨j,I,rfl,rfl,bi,aP,bH,cS,fi,Wj,NV,ai8⟩;by_cases aa9:j<8
  ·have ly:(j:Int)<8:=by omega
   obtain⟨b,ab⟩:∃b,l[8*k+j]? =some b:=⟨_,d_ (by omega)⟩;have cZ:(iH ((l.drop (8*k)).take 8))[j]? =some (.bool b):=by
    rw[iH,oo,Se,be aa9,XJ,ab];rfl
   obtain⟨bx,lI,eY,_⟩:=gF.at at' (by rw[abD,fb]) cZ;have fp:=aLo l (8*k+j) b ab;have eh:=Vb l (8*k+j);have aub:((l.drop (8*k)).take (j+1)).any id=(((l.drop (8*k)).take j).any id||b):=by
    rw[nA,XJ,ab,List.any_append];simp
   have hN:IntKind.i64.wrap ((j:Int)+1)=((j+1:Nat):Int):=by simp[cz];omega
   cases b
   ·simp[go_sem,Wj,NV,ai8,ly,lI,eY,hN];refine ct.intro (8 -(j+1)) (by omega) (jR _ _ _ ⟨j+1,by omega,rfl,rfl,by simp[bi],by simp[aP],by simp[bH,<-yH,fp],by simp[cS],by rw[aub];simp[fi],by simp[Wj],by simp[NV],by simp⟩)
   ·have j_:IntKind.i64.wrap ((oc l (8*k+j):Int)+1)=((oc l (8*k+j)+1:Nat):Int):=by simp[cz];omega
    simp[go_sem,bH,Wj,NV,ai8,ly,lI,eY,hN,j_];refine ct.intro (8 -(j+1)) (by omega) (jR _ _ _ ⟨j+1,by omega,rfl,rfl,by simp[bi],by simp[aP],by simp[<-yH,fp],by simp[cS],by rw[aub];simp,by simp[Wj],by simp[NV],by simp⟩)
  ·obtain rfl:j=8:=by omega
   have aH:k_ l (k+1)=k_ l k+(if((l.drop (8*k)).take 8).any id=true then 1 else 0):=rfl;have jj:=QG l k;simp[go_sem,NV,ai8,fi];have FO:IntKind.i64.wrap (8*(k:Int)+8)=((8*(k+1):Nat):Int):=by simp[cz];omega
   have aLq:IntKind.i64.wrap ((k_ l k:Int)+1)=((k_ l k+1:Nat):Int):=by simp[cz];omega
   refine auc (λar=> ?_) (λar=> ?_)
   ·simp[go_sem,aP,cS,FO,aLq];refine ct.intro (8 -(k+1)) (by omega) (bJ _ _ _ ⟨k+1,by omega,rfl,rfl,by simp[bi],?_,by simp[bH,BY],by simp⟩);rw[aH,be (by simpa using ar)];simp
   ·simp[go_sem,cS,FO];refine ct.intro (8 -(k+1)) (by omega) (bJ _ _ _ ⟨k+1,by omega,rfl,rfl,by simp[bi],?_,by simp[bH,BY],by simp⟩);rw[aH,aQ (by simpa using ar)];simp[aP]
 ·obtain rfl:k=8:=by omega
  simp[go_sem,bi,aP,bH,cS,cu];exact af _ _ ⟨by simp,rfl⟩
def BD(l:List Nat):List N:=l.map λn:Nat=>Value.int .u32 (n:Int)
theorem aLr(l:List Nat):(BD l).length=l.length:=oV ..
abbrev nk:=Nat×Nat×List Nat
structure aLs(w:M)(b o:Nat)(x:nk):Prop where
 fz:x.1<65536/\x.2.1<256/\∀n∈x.2.2,n<4294967296
 num:w.cell? (bl b o)=some (.int .u16 x.1)
 kind:w.cell? (bl b (o+1))=some (.int .u8 x.2.1)
 he:∃A c,w.cell? (bl b (o+2))=some (.slice A x.2.2.length c)/\bC w (.slice A x.2.2.length c) x.2.2.length (BD x.2.2)
def aaK(w:M)(v:N)(l:List nk):Prop:=∃A c,v=.slice A l.length c/\l.length<=c/\c<=maxLen/\(0<l.length->∃b o,A=some ⟨b,o,none⟩/\∀j x,l[j]? =some x->aLs w b (o+j*3) x)
def lB(he:List Nat):List Bool:=(List.range 64).map λi=>he.contains i
theorem NW(he:List Nat):(lB he).length=64:=by simp[lB]
theorem abE(he:List Nat)(i:Nat)(h:i<64):(lB he)[i]? =some (he.contains i):=by simp[lB,h]
def qD(n:Nat):List Bool:=List.replicate n false
theorem aaH(n:Nat):(qD n).length=n:=yC
abbrev mM:=Nat×Nat×List Bool
def dN(Vv:List Bool)(x:nk):Bool:=decide (x.1<1)||decide (255<x.1)||decide (x.2.1<1)||decide (3<x.2.1)||Vv.getD x.1 false
def q'(s:List mM×List Bool)(x:nk):List mM×List Bool:=if dN s.2 x then s else(s.1++[(x.1,x.2.1,lB x.2.2)],s.2.set x.1 true)
def M_:List mM×List Bool:=([],qD 256)
def kK(l:List nk):List mM×List Bool:=l.foldl q' M_
theorem aLt(l:List nk)(k:Nat)(x:nk)(h:l[k]? =some x):kK (l.take (k+1))=q' (kK (l.take k)) x:=by
 unfold kK;rw[nA,h];simp
theorem aLu{s:List mM×List Bool}(x:nk)(h:s.2.length=256):(q' s x).2.length=256:=by
 unfold q'
 grind
theorem aLv(l:List nk):(kK l).2.length=256:=by
 have key:∀(l:List nk) (s:List mM×List Bool),s.2.length=256->(l.foldl q' s).2.length=256:=by
  intro l
  induction l with
  |nil=>exact λs h=>h
  |cons x l bL=>exact λs h=>bL _ (aLu x h)
 exact key l _ (aaH 256)
theorem aud(l:List nk):(kK l).1.length<=l.length:=by
 have key:∀(l:List nk) (s:List mM×List Bool),(l.foldl q' s).1.length<=s.1.length+l.length:=by
  intro l
  induction l with
  |nil=>exact λs=>c_ _
  |cons x l bL=>
   intro s;have J:=bL (q' s x);have T:(q' s x).1.length<=s.1.length+1:=by unfold q';split<;>simp
   grind
 have h:=key l M_;simp only[M_,OK,xB]at h;exact h
theorem aLw:kN prog 273=(iH (qD 256)).toArray:=by kernel_rfl
theorem aLx:(prog.info? 273).map (λi=>i.zero.isSome)=some true:=by kernel_rfl
theorem aue:kN prog 192=(iH (qD 64)).toArray:=by kernel_rfl
theorem auf:(prog.info? 192).map (λi=>i.zero.isSome)=some true:=by kernel_rfl
theorem ai9{l:List Bool}{k:Nat}{b:Bool}(h:l[k]? =some b):(iH l).toArray[k]? =some (.bool b):=by rw[yL,iH,oo,h];rfl
theorem ai_(l:List Bool)(k:Nat)(c:Bool):(iH l).toArray.setIfInBounds k (.bool c)=(iH (l.set k c)).toArray:=by
 apply ip;simp[iH,Ou]
@[simp] theorem aTe(l:List Bool):jx (iH l).toArray=true:=yJ (aLn l)
@[simp] theorem aTf(l:List Bool)(n:Nat)(h:l.length<=n):(iH l).take n=iH l:=mP (by rw[abD];exact h)
theorem are:sd prog 194 40 (.int .u32 0) 4:=⟨underlying194,by kernel_rfl,rfl⟩
theorem aLy{l:List Nat}{k n:Nat}(h:l[k]? =some n):(BD l)[k]? =some (.int .u32 n):=by rw[BD,oo,h];rfl
theorem aLz:lB []=qD 64:=by decide
theorem aLA(he:List Nat)(j n:Nat)(h:he[j]? =some n):lB (he.take (j+1))=if n<64 then(lB (he.take j)).set n true else lB (he.take j):=by
 rw[nA,h];apply yM;intro i;by_cases ad:i<64
 ·rw[abE _ _ ad];split
  ·by_cases fo:n=i
   ·subst fo;rw[Sh (by rw[NW];exact ad)];simp
   ·rw[List.getElem?_set_ne fo,abE _ _ ad]
    grind
  ·rw[abE _ _ ad];simp;omega
 ·rw[Ed (by rw[NW];omega)];split
  ·rw[Ed (by rw[XH,NW];omega)]
  ·rw[Ed (by rw[NW];omega)]
theorem aLB(v:N)(l:List nk)(Ih:FuncId)(NX:List N)(w0 w:M)(bq:List mM->M->Prop)(ak:l.length<=1000)(xM:∀x∈l,x.2.2.length<=1000)(av:aaK w0 v l)(bi:H al w0 w)(QS:bq [] w)
  (eS:∀s ai an,bq s ai->H (λk=>w.1.size<=k) ai an->bq s an)
  (oC:∀(args:List N) ai,(callFunc Ih (args++NX).toArray).run prog ai=.ok (.enter Ih (args++NX).toArray) ai)
  (tI:∀s ai (x:nk) (sv:N),s.length<l.length->bq s ai->H al w0 ai->x.1<256->x.2.1<256->bc prog Ih ([Value.agg #[.int .u16 x.1,.int .u8 x.2.1,sv],Value.agg (iH (lB x.2.2)).toArray]++NX).toArray ai λv' an=>
   bq (s++[(x.1,x.2.1,lB x.2.2)]) an/\H (λk=>w0.1.size<=k/\k<w.1.size) ai an):
  bc prog 82 #[v,.func (.func Ih) #[] NX.toArray] w λv' w'=>bq (kK l).1 w'/\H al w0 w':=by
 obtain⟨A,c,rfl,IU,pC,xX⟩:=av;refine bz func82 ntmps82 λbk af=> ?_;simp[go_sem,aLx,aLw];have pj:=(H.refl al w).alloc (.cells (iH (qD 256)).toArray 273);have cZ:=cr w (.cells (iH (qD 256)).toArray 273);have abF:=eS _ _ _ QS (pj.mono λ_ _ e=>e.elim);have fR:=bi.trans pj;have dx:=bi.size;revert pj cZ abF fR;generalize w.alloc (.cells (iH (qD 256)).toArray 273)=ai;generalize w.1.size=B at*;intro pj cZ abF fR;refine di (λV f bI=>∃k,k<=l.length/\V=l.length - k/\f 1=.func (.func Ih) #[] NX.toArray/\f 4=az B/\f 10=.slice A l.length c/\f 11=aa l.length/\f 12=aa k/\
   bq (kK (l.take k)).1 bI/\H al w0 bI/\bI.1[B]? =some (.cells (iH (kK (l.take k)).2).toArray 273)) l.length
  ⟨0,by omega,rfl,by simp,by simp,by simp,by simp,by simp,abF,fR,by simpa[kK,M_]using cZ⟩ ?_
 clear pj cZ abF fR QS;rintro cQ bJ _ f bI ⟨k,r,rfl,J,aP,ix,lY,jW,bW,Z,ab⟩;by_cases ox:k<l.length
 ·obtain⟨bb,Vi,rfl,lI⟩:=xX (by omega);obtain⟨x,W⟩:∃x,l[k]? =some x:=⟨_,d_ ox⟩;have aLC:=xM x (ib W);obtain⟨⟨CC,Fu,OE⟩,qV,aLD,Rr,Rs,aLE,ai'⟩:=lI k x W;have aq:=Z.cell qV id;have wy:=Z.cell aLD id;have NG:=Z.cell aLE id;have abG:=aLt l k x W;have lx:=aLv (l.take k);have Rm:(kK (l.take k)).1.length<=k:=dK (aud _) (by rw[ol];omega);have eo:(k:Int)<l.length:=by omega
  generalize kK (l.take k)=s at*;have ej:IntKind.i64.wrap ((k:Int)+1)=((k+1:Nat):Int):=by simp[cz];omega
  obtain⟨num,kind,he⟩:=x;simp only[]at CC Fu OE aq wy NG ai' aLC;have aTg:B<bI.1.size:=lt_of_block ab;simp only[yH]at wy NG;simp[go_sem,ix,lY,jW,eo,aq,wy,NG,yH];have kO:=(H.refl al bI).alloc (.cells #[.int .u16 num,.int .u8 kind,.slice Rr he.length Rs] 196);have dm:=cr bI (.cells #[.int .u16 num,.int .u8 kind,.slice Rr he.length Rs] 196);have Fa:=eS _ _ _ bW (kO.mono λ_ _ e=>e.elim);have hV:=Z.trans kO;have vc:=kO.am ab id;revert kO dm Fa hV vc;generalize bI.alloc (.cells #[.int .u16 num,.int .u8 kind,.slice Rr he.length Rs] 196)=an;generalize CZ:bI.1.size=vK at*;intro kO dm Fa hV vc;have fa:=(aG dm 0).trans rfl;have hf:=(aG dm 1).trans rfl;have eI:=(aG dm 2).trans rfl;have skip:∀f':Nat->N,f' 1=.func (.func Ih) #[] NX.toArray->f' 4=az B->f' 10=.slice (some ⟨bb,Vi,none⟩) l.length c->f' 11=aa l.length->f' 12=aa (k+1:Nat)->dN s.2 (num,kind,he)=true->ct cQ (l.length - k) f' an:=by
   intro f' cC cy CH sZ Wk uv;have e:q' s (num,kind,he)=s:=by simp only[q',uv,if_true]
   refine ct.intro (l.length -(k+1)) (by omega) (bJ _ _ _ ⟨k+1,by omega,rfl,cC,cy,CH,sZ,Wk,?_,hV,?_⟩)
   ·rw[abG,e];exact Fa
   ·rw[abG,e];exact vc
  by_cases a1:(num:Int)<1
  ·have aLF:num<1:=by omega
   simp[go_sem,jW,ej,a1];exact skip _ (by simp[J]) (by simp[aP]) (by simp[ix]) (by simp[lY]) (by simp) (by simp[dN,aLF])
  ·by_cases a2:(255:Int)<num
   ·have aLG:255<num:=by omega
    simp[go_sem,jW,ej,a1,a2,fa];exact skip _ (by simp[J]) (by simp[aP]) (by simp[ix]) (by simp[lY]) (by simp) (by simp[dN,aLG])
   ·by_cases a3:(kind:Int)<1
    ·have aLH:kind<1:=by omega
     simp[go_sem,jW,ej,a1,a2,a3,fa,hf];exact skip _ (by simp[J]) (by simp[aP]) (by simp[ix]) (by simp[lY]) (by simp) (by simp[dN,aLH])
    ·by_cases a4:(3:Int)<kind
     ·have aLI:3<kind:=by omega
      simp[go_sem,jW,ej,a1,a2,a3,a4,fa,hf];exact skip _ (by simp[J]) (by simp[aP]) (by simp[ix]) (by simp[lY]) (by simp) (by simp[dN,aLI])
     ·obtain⟨abH,aug⟩:∃b,s.2[num]? =some b:=⟨_,d_ (by omega)⟩;have hw:=(aG vc num).trans (ai9 aug);have auh:(num:Int)<256:=by omega
      have rW:s.2.getD num false=abH:=by rw[lk,aug];rfl
      cases abH
      ·simp[go_sem,a1,a2,a3,a4,fa,hf,hw,aP,auh];have kP:=dJ vc num;simp[go_sem,kP,auf,aue];have rx:=(H.refl (aj B) an).setCell (p:=bl B num) (.inl rfl) (.bool true);have abI:(an.setCell ⟨B,num,none⟩ (.bool true)).1[B]? =some (.cells (iH (s.2.set num true)).toArray 273):=by rw[eU,vc,fU,ai_]
       have I':=eS _ _ _ Fa (rx.mono λj _ e=>by simp only[aj]at e;omega);have p':H al w0 (an.setCell ⟨B,num,none⟩ (.bool true)):=hV.setCell (.inr (by simpa using dx)) _;have fm:=rx.am dm (by simp only[aj];omega);have vC:(an.setCell ⟨B,num,none⟩ (.bool true)).1.size=an.1.size:=by simp[World.setCell]
       revert rx abI I' p' fm vC;generalize an.setCell ⟨B,num,none⟩ (.bool true)=aJ;intro rx abI I' p' fm vC;have ss:=(H.refl al aJ).alloc (.cells (iH (qD 64)).toArray 192);have ht:=cr aJ (.cells (iH (qD 64)).toArray 192);have Jb:=eS _ _ _ I' (ss.mono λ_ _ e=>e.elim);have oa:=p'.trans ss;have aja:=ss.am abI id;have fm:=ss.am fm id;have aTh:=lt_of_block dm;have aTi:=lt_of_block abI;revert ss ht Jb oa aja fm;generalize aJ.alloc (.cells (iH (qD 64)).toArray 192)=bs;generalize aTj:aJ.1.size=abJ at*;intro ss ht Jb oa aja fm;have aTk:=ai'.fK λp u am=>oa.cell am id;have aLJ:=(aG fm 2).trans rfl;simp[go_sem,aLJ];refine di (λV f' bI=>∃j,j<=he.length/\V=he.length - j/\f' 1=.func (.func Ih) #[] NX.toArray/\f' 4=az B/\f' 6=az vK/\f' 7=az abJ/\f' 10=.slice (some ⟨bb,Vi,none⟩) l.length c/\f' 11=aa l.length/\f' 12=aa k/\
         f' 44=.slice Rr he.length Rs/\f' 45=aa he.length/\f' 46=aa j/\H (aj abJ) bs bI/\bI.1[abJ]? =some (.cells (iH (lB (he.take j))).toArray 192)) he.length
        ⟨0,by omega,rfl,by simp[J],by simp[aP],by simp,by simp,by simp[ix],by simp[lY],by simp[jW],by simp,by simp,by simp,H.refl _ _,by simpa[aLz]using ht⟩ ?_
       have aLK:=bJ;clear bJ skip;rintro vq jR _ f' bD ⟨j,I,rfl,cC,cy,cA,jp,CH,sZ,Wk,abK,Wl,ajb,wg,md⟩;by_cases iP:j<he.length
       ·obtain⟨n,aq⟩:∃n,he[j]? =some n:=⟨_,d_ iP⟩;have aLL:bC bD (.slice Rr he.length Rs) he.length (BD he):=ai'.fK λp u am=>wg.cell (oa.cell am id) (by
         have:=xC _ _ am;simp only[aj];omega)
        obtain⟨bx,aui,auj,_⟩:=aLL.at are (aLr _) (aLy aq);have vJ:=OE n (ib aq);have ly:(j:Int)<he.length:=by omega
        have hN:IntKind.i64.wrap ((j:Int)+1)=((j+1:Nat):Int):=by simp[cz];omega
        have abL:=aLA he j n aq;by_cases ajc:n<64
        ·have Km:(n:Int)<64:=by omega
         have vj:=(aG md n).trans (ai9 (abE (he.take j) n ajc));have aLM:=dJ md n;rw[be ajc]at abL;simp[go_sem,jp,abK,Wl,ajb,ly,aui,auj,hN,Km,vj,aLM];refine ct.intro (he.length -(j+1)) (by omega) (jR _ _ _ ⟨j+1,by omega,rfl,by simp[cC],by simp[cy],by simp[cA],by simp[jp],by simp[CH],by simp[sZ],by simp[Wk],by simp[abK],by simp[Wl],by simp,wg.setCell (p:=bl abJ n) (.inl rfl) _,?_⟩);rw[eU,md,fU,ai_,abL]
        ·have Km:¬(n:Int)<64:=by omega
         rw[aQ ajc]at abL;simp[go_sem,abK,Wl,ajb,ly,aui,auj,hN,Km];exact ct.intro (he.length -(j+1)) (by omega) (jR _ _ _ ⟨j+1,by omega,rfl,by simp[cC],by simp[cy],by simp[cA],by simp[jp],by simp[CH],by simp[sZ],by simp[Wk],by simp[abK],by simp[Wl],by simp,wg,by rw[abL];exact md⟩)
       ·obtain rfl:j=he.length:=by omega
        rw[wm]at md;have Ac:=wg.am fm (by simp only[aj];omega);have nP:=(aG Ac 0).trans rfl;have ny:=(aG Ac 1).trans rfl;have Av:=(aG Ac 2).trans rfl;have AR:=eS _ _ _ Jb (wg.mono λj _ e=>by simp only[aj]at e;omega);have auk:H al w0 bD:=oa.bZ wg λj I e=>by simp only[aj]at e;omega
        simp[go_sem,cC,cA,jp,Wl,ajb,nP,ny,Av,md,abD,NW];rw[EJ _ _ _ _ _ _ (oC _ _)];refine(tI s.1 bD (num,kind,he) (.slice Rr he.length Rs) (by omega) AR auk (by omega) Fu).mono ?_;rintro oy cD ⟨AT,Wm⟩;have aLN:=Wm.am (wg.am aja (by simp only[aj];omega)) (by omega);have afj:dN s.2 (num,kind,he)=false:=by simp[dN];refine⟨⟨⟨⟨by omega,by omega⟩,by omega⟩,by omega⟩,by simpa using rW⟩
        have e:q' s (num,kind,he)=(s.1++[(num,kind,lB he)],s.2.set num true):=by simp[q',afj]
        simp[go_sem,Wk,ej];refine ct.intro (l.length -(k+1)) (by omega) (aLK _ _ _ ⟨k+1,by omega,rfl,by simp[cC],by simp[cy],by simp[CH],by simp[sZ],by simp,?_,auk.bZ Wm λj I e=>by omega,?_⟩)
        ·rw[abG,e];exact AT
        ·rw[abG,e];exact aLN
      ·simp[go_sem,jW,ej,a1,a2,a3,a4,fa,hf,hw,aP,auh];exact skip _ (by simp[J]) (by simp[aP]) (by simp[ix]) (by simp[lY]) (by simp) (by simp only[dN,rW,Bool.or_true])
 ·obtain rfl:k=l.length:=by omega
  rw[wm]at bW;simp[go_sem,lY,jW];exact af _ _ ⟨bW,Z⟩
def Fy(x:mM):Nat:=2*k_ x.2.2 8+oc x.2.2 64*(if Fz x.2.1=1 then 1 else 2)+(if 0<k_ x.2.2 8 then 2 else 0)
def mu:List mM->Nat
 |[]=>0
 |x::l=>Fy x+mu l
theorem aLO(l:List mM)(x:mM):mu (l++[x])=mu l+Fy x:=by
 induction l with
 |nil=>simp[mu]
 |cons y l bL=>simp[mu,bL];omega
theorem aLP(x:mM):Fy x<=146:=by
 have J:=QG x.2.2 8;have T:=Vb x.2.2 64;unfold Fy;split<;>split<;>omega
theorem aul(l:List mM):mu l<=146*l.length:=by
 induction l with
 |nil=>simp[mu]
 |cons x l bL=>have:=aLP x;simp[mu];omega
def od(l:List mM):List Bool:=l.foldl (λs x=>s.set (x.1 / 4) true) (qD 64)
theorem aLQ(l:List mM)(x:mM):od (l++[x])=(od l).set (x.1 / 4) true:=by simp[od]
theorem Wn(l:List mM):(od l).length=64:=by
 have key:∀(l:List mM) (s:List Bool),s.length=64->(l.foldl (λs x=>s.set (x.1 / 4) true) s).length=64:=by
  intro l
  induction l with
  |nil=>exact λs h=>h
  |cons x l bL=>grind
 exact key l _ (aaH 64)
theorem aum{w:M}{g:Nat}{l:List Bool}{bv:TypeId}{fr:Nat×Nat}(ab:w.1[g]? =some (.cells (iH l).toArray bv fr))(ak:l.length=64):bC w (.slice (some ⟨g,0,none⟩) 64 64) 64 (iH l):=
 bC.Gb ab (c_ _) (by decide) (by simp[ak])
def abM(no go:Nat)(s:List mM)(w:M):Prop:=w.1[no]? =some (.cells (iH (od s)).toArray 192 (0,0))/\w.1[go]? =some (.cells #[aa (2+mu s:Nat)] 3 (0,0))/\El w
theorem aLR(no go:Nat)(s:List mM)(w:M)(x:nk)(sv:N)(aA:s.length<1000)(h:abM no go s w)(dn:no≠go)(fD:no≠1/\go≠1)(W:x.1<256)(r:x.2.1<256):
  bc prog 83 #[.agg #[.int .u16 x.1,.int .u8 x.2.1,sv],.agg (iH (lB x.2.2)).toArray,az no,az go] w λv' w'=>
   abM no go (s++[(x.1,x.2.1,lB x.2.2)]) w'/\H (λk=>k=no\/k=go) w w':=by
 obtain⟨num,kind,he⟩:=x;simp only[]at W r;obtain⟨ab,lV,hU⟩:=h;refine bz func83 ntmps83 λbk af=> ?_;have cZ:=oF w (.cells #[.int .u16 num,.int .u8 kind,sv] 196) (.cells (iH (lB he)).toArray 192);have dm:=nM w (.cells #[.int .u16 num,.int .u8 kind,sv] 196) (.cells (iH (lB he)).toArray 192);have au:=((H.refl al w).alloc (.cells #[.int .u16 num,.int .u8 kind,sv] 196)).alloc (.cells (iH (lB he)).toArray 192);have aTl:=lt_of_block ab;have aTm:=lt_of_block lV;have qZ:=au.am ab id;have ajd:=au.am lV id;have aje:=hU.ch au id;have ajf:=Wn s;obtain⟨anZ,IX⟩:∃b,(od s)[num / 4]? =some b:=⟨_,d_ (by omega)⟩;have bo:=(aG qZ (num / 4)).trans (ai9 IX);have ck:=dJ qZ (num / 4);have qv:IntKind.u16.wrap ((num:Int) / 4)=(num:Int) / 4:=by simp[ON];omega
 have aLS:(num:Int) / 4<64:=by omega
 have aLT:((num:Int) / 4).toNat=num / 4:=by omega
 simp[go_sem];revert cZ dm au qZ ajd aje bo ck;generalize(w.alloc (.cells #[.int .u16 num,.int .u8 kind,sv] 196)).alloc (.cells (iH (lB he)).toArray 192)=ai;generalize aH:w.1.size=g at*;intro cZ dm au qZ ajd aje bo ck;simp[go_sem,qv,aLS,aLT,bo,ck];have kO:=(H.refl (aj no) ai).setCell (p:=⟨no,num / 4,none⟩) (.inl rfl) (.bool true);have fm:(ai.setCell ⟨no,num / 4,none⟩ (.bool true)).1[no]? =some (.cells (iH ((od s).set (num / 4) true)).toArray 192):=by rw[eU,qZ,fU,ai_]
 have NY:=kO.am ajd (by simp only[aj];omega);have abN:=aje.ch kO (by simp only[aj];omega);have Lw:=kO.am cZ (by simp only[aj];omega);have B_:=kO.am dm (by simp only[aj];omega);have p':H (λk=>k=no\/k=go) w (ai.setCell ⟨no,num / 4,none⟩ (.bool true)):=(au.mono λ_ _ e=>e.elim).setCell (.inl (.inl rfl)) _;revert kO fm NY abN Lw B_ p';generalize ai.setCell ⟨no,num / 4,none⟩ (.bool true)=an;intro kO fm NY abN Lw B_ p';refine(aua (.slice (some ⟨g+1,0,none⟩) 64 64) (lB he) an (NW he) (aum B_ (NW he))).mono ?_;rintro _ an ⟨rfl,rfl⟩;simp[go_sem];refine cT [F 0,F 1,F 2,F 3,F 4,F 5,(6,some [0,1,2,3]),F 7,F 8,F 9,(10,some [])] ?_;have tv:=(aG NY 0).trans rfl;have ajg:=dJ NY 0;have bn:=(aG Lw 1).trans rfl;have jj:=QG (lB he) 8;have rC:=Vb (lB he) 64;have ux:=aul s;generalize JR:k_ (lB he) 8=G at*;generalize aLU:oc (lB he) 64=A at*;generalize ajh:(if Fz kind=1 then(1:Nat)else 2)=lf at*;have aLV:lf=1\/lf=2:=by rw[<-ajh];split<;>simp
 have aLW:(if Fz kind=1 then(1:Int)else 2)=(lf:Int):=by rw[<-ajh];split<;>rfl
 have abO:IntKind.i64.wrap ((G:Int)*2)=(G:Int)*2:=by simp[cz];omega
 have aTn:A*lf<=128:=by rcases aLV with rfl|rfl<;>omega
 have aLX:(A:Int)*(lf:Int)=((A*lf:Nat):Int):=by push_cast;rfl
 have abP:IntKind.i64.wrap ((A:Int)*(lf:Int))=((A*lf:Nat):Int):=by rw[aLX];simp only[cz];omega
 have aji:IntKind.i64.wrap ((G:Int)*2+((A*lf:Nat):Int))=(G:Int)*2+((A*lf:Nat):Int):=by simp only[cz];omega
 have ajj:IntKind.i64.wrap (((2+mu s:Nat):Int)+((G:Int)*2+((A*lf:Nat):Int)))=((2+mu s+(2*G+A*lf):Nat):Int):=by simp only[cz];omega
 have ajk:IntKind.i64.wrap (((2+mu s+(2*G+A*lf):Nat):Int)+2)=((2+mu s+(2*G+A*lf)+2:Nat):Int):=by simp only[cz];omega
 generalize aTo:((2+mu s:Nat):Int)=ajl at*;generalize Du:((2+mu s+(2*G+A*lf):Nat):Int)=Wo at*;generalize ahG:((2+mu s+(2*G+A*lf)+2:Nat):Int)=aTp at*;generalize F_:((A*lf:Nat):Int)=aun at*;simp[go_sem,tv,bn];refine(aLm kind an.drew r abN).mono ?_;rintro _ aJ ⟨rfl,rfl⟩;rw[aLW];simp[go_sem,tv,ajg,abO,abP,aji,ajj];have ss:=(H.refl (aj go) an).setCell (p:=bl go 0) (.inl rfl) (aa Wo);have Rt:(an.setCell ⟨go,0,none⟩ (aa Wo)).1[go]? =some (.cells #[aa Wo] 3):=by rw[eU,NY,fU];rfl
 have ht:=ss.am fm (by simp only[aj];omega);have abQ:=abN.ch ss (by simp only[aj];omega);have oa:H (λk=>k=no\/k=go) w (an.setCell ⟨go,0,none⟩ (aa Wo)):=p'.setCell (.inl (.inr rfl)) _;revert ss Rt ht abQ oa;generalize an.setCell ⟨go,0,none⟩ (aa Wo)=bs;intro ss Rt ht abQ oa;have mQ:=(aG Rt 0).trans rfl;have aLY:=dJ Rt 0;have Ba:=aLQ s (num,kind,lB he);have wW:=aLO s (num,kind,lB he);simp only[Fy,JR,aLU,ajh]at wW;by_cases NZ:0<G
 ·simp[go_sem,NZ,mQ,aLY,ajk];refine af _ _ ⟨⟨?_,?_,?_⟩,(oa.setCell (.inl (.inr rfl)) _).drew⟩
  ·simp_all
  ·rw[xd,eU,Rt,fU,wW,be NZ,<-ahG];simp;omega
  ·exact(abQ.ch ((H.refl (aj go) bs).setCell (p:=bl go 0) (.inl rfl) _) (by simp only[aj];omega)).ch (H.refl al _).drew id
 ·simp[go_sem,NZ];refine af _ _ ⟨⟨?_,?_,?_⟩,oa.drew⟩
  ·rw[xd,ht,Ba]
  ·rw[xd,Rt,wW,aQ NZ,<-Du];simp;omega
  ·exact abQ.ch (H.refl al _).drew id
def Gz(s:List mM):Nat:=2+mu s+(if 0<k_ (od s) 8 then 2 else 0)+2*(k_ (od s) 8+oc (od s) 64)
theorem ax'(v:N)(l:List nk)(w:M)(ak:l.length<=1000)(xM:∀x∈l,x.2.2.length<=1000)(av:aaK w v l)(hU:El w):
  bc prog 28 #[v] w λv' w'=>v'=aa (Gz (kK l).1:Nat)/\H al w w':=by
 refine bz func28 ntmps28 λbk af=> ?_;simp[go_sem,auf,aue];have xK:=hU.lt;have cZ:((w.alloc (.cells #[aa 2] 3)).alloc (.cells (iH (qD 64)).toArray 192)).1[w.1.size+1]? =some (.cells (iH (qD 64)).toArray 192):=nM _ _ _;have hT:((w.alloc (.cells #[aa 2] 3)).alloc (.cells (iH (qD 64)).toArray 192)).1[w.1.size]? =some (.cells #[aa 2] 3):=oF _ _ _;have au:=((H.refl al w).alloc (.cells #[aa 2] 3)).alloc (.cells (iH (qD 64)).toArray 192);have hz:((w.alloc (.cells #[aa 2] 3)).alloc (.cells (iH (qD 64)).toArray 192)).1.size=w.1.size+2:=by simp
 revert cZ hT au hz;generalize(w.alloc (.cells #[aa 2] 3)).alloc (.cells (iH (qD 64)).toArray 192)=ai;generalize aH:w.1.size=g at*;intro cZ hT au hz;have QS:abM (g+1) g [] ai:=⟨cZ,hT,hU.ch au id⟩;refine(aLB v l 83 [.pointer (some ⟨g+1,0,none⟩),az g] w ai (abM (g+1) g) ak xM av au QS
  (λs auo an h Z=>⟨Z.am h.1 (by omega),Z.am h.2.1 (by omega),h.2.2.ch Z (by omega)⟩)
  (λargs ai=>by simp[go_sem]) (λs auo x sv aA bW Z J T=> ?_)).mono ?_
 ·have:=aLR (g+1) g s auo x sv (by omega) bW (by omega) (by omega) J T;exact this.mono λv' w' ⟨a,b⟩=>⟨a,b.mono λj _ e=>by omega⟩
 ·rintro _ an ⟨⟨dm,ajm,aTq⟩,hV⟩;have ajf:=Wn (kK l).1;have zZ:=dK (aud l) ak;have ux:=aul (kK l).1;simp[go_sem];refine(aua (.slice (some ⟨g+1,0,none⟩) 64 64) (od (kK l).1) an ajf (aum dm ajf)).mono ?_;rintro _ an ⟨rfl,rfl⟩;have tv:=(aG ajm 0).trans rfl;have ajg:=dJ ajm 0;have jj:=QG (od (kK l).1) 8;have rC:=Vb (od (kK l).1) 64;have aM:Gz (kK l).1=2+mu (kK l).1+(if 0<k_ (od (kK l).1) 8 then 2 else 0)+2*(k_ (od (kK l).1) 8+oc (od (kK l).1) 64):=rfl;generalize k_ (od (kK l).1) 8=G at*;generalize oc (od (kK l).1) 64=A at*;have abO:IntKind.i64.wrap ((G:Int)+A)=(G:Int)+A:=by simp only[cz];omega
  have abP:IntKind.i64.wrap (2*((G:Int)+A))=2*((G:Int)+A):=by simp only[cz];omega
  have aji:IntKind.i64.wrap (((2+mu (kK l).1:Nat):Int)+2*((G:Int)+A))=((2+mu (kK l).1:Nat):Int)+2*((G:Int)+A):=by simp only[cz];omega
  have ajj:IntKind.i64.wrap (((2+mu (kK l).1:Nat):Int)+2)=((2+mu (kK l).1:Nat):Int)+2:=by simp only[cz];omega
  have ajk:IntKind.i64.wrap (((2+mu (kK l).1:Nat):Int)+2+2*((G:Int)+A))=((2+mu (kK l).1:Nat):Int)+2+2*((G:Int)+A):=by simp only[cz];omega
  generalize aTr:((2+mu (kK l).1:Nat):Int)=ajl at*;by_cases NZ:0<G
  ·have NY:(an.setCell ⟨g,0,none⟩ (aa (ajl+2))).1[g]? =some (.cells #[aa (ajl+2)] 3):=by rw[eU,ajm,fU];rfl
   have nL:=(aG NY 0).trans rfl;simp[go_sem,NZ,tv,ajg,nL,abO,abP,ajj,ajk];refine af _ _ ⟨?_,hV.setCell (.inr (by simp;omega)) _⟩
   grind
  ·simp[go_sem,NZ,tv,abO,abP,aji];refine af _ _ ⟨?_,hV⟩
   grind
def v_(p:Pt):Nat:=if p=ah then 0 else fE p.k
def qa(l:List Pt):Nat:=(l.map v_).sum
theorem abR(a b:List Pt):qa (a++b)=qa a+qa b:=by simp[qa]
theorem Ru(p:Pt)(l:List Pt):qa (p::l)=v_ p+qa l:=by simp[qa]
theorem aLZ(l:List Pt):qa l=gz (l.filter λp=>decide (p≠ah)):=by
 induction l with
 |nil=>rfl
 |cons p l bL=>
  rw[Ru,bL,Gi];unfold v_;by_cases h:p=ah
  ·simp[h]
  ·simp[h,gz]
theorem aL0{a b:List Pt}(h:a.Perm b):gz a=gz b:=by
 induction h with
 |nil=>rfl
 |cons x _ bL=>
  unfold gz at bL⊢
  grind
 |swap x y l=>
  unfold gz
  grind
 |trans _ _ J T=>exact J.trans T
theorem aL1{L A:List Pt}(hz:ah∉L)(Z:∀y,y≠ah->L.count y=A.count y):gz L=qa A:=by
 rw[aLZ];refine aL0 (List.perm_iff_count.2 λy=> ?_);by_cases ar:y=ah
 ·subst ar;rw[ak8 hz,ak8 (by simp)]
 simp_all
def BQ(bO:Pt)(top h:List Pt):Nat:=v_ bO+qa top+qa h
def eC(h:List Pt):List Bool:=h.map λp=>decide (p≠ah)
theorem aL2{l:List Bool}:oc l l.length=l.count true:=by unfold oc;rw[wm]
theorem aL3{h:List Pt}{k:Nat}(r:∀p∈h,p≠ah->p.k=k):qa h=(eC h).count true*fE k:=by
 induction h with
 |nil=>simp[qa,eC]
 |cons p h bL=>
  rw[Ru,bL λq au=>r q (by simp[au])];unfold v_ eC
  grind
theorem ajn(f:Nat->Nat):((List.range 8).map f).sum=f 0+f 1+f 2+f 3+f 4+f 5+f 6+f 7:=by
 have:List.range 8=[0,1,2,3,4,5,6,7]:=rfl;rw[this];simp only[oq,OF,XB,List.sum_nil];omega
theorem aL4(l:List Bool):k_ l 8=((List.range 8).map λg=>if Dr l g then 1 else 0).sum:=by
 rw[ajn];simp only[k_,xB]
theorem aL5{h:List Pt}{g:Nat}:Dr (eC h) g=true↔jX g h≠List.replicate (jX g h).length ah:=by
 unfold Dr eC jX;rw[<-OI,<-LB,List.any_map];constructor
 ·grind
 ·intro e;rw[Xu];refine yE λaq=>e (WV.2 ⟨rfl,λx W=> ?_⟩)
  grind
section
variable {has:Pt->List UInt8->Prop}{bO table:Pt}{top h dQ aN:List Pt}{k:Nat}{v:List bF}
theorem jD.Dr(t:jD has bO top h){g:Nat}(aH:g<8):Go.Proofs.YtoohkhcpboldjaaGreatDoor.Dr (eC h) g=true↔top.getD g ah≠ah:=by
 rw[aL5,atI t.ak aH];have e:=(t.cN g aH).iff;have hz:List.replicate 8 ah=eE:=rfl
 grind
theorem jD.Nd(t:jD has bO top h)(r:∀p∈h,p≠ah->p.k=k):BQ bO top h=2*k_ (eC h) 8+oc (eC h) 64*fE k+(if 0<k_ (eC h) 8 then 2 else 0):=by
 have ak:(eC h).length=64:=by unfold eC;rw[oV,t.ak]
 have J:qa h=oc (eC h) 64*fE k:=by rw[aL3 r,<-ak,aL2]
 have yk:top=(List.range 8).map λg=>top.getD g ah:=(atL t.jC.fx.len);have qN:∀g,g<8->v_ (top.getD g ah)=2*if Go.Proofs.YtoohkhcpboldjaaGreatDoor.Dr (eC h) g then 1 else 0:=λg aH=>by
  unfold v_;by_cases hz:top.getD g ah=ah
  ·rw[be hz,aQ (λe=>(t.Dr aH).1 e hz)]
  ·rw[aQ hz,be ((t.Dr aH).2 hz)];rcases(t.cN g aH).dI with⟨e,_⟩|⟨_,_,_,e⟩
   ·exact absurd e hz
   ·rw[e];rfl
 have T:qa top=2*k_ (eC h) 8:=by
  rw[yk,aL4,ajn];unfold qa;rw[OG,ajn];simp only[Function.comp_apply,qN 0 (by omega),qN 1 (by omega),qN 2 (by omega),qN 3 (by omega),qN 4 (by omega),qN 5 (by omega),qN 6 (by omega),qN 7 (by omega)];omega
 have ag:v_ bO=if 0<k_ (eC h) 8 then 2 else 0:=by
  unfold v_;by_cases hz:bO=ah
  ·have bj:=t.jC.iff.1 hz;have:k_ (eC h) 8=0:=by
    have:qa top=0:=by rw[bj];decide
    omega
   grind
  ·have dn:top≠eE:=λe=>hz (t.jC.iff.2 e);have:0<k_ (eC h) 8:=by
    refine yE λbi=>dn ?_;have bi:qa top=0:=by omega
    rw[yk];have gV:∀g,g<8->top.getD g ah=ah:=λg aH=>by
     refine yE λju=> ?_;have e:=qN g aH;rw[be ((t.Dr aH).2 ju)]at e;have eh:∀(l:List Pt) (x:Pt),x∈l->v_ x<=qa l:=λl x W=>by
      induction l with
      |nil=>cases W
      |cons y l bL=>
       rw[Ru]
       grind
     have aC:top.getD g ah∈top:=by
      rw[lk,d_ (by rw[t.jC.fx.len];exact aH)];exact wj _
     grind
    apply yM;intro g;unfold eE;rw[oo,DW];by_cases aH:g<8
    ·grind
    ·grind
   rw[aQ hz,be this];rcases t.jC.dI with⟨e,_⟩|⟨_,_,_,e⟩
   ·exact absurd e hz
   ·rw[e];rfl
 unfold BQ;omega
def xc(v:List bF)(lf:Nat->Nat->Option (List UInt8)):List mM:=(ke.filter λn=>decide (v.getD n bp≠bp)).map λn=>(n,(v.getD n bp).k,(List.range 64).map λo=>(lf n o).isSome)
theorem qC.eC{x:bF}{lf:Nat->Option (List UInt8)}(b:qC has x top h lf):Go.Proofs.YtoohkhcpboldjaaGreatDoor.eC h=(List.range 64).map λo=>(lf o).isSome:=by
 apply yM;intro o;unfold Go.Proofs.YtoohkhcpboldjaaGreatDoor.eC;rw[oo,oo];by_cases av:o<64
 ·rw[List.getElem?_range av,d_ (by rw[b.rU.ak];exact av)];simp only[Xx,OJ];have e:h.getD o ah=h[o]'(by rw[b.rU.ak];exact av):=by rw[lk,d_ (by rw[b.rU.ak];exact av)];rfl
  rcases b.iw o av with⟨J,T⟩|⟨J,_,c,_,T⟩
  ·rw[<-e,J,T];rfl
  grind
 ·rw[Ed (by rw[b.rU.ak];omega),Ed (by simpa using av)];rfl
theorem qC.adN{x:bF}{lf:Nat->Option (List UInt8)}(b:qC has x top h lf):∀p∈h,p≠ah->p.k=jQ x.k:=λp am hz=>by
 obtain⟨o,av⟩:=vf.1 am;have aO:=(jG.1 av).1;rw[b.rU.ak]at aO;have e:h.getD o ah=p:=by rw[lk,av];rfl
 rcases b.iw o aO with⟨J,_⟩|⟨_,T,_⟩
 ·grind
 ·rw[<-e];exact T
theorem qC.Nd{x:bF}{lf:Nat->Option (List UInt8)}(b:qC has x top h lf)(W:x≠bp)(aC:fc x=true)(n:Nat):BQ x.V top h=Fy (n,x.k,(List.range 64).map λo=>(lf o).isSome):=by
 rw[b.rU.Nd b.adN,<-b.eC];unfold Fy;have e:fE (jQ x.k)=if Fz x.k=1 then 1 else 2:=by
  rcases Ni aC W with e|e|e<;>rw[e]<;>rfl
 rw[e]
theorem qC.zero{x:bF}{lf:Nat->Option (List UInt8)}(b:qC has x top h lf)(W:x=bp):BQ x.V top h=0:=by
 subst W;have bi:∀o,o<64->h.getD o ah=ah:=λo av=>b.rU.ag5 rfl av;have bj:=b.rU.jC.iff.1 rfl;have e:h=List.replicate 64 ah:=by
  refine WV.2 ⟨b.rU.ak,λp am=> ?_⟩;obtain⟨o,av⟩:=vf.1 am;have aO:=(jG.1 av).1;rw[b.rU.ak]at aO;have:=bi o aO;rw[lk,av]at this;exact this
 unfold BQ;rw[bj,e];decide
end
section
variable {has:Pt->List UInt8->Prop}{top table:Pt}{dQ aN:List Pt}{v:List bF}{O:nj}{lf:Nat->Nat->Option (List UInt8)}
def BA(top table:Pt)(dQ aN:List Pt)(O:nj):List Pt:=top::table::(dQ++aN)++ke.flatMap λn=>(O.x n).V::(O.uL n++O.tQ n)
theorem aup(f:Nat->List Pt)(y:Pt):∀l:List Nat,(l.flatMap f).count y=fP l λn=>(f n).count y
 |[]=>rfl
 |n::l=>by rw[Au,AE,aup f y l,pY]
theorem aal(y:Pt):(BA top table dQ aN O).count y=yi top table dQ aN O y:=by
 unfold BA yi;rw[AE,aup];have e:fP ke (λn=>((O.x n).V::(O.uL n++O.tQ n)).count y)=fP ke (O.eM y):=Ng λn _=>by
  rw[OM,AE];unfold nj.eM pr
  grind
 rw[e,OM,OM,AE];unfold pr
 grind
theorem auq(f:Nat->List Pt):∀l:List Nat,qa (l.flatMap f)=fP l λn=>qa (f n)
 |[]=>rfl
 |n::l=>by rw[Au,abR,auq f l,pY]
theorem aL6:qa (BA top table dQ aN O)=v_ top+BQ table dQ aN+fP ke λn=>BQ (O.x n).V (O.uL n) (O.tQ n):=by
 unfold BA;rw[abR,auq,Ru,Ru,abR];have e:fP ke (λn=>qa ((O.x n).V::(O.uL n++O.tQ n)))=fP ke λn=>BQ (O.x n).V (O.uL n) (O.tQ n):=Ng λn _=>by
  rw[Ru,abR];unfold BQ;omega
 rw[e];unfold BQ;omega
theorem aur(P:Nat->Bool)(f:Nat->Nat):∀l:List Nat,(∀n∈l,P n=false->f n=0)->fP l f=fP (l.filter P) f
 |[],_=>rfl
 |n::l,h=>by
  rw[pY,Gi,aur P f l λk r=>h k (by simp[r])]
  cases am:P n
  ·grind
  ·simp[pY]
theorem ag'(f:Nat->mM):∀l:List Nat,mu (l.map f)=fP l λn=>Fy (f n)
 |[]=>rfl
 |n::l=>by rw[oq,mu,ag' f l,pY]
theorem aL7:∀(l:List mM) (o:Nat),(∀x∈l,x.1<256)->o<64->((od l)[o]? =some true↔∃x∈l,x.1 / 4=o):=by
 have key:∀(l:List mM) (s:List Bool) (o:Nat),s.length=64->(∀x∈l,x.1<256)->o<64->((l.foldl (λs x=>s.set (x.1 / 4) true) s)[o]? =some true↔s[o]? =some true\/∃x∈l,x.1 / 4=o):=by
  intro l
  induction l with
  |nil=>intro s o _ _ _;simp
  |cons x l bL=>
   intro s o aA ak av;have W:=ak x (by simp);rw[yO,bL _ o (by rw[XH,aA]) (λy ar=>ak y (by simp[ar])) av,acU]
   grind
 intro l o ak av;unfold od;rw[key l (qD 64) o (aaH 64) ak av];have:(qD 64)[o]?≠some true:=by
  unfold qD;rw[DW,be av];simp
 simp[this]
theorem qw.eC(c:qw has table dQ aN v O lf):Go.Proofs.YtoohkhcpboldjaaGreatDoor.eC aN=od (xc v lf):=by
 apply yM;intro o;have fb:(Go.Proofs.YtoohkhcpboldjaaGreatDoor.eC aN).length=64:=by unfold Go.Proofs.YtoohkhcpboldjaaGreatDoor.eC;rw[oV,c.kp.oO.ak]
 by_cases av:o<64
 ·have ab:∀a b:Bool,(a=true↔b=true)->a=b:=λa b h=>by grind
  rw[d_ (by rw[fb];exact av),d_ (by rw[Wn];exact av)];refine yN some (ab _ _ ?_);have aL8:∀x∈xc v lf,x.1<256:=λx W=>by
   unfold xc at W;obtain⟨n,aq,rfl⟩:=lF.1 W;have:=Fs.1 (vh.1 aq).1;show n<256;omega
  have J:=aL7 (xc v lf) o aL8 av;rw[d_ (by rw[Wn];exact av)]at J;simp only[OJ]at J;rw[J];have e:(Go.Proofs.YtoohkhcpboldjaaGreatDoor.eC aN)[o]'(by rw[fb];exact av)=decide (aN.getD o ah≠ah):=by
   unfold Go.Proofs.YtoohkhcpboldjaaGreatDoor.eC;rw[List.getElem_map,lk,d_ (by rw[c.kp.oO.ak];exact av)];rfl
  rw[e,qf];refine(not_congr (c.kp.lf o av).iff).trans ?_;constructor
  ·intro dn;refine yE λaq=>dn ?_;have lx:=atY c.kp.ak av;unfold hm;refine WV.2 ⟨lx,λx W=> ?_⟩;obtain⟨i,ad⟩:=vf.1 W;have SY:=(jG.1 ad).1;rw[lx]at SY;have aH:=QF (o:=o) (v:=v) SY;rw[lk,ad]at aH;have aH:x=v.getD (4*o+i) bp:=aH;refine yE λLg=>aq ?_;have qV:4*o+i≠0:=λe=>Lg (by rw[aH,e,c.kp.v0]);refine⟨_,lF.2 ⟨4*o+i,vh.2 ⟨Fs.2 ⟨by omega,by omega⟩,?_⟩,rfl⟩,?_⟩
   ·grind
   omega
  ·rintro⟨x,W,aus⟩ aR;unfold xc at W;obtain⟨n,aq,rfl⟩:=lF.1 W;have aus:n / 4=o:=aus;have qR:=(vh.1 aq).2;rw[qf]at qR;have aH:=QF (o:=o) (k:=n%4) (v:=v) (by omega);rw[aR,show 4*o+n%4=n by omega]at aH;apply qR;rw[<-aH];unfold hm
   grind
 ·rw[Ed (by rw[fb];omega),Ed (by rw[Wn];omega)]
theorem qw.Nd(c:qw has table dQ aN v O lf){top:Pt}(bj:top≠ah)(r:top.k=5){L:List Pt}(hz:ah∉L)(Z:∀y,y≠ah->L.count y=yi top table dQ aN O y):gz L=Gz (xc v lf):=by
 rw[aL1 hz λy ar=>(Z y ar).trans (aal y).symm,aL6];have J:v_ top=2:=by unfold v_;rw[aQ bj,r];rfl
 have T:BQ table dQ aN=2*k_ (od (xc v lf)) 8+oc (od (xc v lf)) 64*2+(if 0<k_ (od (xc v lf)) 8 then 2 else 0):=by
  rw[<-c.eC];have:=c.kp.oO.Nd (k:=4) λp am hz=>by
   obtain⟨o,av⟩:=vf.1 am;have aO:=(jG.1 av).1;rw[c.kp.oO.ak]at aO;have e:aN.getD o ah=p:=by rw[lk,av];rfl
   rcases(c.kp.lf o aO).dI with⟨J,_⟩|⟨_,_,_,T⟩
   ·grind
   ·rw[<-e];exact T
  exact this
 have ag:fP ke (λn=>BQ (O.x n).V (O.uL n) (O.tQ n))=mu (xc v lf):=by
  unfold xc;rw[ag',aur (λn=>decide (v.getD n bp≠bp)) _ ke λn aq am=> ?_]
  ·refine Ng λn aq=> ?_;obtain⟨ao,aM⟩:=vh.1 aq;obtain⟨iW,kh⟩:=Fs.1 ao;have aM:v.getD n bp≠bp:=by simpa using aM
   have W:=c.x n iW kh;have ji:=c.ji n iW kh;rw[ji.Nd (by rw[W];exact aM) (by rw[W];exact(c.kp.fx n).2) n,W]
  ·obtain⟨iW,kh⟩:=Fs.1 aq;exact(c.ji n iW kh).zero (by rw[c.x n iW kh];simpa using am)
 rw[J,T,ag];unfold Gz;omega
end
end Go.Proofs.YtoohkhcpboldjaaGreatDoor
