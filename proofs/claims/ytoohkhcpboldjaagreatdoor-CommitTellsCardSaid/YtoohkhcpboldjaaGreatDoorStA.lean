/- Stores: what a source and sink of blocks must do, in plain Lean; a tree in a store is read, walked, set, and which blocks come and go. They speak of no memory. No condition. -/
import Derived.Test.YtoohkhcpboldjaaGreatDoorTbE
import Derived.Test.YtoohkhcpboldjaaGreatDoorShaF
set_option linter.unusedSimpArgs false
set_option linter.unusedVariables false
namespace Go.Proofs.YtoohkhcpboldjaaGreatDoor
open Go.RowKit Go.Kin Tryz
def wP(b:Option Nat):List (Nat×bF)->Bool
 |[]=>true
 |x::l=>decide (1<=x.1/\x.1<=255)&&fc x.2&&(match b with|none=>true|some z=>decide (z<x.1))&&wP (some x.1) l
theorem abw(b:Option Nat)(x:Nat×bF)(l:List (Nat×bF)):wP b (x::l)=(decide (1<=x.1/\x.1<=255)&&fc x.2&&(match b with|none=>true|some z=>decide (z<x.1))&&wP (some x.1) l):=rfl
def fj(l:List (Nat×bF))(o:Nat):List (Nat×bF):=l.filter λx=>decide (x.1 / 4=o)
theorem aft{l:List (Nat×bF)}{o:Nat}{x:Nat×bF}:x∈fj l o↔x∈l/\x.1 / 4=o:=by
 unfold fj;simp
theorem aot(l:List (Nat×bF))(o:Nat):(fj l o).length<=l.length:=OO _ _
theorem atC(l:List (Nat×bF))(x:Nat×bF)(o:Nat):fj (l++[x]) o=fj l o++if x.1 / 4=o then[x]else[]:=by
 unfold fj
 grind
def lU(l:List (Nat×bF)):List Nat:=(List.range 64).filter λo=>decide (fj l o≠[])
theorem TV{l:List (Nat×bF)}{o:Nat}:o∈lU l↔o<64/\fj l o≠[]:=by
 unfold lU;simp
theorem afv(l:List (Nat×bF)):(lU l).Pairwise (·<·):=ac8 _ List.pairwise_lt_range
theorem aoo(l:List (Nat×bF)):(lU l).length<=64:=dK (OO _ _) (by simp)
theorem afu:∀{a b:List Nat},a.Pairwise (·<·)->b.Pairwise (·<·)->(∀x,x∈a↔x∈b)->a=b
 |[],[],_,_,_=>rfl
 |[],y::b,_,_,h=>absurd ((h y).2 (by simp)) (by simp)
 |x::a,[],_,_,h=>absurd ((h x).1 (by simp)) (by simp)
 |x::a,y::b,ao,ab,h=>by
  have W:=oW.1 ao;have ar:=oW.1 ab;have e:x=y:=by
   rcases io.1 ((h x).1 (by simp))with e|e
   ·exact e
   ·rcases io.1 ((h y).2 (by simp))with aR|aR
    ·exact aR.symm
    grind
  subst e;rw[afu W.2 ar.2 λz=>⟨λhz=> ?_,λhz=> ?_⟩]
  ·grind
  grind
theorem atD:∀{l:List (Nat×bF)} {b:Option Nat},wP b l=true->∀x∈l,(1<=x.1/\x.1<=255)/\fc x.2=true
 |[],_,_,x,W=>by cases W
 |y::l,b,h,x,W=>by
  rw[abw]at h;simp only[ot,qf]at h;rcases io.1 W with rfl|W
  ·exact h.1.1
  ·exact atD h.2 x W
theorem atE:∀{l:List (Nat×bF)} {b:Option Nat},wP b l=true->l.Pairwise (λx y=>x.1<y.1)/\∀z,b=some z->∀x∈l,z<x.1
 |[],_,_=>⟨IJ,λ_ _ x W=>by cases W⟩
 |y::l,b,h=>by
  rw[abw]at h;simp only[ot,qf]at h;obtain⟨J,T⟩:=atE h.2;refine⟨oW.2 ⟨λx W=>T _ rfl x W,J⟩,λz hz x W=> ?_⟩
  grind
def TW(l:List (Nat×bF))(i:Nat)(x:Nat×bF):Bool:=decide (1<=x.1/\x.1<=255)&&fc x.2&&(match(if i=0 then none else(l[i - 1]?).map (·.1))with|none=>true|some z=>decide (z<x.1))
theorem aBV(l:List (Nat×bF)){i:Nat}{x:Nat×bF}(W:l[i]? =some x):wP (if i=0 then none else(l[i - 1]?).map (·.1)) (l.drop i)=(TW l i x&&wP (if i+1=0 then none else(l[i+1 - 1]?).map (·.1)) (l.drop (i+1))):=by
 have aO:=(jG.1 W).1;have e:l.drop i=x::l.drop (i+1):=by
  rw[xD aO];congr 1;rw[d_ aO]at W;exact sb W
 rw[e,abw,aQ (show¬i+1=0 by omega),Nat.add_sub_cancel,W];rfl
def nf{aF:Type}(rd:Src aF)(nw:aF->Pt->List UInt8->aF×Pt×Int)(p:Pt)(l:List (Nat×bF)):List Nat->aF->List (Nat×Pt)->aF×List (Nat×Pt)×Int
 |[],s,cm=>(s,cm,0)
 |o::os,s,cm=>if(mo rd nw s p o (fj l o)).2.2.2≠0 then((mo rd nw s p o (fj l o)).1,[],(mo rd nw s p o (fj l o)).2.2.2)
  else nf rd nw p l os (mo rd nw s p o (fj l o)).1 (if(mo rd nw s p o (fj l o)).2.2.1 then cm++[(o,(mo rd nw s p o (fj l o)).2.1)]else cm)
def rR{aF:Type}(rd:Src aF)(nw:aF->Pt->List UInt8->aF×Pt×Int)(ca:aF->Pt->aF)(s:aF)(p:Pt)(l:List (Nat×bF)):aF×Pt×Int:=
 if wP none l=true then(if(nf rd nw p l (lU l) s []).2.2≠0 then((nf rd nw p l (lU l) s []).1,ah,(nf rd nw p l (lU l) s []).2.2)else rc rd nw ca 0 (nf rd nw p l (lU l) s []).1 p (nf rd nw p l (lU l) s []).2.1)
 else(s,ah,1)
section
variable {aF:Type}{ba:aF->jf}{m:aF->Nat}{rd:Src aF}{nw:aF->Pt->List UInt8->aF×Pt×Int}{ca:aF->Pt->aF}{sv:N}
theorem aoE(aA:xW ba m rd nw ca sv)(p:Pt)(l:List (Nat×bF)):∀(os:List Nat) (s:aF) (cm:List (Nat×Pt)),m s<=m (nf rd nw p l os s cm).1+64*os.length
 |[],s,cm=>by unfold nf;simp
 |o::os,s,cm=>by
  have J:=aov aA s p o (fj l o);have T:=aoE aA p l os (mo rd nw s p o (fj l o)).1 (if(mo rd nw s p o (fj l o)).2.2.1 then cm++[(o,(mo rd nw s p o (fj l o)).2.1)]else cm);unfold nf
  grind
theorem aoF(p:Pt)(l:List (Nat×bF)):∀(os:List Nat) (s:aF) (cm:List (Nat×Pt)),(nf rd nw p l os s cm).2.1.length<=cm.length+os.length
 |[],s,cm=>by unfold nf;simp
 |o::os,s,cm=>by
  have T:=aoF p l os (mo rd nw s p o (fj l o)).1 (if(mo rd nw s p o (fj l o)).2.2.1 then cm++[(o,(mo rd nw s p o (fj l o)).2.1)]else cm);unfold nf
  grind
end
theorem NC.ch{w w':M}{g:Nat}{m:List UInt8}(h:NC w g m)(Z:H al w w'):NC w' g m:=by
 obtain⟨s,v,on,J,T,ag⟩:=h;exact⟨s,v,on,Z.am J id,T.ch Z λ_ _ e=>e,ag⟩
theorem jz.lt{w:M}(h:jz w):3<w.1.size:=by
 unfold jz at h;exact xC w _ (h 0 (by decide))
def uI(p:Pt)(b:List UInt8):List UInt8:=KX ((kf p).take 16++b)
theorem PJ(p:Pt)(b:List UInt8):(uI p b).length=32:=asy _
theorem atF(p:Pt)(v:N)(b:List UInt8)(w:M)(ok:cc p)(aA:bC w v b.length (br b))(aM:∀k,v.ownBlock=some k->k<w.1.size)(cu:b.length<=900000)(r:jz w):
  bc prog 159 #[.agg (ae p),v] w λv' w'=>v'=.agg (br (uI p b)).toArray/\H al w w':=by
 refine bz func159 ntmps159 λbk af=> ?_;obtain⟨la,Ai⟩:=aD ((br (dh 32)).toArray);have Ch:kN prog 41=la:=by rw[<-Ai];kernel_rfl
 have nR:(prog.info? 41).map (λi=>i.zero.isSome)=some true:=by kernel_rfl
 have Nw:la.size=32:=by rw[<-Ai];simp[eO,nu]
 have HE:=DR ok;simp[go_sem,Ch,nR];have aY:=((H.refl al w).alloc (.cells (ae p) 44)).alloc (.cells la 41);have bu:=((H.refl al (w.alloc (.cells (ae p) 44))).alloc (.cells la 41)).am (cr w (.cells (ae p) 44)) id;have cI:=cr (w.alloc (.cells (ae p) 44)) (.cells la 41);rw[show(w.alloc (.cells (ae p) 44)).1.size=w.1.size+1 by simp]at cI;revert aY bu cI;generalize(w.alloc (.cells (ae p) 44)).alloc (.cells la 41)=ai;generalize AL:w.1.size=fa at*;intro aY bu cI;refine(aI2 ai).mono ?_;rintro _ an ⟨rfl,aT,aK⟩;have vw:fa+1<ai.1.size:=lt_of_block cI;generalize ai.1.size=g at*;have adj:=aK.am bu id;have de:=cd ok;have da:=ef ok;simp[go_sem,adj,de,da];refine(XW (.slice none 0 0) 0 [] p an ok (by decide) rfl (pA _ _ _ _)).mono ?_;rintro bK aJ ⟨J,T,ag⟩;have aI:H al an aJ:=T.mono λk _ e=>by simp[Value.ownBlock]at e
 have af5:=aT.ch aI;have gF:=bC.fF J;rw[xu,xB]at gF;have aS5:g<an.1.size:=by obtain⟨_,_,_,h,_⟩:=aT;exact lt_of_block h
 have aK6:bK.ownBlock≠some g:=by
  rcases ag with ag|ag
  ·rw[ag];simp[Value.ownBlock]
  ·intro h;have:=ag g h;omega
 obtain⟨cR,kg,zF,_,pq,_⟩:=gF.rz lE (by simp[eO,HE]) 0 16 (by decide) (by decide);replace pq:∀w',(Instr.sliceAt 101 bK none (some (aa 16)) none).run prog w'=.ok cR w':=pq rfl;have ai2:((kf p).take 16).length=16:=by rw[ol];omega
 have kg:bC aJ cR ((kf p).take 16).length (br ((kf p).take 16)):=by
  rw[ai2,br,LB];simpa[br]using kg
 have hQ:=(aY.trans aK).trans aI;have uH:g≠3:=by have:=r.lt;omega
 simp[go_sem,pq];refine(asr g [] cR ((kf p).take 16) aJ af5 kg (by rw[zF];exact aK6) (by rw[ai2];decide) (r.ch hQ id) uH).mono ?_;rintro _ bs ⟨rfl,atG,bo⟩;rw[xu]at atG;have yn:∀k,v.ownBlock=some k->¬only g k:=λk fH e=>by
  have:=aM k fH;simp only[only]at e;omega
 have xL:H al w bs:=hQ.bZ bo λj I e=>by simp only[only]at e;omega
 simp[go_sem];refine(asr g _ v b bs atG ((aA.ch xL λ_ _ e=>e)) (λh=>yn g h rfl) (by rw[ai2];omega) (r.ch xL id) uH).mono ?_;rintro _ bD ⟨rfl,aK7,bE⟩;have AS:H al w bD:=xL.bZ bE λj I e=>by simp only[only]at e;omega
 simp[go_sem];refine(aJc g _ bD aK7 (by grind) (r.ch AS id) uH).mono ?_;rintro _ cD ⟨rfl,cF⟩;have ht:=cF.am (bE.am (bo.am (aI.am (aK.am cI id) id) (by simp only[only];omega)) (by simp only[only];omega)) id;rw[show KX ((kf p).take 16++b)=uI p b from rfl];obtain⟨bw,jm⟩:=aD ((br (uI p b)).toArray);have NB:bw.size=32:=by rw[<-jm];simp[eO,PJ]
 have Ny:jx bw=true:=by rw[<-jm];exact aia _
 have aib:bw.extract 0 32=bw:=by rw[show(32:Nat)=bw.size from NB.symm];simp
 rw[jm]at af⊢;have qj:(cD.setRow (fa+1) bw).1[fa+1]? =some (.cells bw 41 (0,0)):=by rw[gh,ht];rfl
 simp[go_sem,ht,NB,aib,Nw,Ny,bS,qj];exact af _ _ ⟨rfl,(AS.trans cF).setRow (g:=fa+1) (.inr (by omega)) _⟩
def Tz(p:Pt)(b:List UInt8):Pt:={p with h:=uI p b}
theorem am'{p:Pt}(ok:cc p)(b:List UInt8):cc (Tz p b):=⟨ok.k,ok.l,ok.o,ok.f,ok.b,PJ p b,ok.a,ok.dI⟩
theorem aAk(p:Pt)(v:N)(b:List UInt8)(w:M)(ok:cc p)(aA:bC w v b.length (br b))(aM:∀k,v.ownBlock=some k->k<w.1.size)(cu:b.length<=900000)(r:jz w):
  bc prog 183 #[.agg (ae p),v] w λv' w'=>v'=.agg (ae (Tz p b))/\H al w w':=by
 refine bz func183 ntmps183 λbk af=> ?_;have de:=cd ok;have da:=ef ok;have ee:=cd cH;simp[go_sem,gO,gP,de,da];have aY:=((H.refl al w).alloc (.cells (ae p) 44)).alloc (.cells (ae ah) 44);have bu:=((H.refl al (w.alloc (.cells (ae p) 44))).alloc (.cells (ae ah) 44)).am (cr w (.cells (ae p) 44)) id;have cI:=cr (w.alloc (.cells (ae p) 44)) (.cells (ae ah) 44);rw[show(w.alloc (.cells (ae p) 44)).1.size=w.1.size+1 by simp]at cI;revert aY bu cI;generalize(w.alloc (.cells (ae p) 44)).alloc (.cells (ae ah) 44)=ai;generalize AL:w.1.size=fa at*;intro aY bu cI;have qh:∀k,v.ownBlock=some k->k<ai.1.size:=λk h=>by grind
 refine(atF p v b ai ok (aA.ch aY λ_ _ e=>e) qh cu (r.ch aY id)).mono ?_;rintro _ an ⟨rfl,aK⟩;have bu:=aK.am bu id;have cI:=aK.am cI id;have AM:=PJ p b;have iQ:((br (uI p b)).toArray).size=32:=by simp[eO,AM]
 have zQ:jx (br (uI p b)).toArray=true:=aia _;have ai3:=akT (p:=p) (h':=uI p b) ok.h AM;change _=ae (Tz p b)at ai3;have Q':=am' ok b;have nG:=cd Q';have mg:=ef Q';generalize Tz p b=s at*;generalize jm:(br (uI p b)).toArray=bw at*;have so:=aY.trans aK;have gv:=so.setRow (g:=fa) (.inr (by omega)) (dT (ae p) 5 bw);have Ff:(an.setRow fa (dT (ae p) 5 bw)).1[fa]? =some (.cells (ae s) 44 (0,0)):=by rw[gh,bu,ai3];rfl
 have abx:(an.setRow fa (dT (ae p) 5 bw)).1[fa+1]? =some (.cells (ae ah) 44 (0,0)):=by rw[adk _ _ _ _ (by omega)];exact cI
 simp[go_sem,bu,de,iQ,zQ];revert gv Ff abx;generalize an.setRow fa (dT (ae p) 5 bw)=aJ;intro gv Ff abx;have qj:(aJ.setRow (fa+1) (ae s)).1[fa+1]? =some (.cells (ae s) 44 (0,0)):=by rw[gh,abx];rfl
 simp[go_sem,ai3,Ff,abx,nG,mg,ee,bS,qj];exact af _ _ ⟨rfl,gv.setRow (g:=fa+1) (.inr (by omega)) _⟩
theorem aps(p:Pt)(v:N)(b:List UInt8)(w:M)(ok:cc p)(aA:bC w v b.length (br b))(aM:∀k,v.ownBlock=some k->k<w.1.size)(cu:b.length<=900000)(r:jz w):
  bc prog 106 #[.agg (ae p),v] w λv' w'=>v'=.bool (decide (b.length=512)&&decide (uI p b=p.h))/\H al w w':=by
 refine bz func106 ntmps106 λbk af=> ?_;have de:=cd ok;have da:=ef ok;have Nb:=aA.len underlying101 3;have aY:=(H.refl al w).alloc (.cells (ae p) 44);have bu:=cr w (.cells (ae p) 44);simp[go_sem,de,da];revert aY bu;generalize w.alloc (.cells (ae p) 44)=ai;generalize AL:w.1.size=fa at*;intro aY bu;refine cT [F 0,F 1,F 2,F 3,F 4,F 5,F 7,F 8,(6,some [7,8]),F 9,F 10,F 11] ?_;have Fb:ai.drew.1[fa]? =some (.cells (ae p) 44 (0,0)):=bu;have atH:=WW ok;by_cases bH:b.length=512
 ·have NR:((b.length:Int)==512)=true:=by rw[bH];rfl
  simp[go_sem,Nb,NR,bu,Fb,de,da,atH];have qh:∀k,v.ownBlock=some k->k<ai.1.size:=λk h=>by grind
  refine(atF p v b ai.drew ok (aA.ch aY.drew λ_ _ e=>e) qh cu (r.ch aY.drew id)).mono ?_;rintro _ an ⟨rfl,aK⟩;have cY:=aK.am Fb id;have ho:∀w,(Op.equalIn 10000 41 (.agg (br (uI p b)).toArray) (.agg (br p.h).toArray)).run prog w=.ok (decide (uI p b=p.h)) w:=λw=>WX w 9998 _ _ 32 underlying41 underlying5 Tryz.sizeOf5 Tryz.isAgg5 _ _ (PJ p b) ok.h;simp[go_sem,cY,de,atH,ho,bH];exact af _ _ ⟨by simp[bH],aY.drew.trans aK⟩
 ·have NR:((b.length:Int)==512)=false:=hv (by omega);simp[go_sem,Nb,NR,bH];exact af _ _ ⟨by simp[bH],aY.drew⟩
structure rp where
 eC:List (List UInt8)
 dN:List Nat
 bX:List Pt
 gN:List Pt
 Nc:Int
 aby:List Pt
def rp.rD(s:rp)(l:List Pt):rp:={s with aby:=s.aby++l}
@[simp] theorem rp.aS6(s:rp):s.rD []=s:=by simp[rp.rD]
@[simp] theorem rp.aS7(s:rp)(a b:List Pt):(s.rD a).rD b=s.rD (a++b):=by simp[rp.rD]
@[simp] theorem rp.aS8(s:rp)(a:List Pt):(s.rD a).eC=s.eC:=rfl
@[simp] theorem rp.aS9(s:rp)(a:List Pt):(s.rD a).dN=s.dN:=rfl
@[simp] theorem rp.aS_(s:rp)(a:List Pt):(s.rD a).bX=s.bX:=rfl
@[simp] theorem rp.aS'(s:rp)(a:List Pt):(s.rD a).gN=s.gN:=rfl
@[simp] theorem rp.aTa(s:rp)(a:List Pt):(s.rD a).Nc=s.Nc:=rfl
@[simp] theorem rp.aTb(s:rp)(a:List Pt):(s.rD a).aby=s.aby++a:=rfl
def jX(g:Nat)(h:List Pt):List Pt:=(h.drop (8*g)).take 8
theorem Nt{g k:Nat}{h:List Pt}(r:k<8):(jX g h).getD k ah=h.getD (8*g+k) ah:=by
 unfold jX
 grind
theorem atI{g:Nat}{h:List Pt}(ak:h.length=64)(aH:g<8):(jX g h).length=8:=by
 unfold jX;simp[ak];omega
theorem NS(g:Nat):eE.getD g ah=ah:=by
 unfold eE
 grind
def BN(h:List Pt)(k:Nat):List (Nat×Pt):=(List.range k).filterMap λoff=>if h.getD off ah=ah then none else some (off,h.getD off ah)
def Ie(bO:Pt)(top:List Pt):List Pt:=if bO=ah then[]else bO::top.filter (λp=>decide (p≠ah))
theorem aK8(h:List Pt)(k:Nat):BN h (k+1)=BN h k++if h.getD k ah=ah then[]else[(k,h.getD k ah)]:=by
 unfold BN;rw[IH,List.filterMap_append]
 grind
theorem atJ{α aK9:Type}{f g:α->Option aK9}:∀{l:List α},(∀x∈l,f x=g x)->l.filterMap f=l.filterMap g
 |[],_=>rfl
 |x::l,h=>by
  rw[ac0,ac0,h x (by simp),atJ λy ar=>h y (by simp[ar])]
theorem atK(h:List Pt):BN h 64=(List.range 8).flatMap λg=>xk g (jX g h):=by
 have e:List.range 64=(List.range 8).flatMap λg=>(List.range 8).map (8*g+·):=by decide
 unfold BN;rw[e,List.filterMap_flatMap];congr 1;funext g;unfold xk;rw[List.filterMap_map];apply atJ;intro k r;have r:=wl.1 r;simp only[Function.comp_apply];rw[Nt r]
theorem atL{top:List Pt}(h:top.length=8):top=(List.range 8).map λg=>top.getD g ah:=by
 apply yM
 grind
theorem atM{α:Type}{l:List α}{i:Nat}{v d:α}(h:i<l.length):(l.set i v).getD i d=v:=by grind
theorem getD_set_ne{α:Type}{l:List α}{i j:Nat}{v d:α}(h:i≠j):(l.set i v).getD j d=l.getD j d:=by grind
def xl(n:List Pt)(l:List (Nat×Pt)):List Pt:=l.foldl (λn x=>n.set (x.1%8) x.2) n
def lC(c:List Pt)(l:List (Nat×Pt)):List Pt:=l.foldl (λc x=>c.set x.1 x.2) c
theorem atN:∀(l:List (Nat×Pt)) (c:List Pt),(lC c l).length=c.length
 |[],c=>rfl
 |x::l,c=>by
  show(lC (c.set x.1 x.2) l).length=_;rw[atN l,XH]
theorem aK_(c:List Pt)(a b:List (Nat×Pt)):lC c (a++b)=lC (lC c a) b:=Cc
theorem atO{g k:Nat}{c:List Pt}{v:Pt}:jX g (c.set (8*g+k) v)=(jX g c).set k v:=by
 unfold jX;rw[Sp,aQ (by omega),So,show 8*g+k - 8*g=k by omega]
theorem aK'{g i:Nat}{c:List Pt}{v:Pt}(h:i / 8≠g):jX g (c.set i v)=jX g c:=by
 unfold jX;rw[Sp];split
 ·rfl
 ·rw[So,ac6];simp;omega
theorem atP{g:Nat}:∀(l:List (Nat×Pt)) (c:List Pt),(∀x∈l,x.1 / 8=g)->jX g (lC c l)=xl (jX g c) l
 |[],c,_=>rfl
 |x::l,c,h=>by
  have W:=h x (by simp);show jX g (lC (c.set x.1 x.2) l)=xl ((jX g c).set (x.1%8) x.2) l;rw[atP l _ λy ar=>h y (by simp[ar]),<-atO,show 8*g+x.1%8=x.1 by omega]
theorem atQ{g nE:Nat}(dn:g≠nE):∀(l:List (Nat×Pt)) (c:List Pt),(∀x∈l,x.1 / 8=g)->jX nE (lC c l)=jX nE c
 |[],c,_=>rfl
 |x::l,c,h=>by
  have W:=h x (by simp);show jX nE (lC (c.set x.1 x.2) l)=_;rw[atQ dn l _ λy ar=>h y (by simp[ar]),aK' (by omega)]
theorem atS{g:Nat}:∀(l:List (Nat×Pt)) (c:List Pt),(∀x∈l,x.1 / 8=g)->∀o,o / 8≠g->(lC c l).getD o ah=c.getD o ah
 |[],c,_,o,_=>rfl
 |x::l,c,h,o,av=>by
  have W:=h x (by simp);show(lC (c.set x.1 x.2) l).getD o ah=_;rw[atS l _ (λy ar=>h y (by simp[ar])) o av,getD_set_ne (by rintro rfl;exact av W)]
theorem atT:∀(l:List (Nat×Pt)) (n:List Pt),iJ n->n.all gI=true->(∀x∈l,cc x.2/\gI x.2=true)->iJ (xl n l)/\(xl n l).all gI=true
 |[],n,h,T,_=>⟨h,T⟩
 |x::l,n,h,T,ak=>atT l _ (h.set _ (ak x (by simp)).1) (by
   grind) λy ar=>ak y (by simp[ar])
theorem atU(g:Nat)(l:List (Nat×Pt)):l.drop (ks g l).length=l.dropWhile λx=>x.1 / 8==g:=by
 have e:l=ks g l++l.dropWhile λx=>x.1 / 8==g:=(List.takeWhile_append_dropWhile).symm
 grind
theorem abz{g:Nat}{l:List (Nat×Pt)}{x:Nat×Pt}(h:x∈ks g l):x∈l/\x.1 / 8=g:=by
 unfold ks at h;refine⟨List.Sublist.subset (ac9 _) h,?_⟩
 induction l with
 |nil=>cases h
 |cons y l bL=>
  rw[XF]at h
  grind
theorem atV{g:Nat}:∀{l:List (Nat×Pt)},l.Pairwise (λx y=>x.1<y.1)->(∀x∈l,g<=x.1 / 8)->∀x∈l.dropWhile (λx=>x.1 / 8==g),x∈l/\g+1<=x.1 / 8
 |[],_,_,x,W=>by cases W
 |y::l,am,ak,x,W=>by
  have gT:=oW.1 am;rw[List.dropWhile_cons]at W;split at W
  ·obtain⟨J,T⟩:=atV gT.2 (λz hz=>ak z (by simp[hz])) x W;exact⟨by simp[J],T⟩
  grind
theorem atW:∀(l:List (Nat×Pt)) (b:Option Nat),(∀x∈l,x.1<64/\gI x.2=true)->l.Pairwise (λx y=>x.1<y.1)->(∀y,b=some y->∀x∈l,y<x.1)->vW b l=true
 |[],b,_,_,_=>rfl
 |x::l,b,h,am,ab=>by
  rw[asW,ou (h x (by simp)).1,(h x (by simp)).2,atW l (some x.1) (λy ar=>h y (by simp[ar])) (oW.1 am).2 (λy ar z hz=>by cases ar;exact(oW.1 am).1 z hz)]
  grind
theorem aLa{V:Pt}{t:List Pt}(bj:t.length=8)(ax:V=ah->t=eE)(x:Pt):x∈Ie V t↔(V≠ah/\x=V)\/∃g,g<8/\x=t.getD g ah/\t.getD g ah≠ah:=by
 unfold Ie;by_cases h:V=ah
 ·rw[be h];constructor
  ·intro h;cases h
  ·rintro(⟨J,_⟩|⟨g,_,_,ag⟩)
   ·exact absurd h J
   ·rw[ax h,NS]at ag;exact absurd rfl ag
 ·rw[aQ h,io,vh];constructor
  ·rintro(rfl|⟨J,T⟩)
   ·exact .inl ⟨h,rfl⟩
   ·obtain⟨i,ad⟩:=vf.1 J
    grind
  grind
section
variable {α:Type}(d:α)
def Lf(c:List α)(l:List (Nat×α)):List α:=l.foldl (λc x=>c.set x.1 x.2) c
theorem atX:∀(l:List (Nat×α)) (c:List α),(Lf c l).length=c.length
 |[],c=>rfl
 |x::l,c=>by
  show(Lf (c.set x.1 x.2) l).length=_;rw[atX l,XH]
theorem NT:∀(l:List (Nat×α)) (c:List α) (o:Nat),(∀x∈l,x.1≠o)->(Lf c l).getD o d=c.getD o d
 |[],c,o,_=>rfl
 |x::l,c,o,h=>by
  show(Lf (c.set x.1 x.2) l).getD o d=_;rw[NT l _ o λy ar=>h y (by simp[ar]),getD_set_ne (h x (by simp))]
theorem We:∀(l:List (Nat×α)) (c:List α),l.Pairwise (λx y=>x.1<y.1)->∀x∈l,x.1<c.length->(Lf c l).getD x.1 d=x.2
 |[],c,_,x,W,_=>by cases W
 |y::l,c,am,x,W,aO=>by
  have gT:=oW.1 am;show(Lf (c.set y.1 y.2) l).getD x.1 d=x.2;rcases io.1 W with rfl|W
  ·rw[NT d l _ x.1 λz hz=>by have:=gT.1 z hz;omega,atM aO]
  ·exact We l _ gT.2 x W (by grind)
end
def jE(o:Nat)(v:List bF):List bF:=(v.drop (4*o)).take 4
theorem QF{o k:Nat}{v:List bF}(r:k<4):(jE o v).getD k bp=v.getD (4*o+k) bp:=by
 unfold jE
 grind
theorem atY{o:Nat}{v:List bF}(ak:v.length=256)(av:o<64):(jE o v).length=4:=by
 unfold jE;simp[ak];omega
section
variable {v:List bF}
end
abbrev Wf(v:List bF)(l:List (Nat×bF)):List bF:=Lf v l
theorem Wg(c:List Pt)(l:List (Nat×Pt)):lC c l=Lf c l:=rfl
theorem aLb{o k:Nat}{v:List bF}{x:bF}:jE o (v.set (4*o+k) x)=(jE o v).set k x:=by
 unfold jE;rw[Sp,aQ (by omega),So,show 4*o+k - 4*o=k by omega]
theorem aLc{o i:Nat}{v:List bF}{x:bF}(h:i / 4≠o):jE o (v.set i x)=jE o v:=by
 unfold jE;rw[Sp];split
 ·rfl
 ·rw[So,ac6];simp;omega
theorem atZ(o:Nat):∀(l:List (Nat×bF)) (v:List bF),jE o (Wf v l)=nt (jE o v) (fj l o)
 |[],v=>rfl
 |x::l,v=>by
  show jE o (Wf (v.set x.1 x.2) l)=_;rw[atZ o l];by_cases h:x.1 / 4=o
  ·have e:fj (x::l) o=x::fj l o:=by
    unfold fj
    grind
   rw[e,show x.1=4*o+x.1%4 by omega,aLb];rfl
  ·have e:fj (x::l) o=fj l o:=by
    unfold fj
    grind
   rw[e,aLc h]
theorem at0:∀(g:List (Nat×bF)) (L:List bF),L.all fc=true->(∀x∈g,fc x.2=true)->(nt L g).all fc=true
 |[],L,h,_=>h
 |x::g,L,h,aH=>at0 g _ (by
   grind) λy ar=>aH y (by simp[ar])
def gz(l:List Pt):Nat:=(l.map λp=>fE p.k).sum
theorem Fq(a b:List Pt):gz (a++b)=gz a+gz b:=by simp[gz]
theorem Wh{l:List Pt}{k:Nat}(h:∀p∈l,p.k=k):gz l=l.length*fE k:=by
 induction l with
 |nil=>simp[gz]
 |cons p l bL=>
  have J:=h p (by simp);have T:=bL λx W=>h x (by simp[W]);unfold gz at T⊢
  grind
theorem Rq{l:List Pt}{c:Nat}(h:∀p∈l,fE p.k<=c):gz l<=l.length*c:=by
 induction l with
 |nil=>simp[gz]
 |cons p l bL=>
  have J:=h p (by simp);have T:=bL λx W=>h x (by simp[W]);unfold gz at T⊢;rw[oq,XB,qK,Sq];omega
structure iA(aF:Type) where
 rd:Src aF
 nw:aF->Pt->List UInt8->aF×Pt×Int
 ca:aF->Pt->aF
 ok:aF->Prop
 bU:aF->Prop
 has:aF->Pt->List UInt8->Prop
 bX:aF->List Pt
 gN:aF->List Pt
 EO:aF->Int->Prop
section
variable {aF:Type}
structure iA.fO(S:iA aF)(s s':aF)(m g:List Pt):Prop where
 ok:S.ok s'
 has:∀p b,S.has s p b->S.has s' p b
 bX:S.bX s'=S.bX s++m
 gN:S.gN s'=S.gN s++g
structure iA.ni(S:iA aF)(s:aF)(B:Nat)(s':aF)(e:Int):Prop where
 ne:e≠0
 EO:S.EO s' e
 bU:S.bU s'
 ci:gz (S.bX s')<=gz (S.bX s)+B
def HI(p:Pt):Prop:=cc p/\((p.k=3/\(p.l=1\/p.l=2))\/(1<=p.k/\p.k<=5/\p.k≠3/\p.l=0))
def agp(p q:Pt):Prop:=q.k=p.k/\q.l=p.l/\q.o=p.o/\q.f=p.f
structure iA.Laws(S:iA aF):Prop where
 bU:∀s,S.ok s->S.bU s
 ae:∀s p b,S.ok s->S.has s p b->cc p/\jY p=true/\b.length=512
 rd:∀s p b,S.ok s->S.has s p b->(S.fO s (S.rd s p).1 [] []/\(S.rd s p).2=(b,0))\/S.ni s 0 (S.rd s p).1 (S.rd s p).2.2
 ca:∀s p b,S.ok s->S.has s p b->S.fO s (S.ca s p) [] [p]
 agt:∀s,S.ok s->S.fO s (S.ca s ah) [] []
 nw:∀s p b,S.ok s->HI p->b.length=512->(∃q,S.nw s p b=((S.nw s p b).1,q,0)/\S.fO s (S.nw s p b).1 [q] []/\S.has (S.nw s p b).1 q b/\agp p q/\∀c,¬S.has s q c)\/S.ni s (fE p.k) (S.nw s p b).1 (S.nw s p b).2.2
abbrev iA.uZ(S:iA aF)(s:aF)(B:Nat){α:Type}(V:aF×α×Int):Prop:=S.ni s B V.1 V.2.2
variable {S:iA aF}{s bK cR:aF}{m g gD cC gc cj:List Pt}
theorem iA.fO.refl(h:S.ok s):S.fO s s [] []:=⟨h,λ_ _ h=>h,by simp,by simp⟩
theorem iA.fO.trans(h:S.fO s bK gD cC)(k:S.fO bK cR gc cj):S.fO s cR (gD++gc) (cC++cj):=⟨k.ok,λp b e=>k.has p b (h.has p b e),by rw[k.bX,h.bX,nv],by rw[k.gN,h.gN,nv]⟩
theorem iA.ni.mono{B Ss:Nat}{e:Int}(h:S.ni s B bK e)(ab:B<=Ss):S.ni s Ss bK e:=⟨h.ne,h.EO,h.bU,by have:=h.ci;omega⟩
theorem iA.ni.after{B:Nat}{e:Int}(x:S.fO s bK m g)(h:S.ni bK B cR e):S.ni s (gz m+B) cR e:=⟨h.ne,h.EO,h.bU,by have:=h.ci;rw[x.bX,Fq]at this;omega⟩
theorem iA.ni.BO{B:Nat}{e:Int}(x:S.fO s bK [] g)(h:S.ni bK B cR e):S.ni s B cR e:=(h.after x).mono (by simp[gz])
structure ro(has:Pt->List UInt8->Prop)(p:Pt)(n:List Pt):Prop where
 fx:iJ n
 all:n.all gI=true
 dI:(p=ah/\n=eE)\/(p≠ah/\n≠eE/\has p (mZ n)/\p.k=3)
section
variable {has pX:Pt->List UInt8->Prop}{p q bO:Pt}{n top h:List Pt}
theorem ro.z:ro has ah eE:=⟨rA,by decide,.inl ⟨rfl,rfl⟩⟩
theorem ro.iff(h:ro has p n):p=ah↔n=eE:=by
 rcases h.dI with⟨J,T⟩|⟨J,T,_⟩
 ·grind
 grind
theorem ro.mono(h:ro has p n)(aC:∀q b,has q b->pX q b):ro pX p n:=⟨h.fx,h.all,h.dI.imp id λ⟨a,b,c,d⟩=>⟨a,b,aC _ _ c,d⟩⟩
structure jD(has:Pt->List UInt8->Prop)(bO:Pt)(top h:List Pt):Prop where
 jC:ro has bO top
 HL:uu bO=true
 cN:∀g,g<8->ro has (top.getD g ah) (jX g h)
 ak:h.length=64
theorem jD.mono(t:jD has bO top h)(aC:∀q b,has q b->pX q b):jD pX bO top h:=⟨t.jC.mono aC,t.HL,λg aH=>(t.cN g aH).mono aC,t.ak⟩
theorem jD.z:jD has ah eE (List.replicate 64 ah):=by
 refine⟨ro.z,by decide,λg aH=> ?_,yC⟩;have e:jX g (List.replicate 64 ah)=eE:=by
  unfold jX eE
  grind
 rw[NS,e];exact ro.z
end
variable {bO p:Pt}{top h n:List Pt}{off:Nat}
theorem ro.xS(L:S.Laws)(av:S.ok s)(V:ro (S.has s) p n):(S.fO s (cM S.rd s p).1 [] []/\(cM S.rd s p).2=(n,0))\/((cM S.rd s p).2.1=eE/\S.uZ s 0 (cM S.rd s p)):=by
 unfold cM;rcases V.dI with⟨rfl,rfl⟩|⟨J,T,ag,_⟩
 ·exact .inl ⟨by simpa using iA.fO.refl av,by simp⟩
 ·rw[aQ J];rcases L.rd s p _ av ag with⟨aL,aR⟩|aL
  ·have dl:(S.rd s p).2.2=0:=by rw[aR]
   have gL:(S.rd s p).2.1=mZ n:=by rw[aR]
   rw[aQ (by rw[dl];simp),gL,al9 V.fx V.all,aQ (by simp)];exact .inl ⟨aL,rfl⟩
  ·rw[be aL.ne];exact .inr ⟨rfl,aL⟩
theorem jD.get(L:S.Laws)(av:S.ok s)(t:jD (S.has s) bO top h)(iD:off<64):(S.fO s (dz S.rd s bO off).1 [] []/\(dz S.rd s bO off).2=(h.getD off ah,0))\/((dz S.rd s bO off).2.1=ah/\S.uZ s 0 (dz S.rd s bO off)):=by
 unfold dz;rw[t.HL,ou iD];simp only[Sf,if_true];unfold qF;rcases t.jC.xS L av with⟨aL,aR⟩|⟨_,aL⟩
 ·rw[aQ (by rw[aR];simp),aR];simp only[if_true];unfold qF;rcases((t.cN (off / 8) (by omega)).mono aL.has).xS L aL.ok with⟨aW,bg⟩|⟨_,aW⟩
  ·rw[aQ (by rw[bg];simp),bg];unfold qF;refine .inl ⟨by simpa using aL.trans aW,?_⟩;simp only[show¬(0=1)by decide,if_false];rw[Nt (by omega),show 8*(off / 8)+off%8=off by omega]
  ·rw[be aW.ne];exact .inr ⟨rfl,aW.BO aL⟩
 ·rw[be aL.ne];exact .inr ⟨rfl,aL⟩
theorem jD.mO(L:S.Laws)(t:jD (S.has s) bO top h):∀(l:List Nat),(∀g∈l,g<8)->∀(bK:aF) (dP:List (Nat×Pt)) (dZ:List Pt),S.fO s bK [] []->
  (S.fO s (mO S.rd top l bK dP dZ).1 [] []/\(mO S.rd top l bK dP dZ).2=(dP++l.flatMap (λg=>xk g (jX g h)),dZ++(l.map λg=>top.getD g ah).filter (λp=>decide (p≠ah)),0))\/S.ni s 0 (mO S.rd top l bK dP dZ).1 (mO S.rd top l bK dP dZ).2.2.2
 |[],_,bK,dP,dZ,W=>.inl ⟨by unfold Go.Proofs.YtoohkhcpboldjaaGreatDoor.mO;exact W,by unfold Go.Proofs.YtoohkhcpboldjaaGreatDoor.mO;simp⟩
 |g::l,ak,bK,dP,dZ,W=>by
  have aH:=ak g (by simp);have Wi:=t.cN g aH;unfold Go.Proofs.YtoohkhcpboldjaaGreatDoor.mO;by_cases am:top.getD g ah=ah
  ·rw[be am];have dk:jX g h=eE:=Wi.iff.1 am;have aL:xk g eE=[]:=by
    unfold xk;rw[List.filterMap_eq_nil_iff];intro k _;rw[NS,be rfl]
   have:=jD.mO L t l (λx W=>ak x (by simp[W])) bK dP dZ W
   grind
  ·rw[aQ am];rcases(Wi.mono W.has).xS L W.ok with⟨aW,bg⟩|⟨_,aW⟩
   ·have f5:(cM S.rd bK (top.getD g ah)).2.2=0:=by rw[bg]
    have f6:(cM S.rd bK (top.getD g ah)).2.1=jX g h:=by rw[bg]
    rw[aQ (by rw[f5];simp),f6];have:=jD.mO L t l (λx W=>ak x (by simp[W])) (cM S.rd bK (top.getD g ah)).1 (dP++xk g (jX g h)) (dZ++[top.getD g ah]) (W.trans aW)
    grind
   ·rw[be aW.ne];exact .inr (aW.BO W)
theorem jD.all(L:S.Laws)(av:S.ok s)(t:jD (S.has s) bO top h):(S.fO s (lS S.rd s bO).1 [] []/\(lS S.rd s bO).2=(BN h 64,Ie bO top,0))\/(∃s' e,lS S.rd s bO=(s',[],[],e)/\S.ni s 0 s' e):=by
 unfold lS;rw[t.HL];simp only[if_true];have key:(S.fO s (l_ S.rd s bO).1 [] []/\(l_ S.rd s bO).2=(BN h 64,Ie bO top,0))\/S.ni s 0 (l_ S.rd s bO).1 (l_ S.rd s bO).2.2.2:=by
  unfold l_ Ie;by_cases ax:bO=ah
  ·have bj:=t.jC.iff.1 ax;rw[be ax,be ax,atK];have dk:(List.range 8).flatMap (λg=>xk g (jX g h))=[]:=by
    rw[List.flatMap_eq_nil_iff];intro g aH;have Wi:=t.cN g (wl.1 aH);rw[bj,NS]at Wi;rw[Wi.iff.1 rfl];unfold xk;rw[List.filterMap_eq_nil_iff];intro k _;rw[NS,be rfl]
   rw[dk];exact .inl ⟨iA.fO.refl av,rfl⟩
  ·rw[aQ ax,aQ ax];rcases t.jC.xS L av with⟨aW,bg⟩|⟨_,aW⟩
   ·have f5:(cM S.rd s bO).2.2=0:=by rw[bg]
    have f6:(cM S.rd s bO).2.1=top:=by rw[bg]
    rw[aQ (by rw[f5];simp),f6];have:=t.mO L (List.range 8) (λg aH=>wl.1 aH) (cM S.rd s bO).1 [] [bO] aW;rw[atK];have aL:(List.range 8).map (λg=>top.getD g ah)=top:=(atL t.jC.fx.len).symm
    grind
   ·rw[be aW.ne];exact .inr aW
 rcases key with⟨bn,bh⟩|bn
 ·grind
 ·rw[be bn.ne]
  grind
end
end Go.Proofs.YtoohkhcpboldjaaGreatDoor
