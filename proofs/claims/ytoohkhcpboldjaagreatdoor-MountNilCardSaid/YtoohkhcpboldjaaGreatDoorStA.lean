/- Stores: what a source and sink of blocks must do, in plain Lean; a tree in a store is read, walked, set, and which blocks come and go. They speak of no memory. No condition. -/
import Derived.Test.YtoohkhcpboldjaaGreatDoorTbE
import Derived.Test.YtoohkhcpboldjaaGreatDoorShaF
set_option linter.unusedSimpArgs false
set_option linter.unusedVariables false
namespace Go.Proofs.YtoohkhcpboldjaaGreatDoor
open Go.RowKit Go.Kin
def ul(b:Option Nat):List (Nat×br)->Bool
 |[]=>true
 |x::l=>decide (1<=x.1/\x.1<=255)&&fI x.2&&(match b with|none=>true|some z=>decide (z<x.1))&&ul (some x.1) l
theorem Vc(b:Option Nat)(x:Nat×br)(l:List (Nat×br)):ul b (x::l)=(decide (1<=x.1/\x.1<=255)&&fI x.2&&(match b with|none=>true|some z=>decide (z<x.1))&&ul (some x.1) l):=rfl
def eK(l:List (Nat×br))(o:Nat):List (Nat×br):=l.filter λx=>decide (x.1 / 4=o)
theorem YB{l:List (Nat×br)}{o:Nat}{x:Nat×br}:x∈eK l o↔x∈l/\x.1 / 4=o:=by
 unfold eK;simp
theorem agH(l:List (Nat×br))(o:Nat):(eK l o).length<=l.length:=List.length_filter_le _ _
theorem alE(l:List (Nat×br))(x:Nat×br)(o:Nat):eK (l++[x]) o=eK l o++if x.1 / 4=o then[x]else[]:=by
 unfold eK
 grind
def kN(l:List (Nat×br)):List Nat:=(List.range 64).filter λo=>decide (eK l o≠[])
theorem Ny{l:List (Nat×br)}{o:Nat}:o∈kN l↔o<64/\eK l o≠[]:=by
 unfold kN;simp
theorem YD(l:List (Nat×br)):(kN l).Pairwise (·<·):=List.Pairwise.filter _ List.pairwise_lt_range
theorem agC(l:List (Nat×br)):(kN l).length<=64:=Nat.le_trans (List.length_filter_le _ _) (by simp)
theorem YC:∀{a b:List Nat},a.Pairwise (·<·)->b.Pairwise (·<·)->(∀x,x∈a↔x∈b)->a=b
 |[],[],_,_,_=>rfl
 |[],y::b,_,_,h=>absurd ((h y).2 (by simp)) (by simp)
 |x::a,[],_,_,h=>absurd ((h x).1 (by simp)) (by simp)
 |x::a,y::b,am,V,h=>by
  have M:=List.pairwise_cons.1 am;have ar:=List.pairwise_cons.1 V;have e:x=y:=by
   rcases List.mem_cons.1 ((h x).1 (by simp))with e|e
   ·exact e
   ·rcases List.mem_cons.1 ((h y).2 (by simp))with aW|aW
    ·exact aW.symm
    grind
  subst e;rw[YC M.2 ar.2 λz=>⟨λhz=> ?_,λhz=> ?_⟩]
  ·grind
  grind
theorem alF:∀{l:List (Nat×br)} {b:Option Nat},ul b l=true->∀x∈l,(1<=x.1/\x.1<=255)/\fI x.2=true
 |[],_,_,x,M=>by cases M
 |y::l,b,h,x,M=>by
  rw[Vc]at h;simp only[Bool.and_eq_true,decide_eq_true_eq]at h;rcases List.mem_cons.1 M with rfl|M
  ·exact h.1.1
  ·exact alF h.2 x M
theorem alG:∀{l:List (Nat×br)} {b:Option Nat},ul b l=true->l.Pairwise (λx y=>x.1<y.1)/\∀z,b=some z->∀x∈l,z<x.1
 |[],_,_=>⟨List.Pairwise.nil,λ_ _ x M=>by cases M⟩
 |y::l,b,h=>by
  rw[Vc]at h;simp only[Bool.and_eq_true,decide_eq_true_eq]at h;obtain⟨H,I⟩:=alG h.2;refine⟨List.pairwise_cons.2 ⟨λx M=>I _ rfl x M,H⟩,λz hz x M=> ?_⟩
  grind
def Nz(l:List (Nat×br))(i:Nat)(x:Nat×br):Bool:=decide (1<=x.1/\x.1<=255)&&fI x.2&&(match(if i=0 then none else(l[i - 1]?).map (·.1))with|none=>true|some z=>decide (z<x.1))
theorem ash(l:List (Nat×br)){i:Nat}{x:Nat×br}(M:l[i]? =some x):ul (if i=0 then none else(l[i - 1]?).map (·.1)) (l.drop i)=(Nz l i x&&ul (if i+1=0 then none else(l[i+1 - 1]?).map (·.1)) (l.drop (i+1))):=by
 have aO:=(List.getElem?_eq_some_iff.1 M).1;have e:l.drop i=x::l.drop (i+1):=by
  rw[List.drop_eq_getElem_cons aO];congr 1;rw[List.getElem?_eq_getElem aO]at M;exact Option.some.inj M
 rw[e,Vc,if_neg (show¬i+1=0 by omega),Nat.add_sub_cancel,M];rfl
def lY{ay:Type}(rd:Src ay)(nw:ay->Pt->List UInt8->ay×Pt×Int)(p:Pt)(l:List (Nat×br)):List Nat->ay->List (Nat×Pt)->ay×List (Nat×Pt)×Int
 |[],s,b'=>(s,b',0)
 |o::os,s,b'=>if(la rd nw s p o (eK l o)).2.2.2≠0 then((la rd nw s p o (eK l o)).1,[],(la rd nw s p o (eK l o)).2.2.2)
  else lY rd nw p l os (la rd nw s p o (eK l o)).1 (if(la rd nw s p o (eK l o)).2.2.1 then b'++[(o,(la rd nw s p o (eK l o)).2.1)]else b')
def pZ{ay:Type}(rd:Src ay)(nw:ay->Pt->List UInt8->ay×Pt×Int)(bM:ay->Pt->ay)(s:ay)(p:Pt)(l:List (Nat×br)):ay×Pt×Int:=
 if ul none l=true then(if(lY rd nw p l (kN l) s []).2.2≠0 then((lY rd nw p l (kN l) s []).1,ad,(lY rd nw p l (kN l) s []).2.2)else pq rd nw bM 0 (lY rd nw p l (kN l) s []).1 p (lY rd nw p l (kN l) s []).2.1)
 else(s,ad,1)
section
variable{ay:Type}{bc:ay->h_}{m:ay->Nat}{rd:Src ay}{nw:ay->Pt->List UInt8->ay×Pt×Int}{bM:ay->Pt->ay}{sv:Value}
theorem agS(aw:vb bc m rd nw bM sv)(p:Pt)(l:List (Nat×br)):∀(os:List Nat) (s:ay) (b':List (Nat×Pt)),m s<=m (lY rd nw p l os s b').1+64*os.length
 |[],s,b'=>by unfold lY;simp
 |o::os,s,b'=>by
  have H:=agJ aw s p o (eK l o);have I:=agS aw p l os (la rd nw s p o (eK l o)).1 (if(la rd nw s p o (eK l o)).2.2.1 then b'++[(o,(la rd nw s p o (eK l o)).2.1)]else b');unfold lY
  grind
theorem agT(p:Pt)(l:List (Nat×br)):∀(os:List Nat) (s:ay) (b':List (Nat×Pt)),(lY rd nw p l os s b').2.1.length<=b'.length+os.length
 |[],s,b'=>by unfold lY;simp
 |o::os,s,b'=>by
  have I:=agT p l os (la rd nw s p o (eK l o)).1 (if(la rd nw s p o (eK l o)).2.2.1 then b'++[(o,(la rd nw s p o (eK l o)).2.1)]else b');unfold lY
  grind
end
theorem Io.ch{w w':World}{g:Nat}{m:List UInt8}(h:Io w g m)(T:D ak w w'):Io w' g m:=by
 obtain⟨s,v,on,H,I,af⟩:=h;exact⟨s,v,on,T.ah H id,I.ch T λ_ _ e=>e,af⟩
theorem ja.lt{w:World}(h:ja w):3<w.1.size:=by
 unfold ja at h;exact World.block_lt_of_cell? w _ (h 0 (by decide))
def sr(p:Pt)(b:List UInt8):List UInt8:=Ga ((jq p).take 16++b)
theorem JN(p:Pt)(b:List UInt8):(sr p b).length=32:=akH _
theorem alH(p:Pt)(v:Value)(b:List UInt8)(w:World)(ok:bN p)(aw:bD w v b.length (bm b))(aS:∀k,v.ownBlock=some k->k<w.1.size)(cI:b.length<=900000)(r:ja w):
  aP Tryz.prog 159 #[.agg (Y p),v] w λW w'=>W=.agg (bm (sr p b)).toArray/\D ak w w':=by
 refine bn Tryz.func159 Tryz.ntmps159 λaZ Z=> ?_;obtain⟨kb,wP⟩:=az ((bm (cV 32)).toArray);have yF:ln Tryz.prog 41=kb:=by rw[<-wP];kernel_rfl
 have ua:(Tryz.prog.info? 41).map (λi=>i.zero.isSome)=some true:=by kernel_rfl
 have Ij:kb.size=32:=by rw[<-wP];simp[eB,lM]
 have wu:=Ax ok;simp[go_sem,yF,ua];have aI:=((D.refl ak w).alloc (.cells (Y p) 44)).alloc (.cells kb 41);have bj:=((D.refl ak (w.alloc (.cells (Y p) 44))).alloc (.cells kb 41)).ah (cl w (.cells (Y p) 44)) id;have ci:=cl (w.alloc (.cells (Y p) 44)) (.cells kb 41);rw[show(w.alloc (.cells (Y p) 44)).1.size=w.1.size+1 by simp]at ci;revert aI bj ci;generalize(w.alloc (.cells (Y p) 44)).alloc (.cells kb 41)=ab;generalize CM:w.1.size=fC at*;intro aI bj ci;refine(az1 ab).mono ?_;rintro _ ai ⟨rfl,aN,aA⟩;have xn:fC+1<ab.1.size:=lt_of_block ci;generalize ab.1.size=g at*;have WC:=aA.ah bj id;have cU:=bW ok;have cT:=dW ok;simp[go_sem,WC,cU,cT];refine(Rv (.slice none 0 0) 0 [] p ai ok (by decide) rfl (World.ownsRow_nil _ _ _ _)).mono ?_;rintro bt aC ⟨H,I,af⟩;have aE:D ak ai aC:=I.mono λk _ e=>by simp[Value.ownBlock]at e
 have Zl:=aN.ch aE;have gE:=bD.fp H;rw[List.nil_append,Nat.zero_add]at gE;have aJl:g<ai.1.size:=by obtain⟨_,_,_,h,_⟩:=aN;exact lt_of_block h
 have aBZ:bt.ownBlock≠some g:=by
  rcases af with af|af
  ·rw[af];simp[Value.ownBlock]
  ·intro h;have:=af g h;omega
 obtain⟨cw,jg,wg,_,wC,_⟩:=gE.qo kB (by simp[eB,wu]) 0 16 (by decide) (by decide);replace wC:∀w',(Instr.sliceAt 101 bt none (some (.int .i64 16)) none).run Tryz.prog w'=.ok cw w':=wC rfl;have acb:((jq p).take 16).length=16:=by rw[List.length_take];omega
 have jg:bD aC cw ((jq p).take 16).length (bm ((jq p).take 16)):=by
  rw[acb,bm,List.map_take];simpa[bm]using jg
 have lq:=(aI.trans aA).trans aE;have sq:g≠3:=by have:=r.lt;omega
 simp[go_sem,wC];refine(akz g [] cw ((jq p).take 16) aC Zl jg (by rw[wg];exact aBZ) (by rw[acb];decide) (r.ch lq id) sq).mono ?_;rintro _ be ⟨rfl,alI,bv⟩;rw[List.nil_append]at alI;have IB:∀k,v.ownBlock=some k->¬only g k:=λk eH e=>by
  have:=aS k eH;simp only[only]at e;omega
 have y_:D ak w be:=lq.bJ bv λj F e=>by simp only[only]at e;omega
 simp[go_sem];refine(akz g _ v b be alI ((aw.ch y_ λ_ _ e=>e)) (λh=>IB g h rfl) (by rw[acb];omega) (r.ch y_ id) sq).mono ?_;rintro _ bw ⟨rfl,aB0,bx⟩;have Br:D ak w bw:=y_.bJ bx λj F e=>by simp only[only]at e;omega
 simp[go_sem];refine(aAb g _ bw aB0 (by grind) (r.ch Br id) sq).mono ?_;rintro _ cd ⟨rfl,co⟩;have mi:=co.ah (bx.ah (bv.ah (aE.ah (aA.ah ci id) id) (by simp only[only];omega)) (by simp only[only];omega)) id;rw[show Ga ((jq p).take 16++b)=sr p b from rfl];obtain⟨bo,hu⟩:=az ((bm (sr p b)).toArray);have In:bo.size=32:=by rw[<-hu];simp[eB,JN]
 have Ik:jT bo=true:=by rw[<-hu];exact abw _
 have abx:bo.extract 0 32=bo:=by rw[show(32:Nat)=bo.size from In.symm];simp
 rw[hu]at Z⊢;have rG:(cd.setRow (fC+1) bo).1[fC+1]? =some (.cells bo 41 (0,0)):=by rw[gk,mi];rfl
 simp[go_sem,mi,In,abx,Ij,Ik,bQ,rG];exact Z _ _ ⟨rfl,(Br.trans co).setRow (g:=fC+1) (.inr (by omega)) _⟩
def MZ(p:Pt)(b:List UInt8):Pt:={p with h:=sr p b}
theorem afm{p:Pt}(ok:bN p)(b:List UInt8):bN (MZ p b):=⟨ok.k,ok.l,ok.o,ok.f,ok.b,JN p b,ok.a,ok.dn⟩
theorem aqH(p:Pt)(v:Value)(b:List UInt8)(w:World)(ok:bN p)(aw:bD w v b.length (bm b))(aS:∀k,v.ownBlock=some k->k<w.1.size)(cI:b.length<=900000)(r:ja w):
  aP Tryz.prog 183 #[.agg (Y p),v] w λW w'=>W=.agg (Y (MZ p b))/\D ak w w':=by
 refine bn Tryz.func183 Tryz.ntmps183 λaZ Z=> ?_;have cU:=bW ok;have cT:=dW ok;have dN:=bW cE;simp[go_sem,gm,gn,cU,cT];have aI:=((D.refl ak w).alloc (.cells (Y p) 44)).alloc (.cells (Y ad) 44);have bj:=((D.refl ak (w.alloc (.cells (Y p) 44))).alloc (.cells (Y ad) 44)).ah (cl w (.cells (Y p) 44)) id;have ci:=cl (w.alloc (.cells (Y p) 44)) (.cells (Y ad) 44);rw[show(w.alloc (.cells (Y p) 44)).1.size=w.1.size+1 by simp]at ci;revert aI bj ci;generalize(w.alloc (.cells (Y p) 44)).alloc (.cells (Y ad) 44)=ab;generalize CM:w.1.size=fC at*;intro aI bj ci;have sF:∀k,v.ownBlock=some k->k<ab.1.size:=λk h=>by grind
 refine(alH p v b ab ok (aw.ch aI λ_ _ e=>e) sF cI (r.ch aI id)).mono ?_;rintro _ ai ⟨rfl,aA⟩;have bj:=aA.ah bj id;have ci:=aA.ah ci id;have MM:=JN p b;have ia:((bm (sr p b)).toArray).size=32:=by simp[eB,MM]
 have S_:jT (bm (sr p b)).toArray=true:=abw _;have acc:=adQ (p:=p) (h':=sr p b) ok.h MM;change _=Y (MZ p b)at acc;have ns:=afm ok b;have mE:=bW ns;have lw:=dW ns;generalize MZ p b=s at*;generalize hu:(bm (sr p b)).toArray=bo at*;have nc:=aI.trans aA;have fK:=nc.setRow (g:=fC) (.inr (by omega)) (d' (Y p) 5 bo);have Bt:(ai.setRow fC (d' (Y p) 5 bo)).1[fC]? =some (.cells (Y s) 44 (0,0)):=by rw[gk,bj,acc];rfl
 have Vd:(ai.setRow fC (d' (Y p) 5 bo)).1[fC+1]? =some (.cells (Y ad) 44 (0,0)):=by rw[WD _ _ _ _ (by omega)];exact ci
 simp[go_sem,bj,cU,ia,S_];revert fK Bt Vd;generalize ai.setRow fC (d' (Y p) 5 bo)=aC;intro fK Bt Vd;have rG:(aC.setRow (fC+1) (Y s)).1[fC+1]? =some (.cells (Y s) 44 (0,0)):=by rw[gk,Vd];rfl
 simp[go_sem,acc,Bt,Vd,mE,lw,dN,bQ,rG];exact Z _ _ ⟨rfl,fK.setRow (g:=fC+1) (.inr (by omega)) _⟩
theorem ahN(p:Pt)(v:Value)(b:List UInt8)(w:World)(ok:bN p)(aw:bD w v b.length (bm b))(aS:∀k,v.ownBlock=some k->k<w.1.size)(cI:b.length<=900000)(r:ja w):
  aP Tryz.prog 106 #[.agg (Y p),v] w λW w'=>W=.bool (decide (b.length=512)&&decide (sr p b=p.h))/\D ak w w':=by
 refine bn Tryz.func106 Tryz.ntmps106 λaZ Z=> ?_;have cU:=bW ok;have cT:=dW ok;have alJ:=aw.len Tryz.underlying101 3;have aI:=(D.refl ak w).alloc (.cells (Y p) 44);have bj:=cl w (.cells (Y p) 44);simp[go_sem,cU,cT];revert aI bj;generalize w.alloc (.cells (Y p) 44)=ab;generalize CM:w.1.size=fC at*;intro aI bj;refine cD [A 0,A 1,A 2,A 3,A 4,A 5,A 7,A 8,(6,some [7,8]),A 9,A 10,A 11] ?_;have Fe:ab.drew.1[fC]? =some (.cells (Y p) 44 (0,0)):=bj;have alK:=QT ok;by_cases bC:b.length=512
 ·have IC:((b.length:Int)==512)=true:=by rw[bC];rfl
  simp[go_sem,alJ,IC,bj,Fe,cU,cT,alK];have sF:∀k,v.ownBlock=some k->k<ab.1.size:=λk h=>by grind
  refine(alH p v b ab.drew ok (aw.ch aI.drew λ_ _ e=>e) sF cI (r.ch aI.drew id)).mono ?_;rintro _ ai ⟨rfl,aA⟩;have cC:=aA.ah Fe id;have gI:∀w,(Op.equalIn 10000 41 (.agg (bm (sr p b)).toArray) (.agg (bm p.h).toArray)).run Tryz.prog w=.ok (decide (sr p b=p.h)) w:=λw=>QU w 9998 _ _ 32 Tryz.underlying41 Tryz.underlying5 Tryz.sizeOf5 Tryz.isAgg5 _ _ (JN p b) ok.h;simp[go_sem,cC,cU,alK,gI,bC];exact Z _ _ ⟨by simp[bC],aI.drew.trans aA⟩
 ·have IC:((b.length:Int)==512)=false:=beq_false_of_ne (by omega);simp[go_sem,alJ,IC,bC];exact Z _ _ ⟨by simp[bC],aI.drew⟩
structure pF where
 fF:List (List UInt8)
 dT:List Nat
 bI:List Pt
 fL:List Pt
 Pm:Int
 Ve:List Pt
def pF.yq(s:pF)(l:List Pt):pF:={s with Ve:=s.Ve++l}
@[simp] theorem pF.aJm(s:pF):s.yq []=s:=by simp[pF.yq]
@[simp] theorem pF.aJn(s:pF)(a b:List Pt):(s.yq a).yq b=s.yq (a++b):=by simp[pF.yq]
@[simp] theorem pF.aJo(s:pF)(a:List Pt):(s.yq a).fF=s.fF:=rfl
@[simp] theorem pF.aJp(s:pF)(a:List Pt):(s.yq a).dT=s.dT:=rfl
@[simp] theorem pF.aJq(s:pF)(a:List Pt):(s.yq a).bI=s.bI:=rfl
@[simp] theorem pF.aJr(s:pF)(a:List Pt):(s.yq a).fL=s.fL:=rfl
@[simp] theorem pF.aJs(s:pF)(a:List Pt):(s.yq a).Pm=s.Pm:=rfl
@[simp] theorem pF.aJt(s:pF)(a:List Pt):(s.yq a).Ve=s.Ve++a:=rfl
def it(g:Nat)(h:List Pt):List Pt:=(h.drop (8*g)).take 8
theorem Ih{g k:Nat}{h:List Pt}(r:k<8):(it g h).getD k ad=h.getD (8*g+k) ad:=by
 unfold it
 grind
theorem ah7{g:Nat}{h:List Pt}(al:h.length=64)(aF:g<8):(it g h).length=8:=by
 unfold it;simp[al];omega
theorem DE(g:Nat):dY.getD g ad=ad:=by
 unfold dY
 grind
def nQ(h:List Pt)(k:Nat):List (Nat×Pt):=(List.range k).filterMap λoff=>if h.getD off ad=ad then none else some (off,h.getD off ad)
def pD(bu:Pt)(top:List Pt):List Pt:=if bu=ad then[]else bu::top.filter (λp=>decide (p≠ad))
theorem ajs(h:List Pt)(k:Nat):nQ h (k+1)=nQ h k++if h.getD k ad=ad then[]else[(k,h.getD k ad)]:=by
 unfold nQ;rw[List.range_succ,List.filterMap_append]
 grind
theorem alL{ct aB1:Type}{f g:ct->Option aB1}:∀{l:List ct},(∀x∈l,f x=g x)->l.filterMap f=l.filterMap g
 |[],_=>rfl
 |x::l,h=>by
  rw[List.filterMap_cons,List.filterMap_cons,h x (by simp),alL λy ar=>h y (by simp[ar])]
theorem aaP(h:List Pt):nQ h 64=(List.range 8).flatMap λg=>qS g (it g h):=by
 have e:List.range 64=(List.range 8).flatMap λg=>(List.range 8).map (8*g+·):=by decide
 unfold nQ;rw[e,List.filterMap_flatMap];congr 1;funext g;unfold qS;rw[List.filterMap_map];apply alL;intro k r;have r:=List.mem_range.1 r;simp only[Function.comp_apply];rw[Ih r]
theorem TC{top:List Pt}(h:top.length=8):top=(List.range 8).map λg=>top.getD g ad:=by
 apply List.ext_getElem?
 grind
theorem alM{ct:Type}{l:List ct}{i:Nat}{v d:ct}(h:i<l.length):(l.set i v).getD i d=v:=by grind
theorem getD_set_ne{ct:Type}{l:List ct}{i j:Nat}{v d:ct}(h:i≠j):(l.set i v).getD j d=l.getD j d:=by grind
def uD(n:List Pt)(l:List (Nat×Pt)):List Pt:=l.foldl (λn x=>n.set (x.1%8) x.2) n
def kx(c:List Pt)(l:List (Nat×Pt)):List Pt:=l.foldl (λc x=>c.set x.1 x.2) c
theorem alN:∀(l:List (Nat×Pt)) (c:List Pt),(kx c l).length=c.length
 |[],c=>rfl
 |x::l,c=>by
  show(kx (c.set x.1 x.2) l).length=_;rw[alN l,List.length_set]
theorem aB2(c:List Pt)(a b:List (Nat×Pt)):kx c (a++b)=kx (kx c a) b:=List.foldl_append
theorem alO{g k:Nat}{c:List Pt}{v:Pt}:it g (c.set (8*g+k) v)=(it g c).set k v:=by
 unfold it;rw[List.drop_set,if_neg (by omega),List.take_set,show 8*g+k - 8*g=k by omega]
theorem aB3{g i:Nat}{c:List Pt}{v:Pt}(h:i / 8≠g):it g (c.set i v)=it g c:=by
 unfold it;rw[List.drop_set];split
 ·rfl
 ·rw[List.take_set,List.set_eq_of_length_le];simp;omega
theorem alP{g:Nat}:∀(l:List (Nat×Pt)) (c:List Pt),(∀x∈l,x.1 / 8=g)->it g (kx c l)=uD (it g c) l
 |[],c,_=>rfl
 |x::l,c,h=>by
  have M:=h x (by simp);show it g (kx (c.set x.1 x.2) l)=uD ((it g c).set (x.1%8) x.2) l;rw[alP l _ λy ar=>h y (by simp[ar]),<-alO,show 8*g+x.1%8=x.1 by omega]
theorem alQ{g l_:Nat}(da:g≠l_):∀(l:List (Nat×Pt)) (c:List Pt),(∀x∈l,x.1 / 8=g)->it l_ (kx c l)=it l_ c
 |[],c,_=>rfl
 |x::l,c,h=>by
  have M:=h x (by simp);show it l_ (kx (c.set x.1 x.2) l)=_;rw[alQ da l _ λy ar=>h y (by simp[ar]),aB3 (by omega)]
theorem alR{g:Nat}:∀(l:List (Nat×Pt)) (c:List Pt),(∀x∈l,x.1 / 8=g)->∀o,o / 8≠g->(kx c l).getD o ad=c.getD o ad
 |[],c,_,o,_=>rfl
 |x::l,c,h,o,aB=>by
  have M:=h x (by simp);show(kx (c.set x.1 x.2) l).getD o ad=_;rw[alR l _ (λy ar=>h y (by simp[ar])) o aB,getD_set_ne (by rintro rfl;exact aB M)]
theorem alS:∀(l:List (Nat×Pt)) (n:List Pt),hE n->n.all fy=true->(∀x∈l,bN x.2/\fy x.2=true)->hE (uD n l)/\(uD n l).all fy=true
 |[],n,h,I,_=>⟨h,I⟩
 |x::l,n,h,I,al=>alS l _ (h.set _ (al x (by simp)).1) (by
   grind) λy ar=>al y (by simp[ar])
theorem alT(g:Nat)(l:List (Nat×Pt)):l.drop (jB g l).length=l.dropWhile λx=>x.1 / 8==g:=by
 have e:l=jB g l++l.dropWhile λx=>x.1 / 8==g:=(List.takeWhile_append_dropWhile).symm
 grind
theorem Vf{g:Nat}{l:List (Nat×Pt)}{x:Nat×Pt}(h:x∈jB g l):x∈l/\x.1 / 8=g:=by
 unfold jB at h;refine⟨List.Sublist.subset (List.takeWhile_sublist _) h,?_⟩
 induction l with
 |nil=>cases h
 |cons y l bG=>
  rw[List.takeWhile_cons]at h
  grind
theorem alU{g:Nat}:∀{l:List (Nat×Pt)},l.Pairwise (λx y=>x.1<y.1)->(∀x∈l,g<=x.1 / 8)->∀x∈l.dropWhile (λx=>x.1 / 8==g),x∈l/\g+1<=x.1 / 8
 |[],_,_,x,M=>by cases M
 |y::l,ah,al,x,M=>by
  have fW:=List.pairwise_cons.1 ah;rw[List.dropWhile_cons]at M;split at M
  ·obtain⟨H,I⟩:=alU fW.2 (λz hz=>al z (by simp[hz])) x M;exact⟨by simp[H],I⟩
  grind
theorem alV:∀(l:List (Nat×Pt)) (b:Option Nat),(∀x∈l,x.1<64/\fy x.2=true)->l.Pairwise (λx y=>x.1<y.1)->(∀y,b=some y->∀x∈l,y<x.1)->tF b l=true
 |[],b,_,_,_=>rfl
 |x::l,b,h,ah,V=>by
  rw[alW,decide_eq_true (h x (by simp)).1,(h x (by simp)).2,alV l (some x.1) (λy ar=>h y (by simp[ar])) (List.pairwise_cons.1 ah).2 (λy ar z hz=>by cases ar;exact(List.pairwise_cons.1 ah).1 z hz)]
  grind
theorem aB4{J:Pt}{t:List Pt}(bd:t.length=8)(ap:J=ad->t=dY)(x:Pt):x∈pD J t↔(J≠ad/\x=J)\/∃g,g<8/\x=t.getD g ad/\t.getD g ad≠ad:=by
 unfold pD;by_cases h:J=ad
 ·rw[if_pos h];constructor
  ·intro h;cases h
  ·rintro(⟨H,_⟩|⟨g,_,_,af⟩)
   ·exact absurd h H
   ·rw[ap h,DE]at af;exact absurd rfl af
 ·rw[if_neg h,List.mem_cons,List.mem_filter];constructor
  ·rintro(rfl|⟨H,I⟩)
   ·exact .inl ⟨h,rfl⟩
   ·obtain⟨i,aa⟩:=List.mem_iff_getElem?.1 H
    grind
  grind
section
variable{ct:Type}(d:ct)
def Gh(c:List ct)(l:List (Nat×ct)):List ct:=l.foldl (λc x=>c.set x.1 x.2) c
theorem alX:∀(l:List (Nat×ct)) (c:List ct),(Gh c l).length=c.length
 |[],c=>rfl
 |x::l,c=>by
  show(Gh (c.set x.1 x.2) l).length=_;rw[alX l,List.length_set]
theorem ID:∀(l:List (Nat×ct)) (c:List ct) (o:Nat),(∀x∈l,x.1≠o)->(Gh c l).getD o d=c.getD o d
 |[],c,o,_=>rfl
 |x::l,c,o,h=>by
  show(Gh (c.set x.1 x.2) l).getD o d=_;rw[ID l _ o λy ar=>h y (by simp[ar]),getD_set_ne (h x (by simp))]
theorem Qk:∀(l:List (Nat×ct)) (c:List ct),l.Pairwise (λx y=>x.1<y.1)->∀x∈l,x.1<c.length->(Gh c l).getD x.1 d=x.2
 |[],c,_,x,M,_=>by cases M
 |y::l,c,ah,x,M,aO=>by
  have fW:=List.pairwise_cons.1 ah;show(Gh (c.set y.1 y.2) l).getD x.1 d=x.2;rcases List.mem_cons.1 M with rfl|M
  ·rw[ID d l _ x.1 λz hz=>by have:=fW.1 z hz;omega,alM aO]
  ·exact Qk l _ fW.2 x M (by grind)
end
def iv(o:Nat)(v:List br):List br:=(v.drop (4*o)).take 4
theorem KE{o k:Nat}{v:List br}(r:k<4):(iv o v).getD k bA=v.getD (4*o+k) bA:=by
 unfold iv
 grind
theorem aib{o:Nat}{v:List br}(al:v.length=256)(aB:o<64):(iv o v).length=4:=by
 unfold iv;simp[al];omega
section
variable{v:List br}
def wL(v:List br)(k:Nat):List (Nat×br):=(List.range k).filterMap λn=>if v.getD n bA=bA then none else some (n,v.getD n bA)
theorem Up(v:List br)(k:Nat):wL v (k+1)=wL v k++if v.getD k bA=bA then[]else[(k,v.getD k bA)]:=by
 unfold wL;rw[List.range_succ,List.filterMap_append]
 grind
theorem axF(v:List br){o:Nat}(aB:o<64):wL v (4*(o+1))=wL v (4*o)++ox o (iv o v) 4:=by
 have e:∀k,k<=4->wL v (4*o+k)=wL v (4*o)++ox o (iv o v) k:=by
  intro k
  induction k with
  |zero=>intro _;simp[ox]
  |succ k bG=>
   intro r;rw[<-Nat.add_assoc,Up,bG (by omega),alY,KE (by omega),show(o*4+k)%65536=4*o+k by omega,List.append_assoc]
 grind
theorem axG(o:Nat)(k:Nat):ox o fO k=[]:=by
 unfold ox;rw[List.filterMap_eq_nil_iff];intro k _;have hz:fO.getD k bA=bA:=by
  unfold fO;rw[List.getD_eq_getElem?_getD,List.getElem?_replicate];split<;>rfl
 rw[if_pos hz]
end
abbrev Ql(v:List br)(l:List (Nat×br)):List br:=Gh v l
theorem Qm(c:List Pt)(l:List (Nat×Pt)):kx c l=Gh c l:=rfl
theorem aB5{o k:Nat}{v:List br}{x:br}:iv o (v.set (4*o+k) x)=(iv o v).set k x:=by
 unfold iv;rw[List.drop_set,if_neg (by omega),List.take_set,show 4*o+k - 4*o=k by omega]
theorem aB6{o i:Nat}{v:List br}{x:br}(h:i / 4≠o):iv o (v.set i x)=iv o v:=by
 unfold iv;rw[List.drop_set];split
 ·rfl
 ·rw[List.take_set,List.set_eq_of_length_le];simp;omega
theorem alZ(o:Nat):∀(l:List (Nat×br)) (v:List br),iv o (Ql v l)=mq (iv o v) (eK l o)
 |[],v=>rfl
 |x::l,v=>by
  show iv o (Ql (v.set x.1 x.2) l)=_;rw[alZ o l];by_cases h:x.1 / 4=o
  ·have e:eK (x::l) o=x::eK l o:=by
    unfold eK
    grind
   rw[e,show x.1=4*o+x.1%4 by omega,aB5];rfl
  ·have e:eK (x::l) o=eK l o:=by
    unfold eK
    grind
   rw[e,aB6 h]
theorem al0:∀(g:List (Nat×br)) (ae:List br),ae.all fI=true->(∀x∈g,fI x.2=true)->(mq ae g).all fI=true
 |[],ae,h,_=>h
 |x::g,ae,h,aF=>al0 g _ (by
   grind) λy ar=>aF y (by simp[ar])
def fU(l:List Pt):Nat:=(l.map λp=>fm p.k).sum
theorem BE(a b:List Pt):fU (a++b)=fU a+fU b:=by simp[fU]
theorem Qn{l:List Pt}{k:Nat}(h:∀p∈l,p.k=k):fU l=l.length*fm k:=by
 induction l with
 |nil=>simp[fU]
 |cons p l bG=>
  have H:=h p (by simp);have I:=bG λx M=>h x (by simp[M]);unfold fU at I⊢
  grind
theorem Ly{l:List Pt}{c:Nat}(h:∀p∈l,fm p.k<=c):fU l<=l.length*c:=by
 induction l with
 |nil=>simp[fU]
 |cons p l bG=>
  have H:=h p (by simp);have I:=bG λx M=>h x (by simp[M]);unfold fU at I⊢;rw[List.map_cons,List.sum_cons,List.length_cons,Nat.succ_mul];omega
structure hp(ay:Type) where
 rd:Src ay
 nw:ay->Pt->List UInt8->ay×Pt×Int
 bM:ay->Pt->ay
 ok:ay->Prop
 bL:ay->Prop
 has:ay->Pt->List UInt8->Prop
 bI:ay->List Pt
 fL:ay->List Pt
 A_:ay->Int->Prop
section
variable{ay:Type}
structure hp.fb(S:hp ay)(s s':ay)(m g:List Pt):Prop where
 ok:S.ok s'
 has:∀p b,S.has s p b->S.has s' p b
 bI:S.bI s'=S.bI s++m
 fL:S.fL s'=S.fL s++g
structure hp.mg(S:hp ay)(s:ay)(B:Nat)(s':ay)(e:Int):Prop where
 ne:e≠0
 A_:S.A_ s' e
 bL:S.bL s'
 bX:fU (S.bI s')<=fU (S.bI s)+B
def Du(p:Pt):Prop:=bN p/\((p.k=3/\(p.l=1\/p.l=2))\/(1<=p.k/\p.k<=5/\p.k≠3/\p.l=0))
def ZJ(p q:Pt):Prop:=q.k=p.k/\q.l=p.l/\q.o=p.o/\q.f=p.f
structure hp.Laws(S:hp ay):Prop where
 bL:∀s,S.ok s->S.bL s
 Y:∀s p b,S.ok s->S.has s p b->bN p/\iX p=true/\b.length=512
 rd:∀s p b,S.ok s->S.has s p b->(S.fb s (S.rd s p).1 [] []/\(S.rd s p).2=(b,0))\/S.mg s 0 (S.rd s p).1 (S.rd s p).2.2
 bM:∀s p b,S.ok s->S.has s p b->S.fb s (S.bM s p) [] [p]
 ZM:∀s,S.ok s->S.fb s (S.bM s ad) [] []
 nw:∀s p b,S.ok s->Du p->b.length=512->(∃q,S.nw s p b=((S.nw s p b).1,q,0)/\S.fb s (S.nw s p b).1 [q] []/\S.has (S.nw s p b).1 q b/\ZJ p q/\∀c,¬S.has s q c)\/S.mg s (fm p.k) (S.nw s p b).1 (S.nw s p b).2.2
abbrev hp.sK(S:hp ay)(s:ay)(B:Nat){ct:Type}(J:ay×ct×Int):Prop:=S.mg s B J.1 J.2.2
variable{S:hp ay}{s bt cw:ay}{m g gv cB fl cb:List Pt}
theorem hp.fb.refl(h:S.ok s):S.fb s s [] []:=⟨h,λ_ _ h=>h,by simp,by simp⟩
theorem hp.fb.trans(h:S.fb s bt gv cB)(k:S.fb bt cw fl cb):S.fb s cw (gv++fl) (cB++cb):=⟨k.ok,λp b e=>k.has p b (h.has p b e),by rw[k.bI,h.bI,List.append_assoc],by rw[k.fL,h.fL,List.append_assoc]⟩
theorem hp.mg.mono{B Mo:Nat}{e:Int}(h:S.mg s B bt e)(V:B<=Mo):S.mg s Mo bt e:=⟨h.ne,h.A_,h.bL,by have:=h.bX;omega⟩
theorem hp.mg.after{B:Nat}{e:Int}(x:S.fb s bt m g)(h:S.mg bt B cw e):S.mg s (fU m+B) cw e:=⟨h.ne,h.A_,h.bL,by have:=h.bX;rw[x.bI,BE]at this;omega⟩
theorem hp.mg.yr{B:Nat}{e:Int}(x:S.fb s bt [] g)(h:S.mg bt B cw e):S.mg s B cw e:=(h.after x).mono (by simp[fU])
structure pE(has:Pt->List UInt8->Prop)(p:Pt)(n:List Pt):Prop where
 ez:hE n
 all:n.all fy=true
 dn:(p=ad/\n=dY)\/(p≠ad/\n≠dY/\has p (lS n)/\p.k=3)
section
variable{has ot:Pt->List UInt8->Prop}{p q bu:Pt}{n top h:List Pt}
theorem pE.z:pE has ad dY:=⟨pL,by decide,.inl ⟨rfl,rfl⟩⟩
theorem pE.iff(h:pE has p n):p=ad↔n=dY:=by
 rcases h.dn with⟨H,I⟩|⟨H,I,_⟩
 ·grind
 grind
theorem pE.mono(h:pE has p n)(aH:∀q b,has q b->ot q b):pE ot p n:=⟨h.ez,h.all,h.dn.imp id λ⟨a,b,c,d⟩=>⟨a,b,aH _ _ c,d⟩⟩
structure hy(has:Pt->List UInt8->Prop)(bu:Pt)(top h:List Pt):Prop where
 ho:pE has bu top
 BJ:r' bu=true
 cq:∀g,g<8->pE has (top.getD g ad) (it g h)
 al:h.length=64
theorem hy.mono(t:hy has bu top h)(aH:∀q b,has q b->ot q b):hy ot bu top h:=⟨t.ho.mono aH,t.BJ,λg aF=>(t.cq g aF).mono aH,t.al⟩
theorem hy.z:hy has ad dY (List.replicate 64 ad):=by
 refine⟨pE.z,by decide,λg aF=> ?_,List.length_replicate⟩;have e:it g (List.replicate 64 ad)=dY:=by
  unfold it dY
  grind
 rw[DE,e];exact pE.z
end
variable{bu p:Pt}{top h n:List Pt}{off:Nat}
theorem pE.vo(ae:S.Laws)(aB:S.ok s)(J:pE (S.has s) p n):(S.fb s (cv S.rd s p).1 [] []/\(cv S.rd s p).2=(n,0))\/((cv S.rd s p).2.1=dY/\S.sK s 0 (cv S.rd s p)):=by
 unfold cv;rcases J.dn with⟨rfl,rfl⟩|⟨H,I,af,_⟩
 ·exact .inl ⟨by simpa using hp.fb.refl aB,by simp⟩
 ·rw[if_neg H];rcases ae.rd s p _ aB af with⟨aK,aW⟩|aK
  ·have cW:(S.rd s p).2.2=0:=by rw[aW]
   have fD:(S.rd s p).2.1=lS n:=by rw[aW]
   rw[if_neg (by rw[cW];simp),fD,aes J.ez J.all,if_neg (by simp)];exact .inl ⟨aK,rfl⟩
  ·rw[if_pos aK.ne];exact .inr ⟨rfl,aK⟩
theorem hy.get(ae:S.Laws)(aB:S.ok s)(t:hy (S.has s) bu top h)(lg:off<64):(S.fb s (dl S.rd s bu off).1 [] []/\(dl S.rd s bu off).2=(h.getD off ad,0))\/((dl S.rd s bu off).2.1=ad/\S.sK s 0 (dl S.rd s bu off)):=by
 unfold dl;rw[t.BJ,decide_eq_true lg];simp only[Bool.and_self,if_true];unfold oZ;rcases t.ho.vo ae aB with⟨aK,aW⟩|⟨_,aK⟩
 ·rw[if_neg (by rw[aW];simp),aW];simp only[if_true];unfold oZ;rcases((t.cq (off / 8) (by omega)).mono aK.has).vo ae aK.ok with⟨a_,bh⟩|⟨_,a_⟩
  ·rw[if_neg (by rw[bh];simp),bh];unfold oZ;refine .inl ⟨by simpa using aK.trans a_,?_⟩;simp only[show¬(0=1)by decide,if_false];rw[Ih (by omega),show 8*(off / 8)+off%8=off by omega]
  ·rw[if_pos a_.ne];exact .inr ⟨rfl,a_.yr aK⟩
 ·rw[if_pos aK.ne];exact .inr ⟨rfl,aK⟩
theorem hy.kw(ae:S.Laws)(t:hy (S.has s) bu top h):∀(l:List Nat),(∀g∈l,g<8)->∀(bt:ay) (df:List (Nat×Pt)) (ce:List Pt),S.fb s bt [] []->
  (S.fb s (kw S.rd top l bt df ce).1 [] []/\(kw S.rd top l bt df ce).2=(df++l.flatMap (λg=>qS g (it g h)),ce++(l.map λg=>top.getD g ad).filter (λp=>decide (p≠ad)),0))\/S.mg s 0 (kw S.rd top l bt df ce).1 (kw S.rd top l bt df ce).2.2.2
 |[],_,bt,df,ce,M=>.inl ⟨by unfold Go.Proofs.YtoohkhcpboldjaaGreatDoor.kw;exact M,by unfold Go.Proofs.YtoohkhcpboldjaaGreatDoor.kw;simp⟩
 |g::l,al,bt,df,ce,M=>by
  have aF:=al g (by simp);have zZ:=t.cq g aF;unfold Go.Proofs.YtoohkhcpboldjaaGreatDoor.kw;by_cases ah:top.getD g ad=ad
  ·rw[if_pos ah];have cR:it g h=dY:=zZ.iff.1 ah;have aK:qS g dY=[]:=by
    unfold qS;rw[List.filterMap_eq_nil_iff];intro k _;rw[DE,if_pos rfl]
   have:=hy.kw ae t l (λx M=>al x (by simp[M])) bt df ce M
   grind
  ·rw[if_neg ah];rcases(zZ.mono M.has).vo ae M.ok with⟨a_,bh⟩|⟨_,a_⟩
   ·have cN:(cv S.rd bt (top.getD g ad)).2.2=0:=by rw[bh]
    have f6:(cv S.rd bt (top.getD g ad)).2.1=it g h:=by rw[bh]
    rw[if_neg (by rw[cN];simp),f6];have:=hy.kw ae t l (λx M=>al x (by simp[M])) (cv S.rd bt (top.getD g ad)).1 (df++qS g (it g h)) (ce++[top.getD g ad]) (M.trans a_)
    grind
   ·rw[if_pos a_.ne];exact .inr (a_.yr M)
theorem hy.all(ae:S.Laws)(aB:S.ok s)(t:hy (S.has s) bu top h):(S.fb s (gU S.rd s bu).1 [] []/\(gU S.rd s bu).2=(nQ h 64,pD bu top,0))\/(∃s' e,gU S.rd s bu=(s',[],[],e)/\S.mg s 0 s' e):=by
 unfold gU;rw[t.BJ];simp only[if_true];have key:(S.fb s (jP S.rd s bu).1 [] []/\(jP S.rd s bu).2=(nQ h 64,pD bu top,0))\/S.mg s 0 (jP S.rd s bu).1 (jP S.rd s bu).2.2.2:=by
  unfold jP pD;by_cases ap:bu=ad
  ·have bd:=t.ho.iff.1 ap;rw[if_pos ap,if_pos ap,aaP];have cR:(List.range 8).flatMap (λg=>qS g (it g h))=[]:=by
    rw[List.flatMap_eq_nil_iff];intro g aF;have zZ:=t.cq g (List.mem_range.1 aF);rw[bd,DE]at zZ;rw[zZ.iff.1 rfl];unfold qS;rw[List.filterMap_eq_nil_iff];intro k _;rw[DE,if_pos rfl]
   rw[cR];exact .inl ⟨hp.fb.refl aB,rfl⟩
  ·rw[if_neg ap,if_neg ap];rcases t.ho.vo ae aB with⟨a_,bh⟩|⟨_,a_⟩
   ·have cN:(cv S.rd s bu).2.2=0:=by rw[bh]
    have f6:(cv S.rd s bu).2.1=top:=by rw[bh]
    rw[if_neg (by rw[cN];simp),f6];have:=t.kw ae (List.range 8) (λg aF=>List.mem_range.1 aF) (cv S.rd s bu).1 [] [bu] a_;rw[aaP];have aK:(List.range 8).map (λg=>top.getD g ad)=top:=(TC t.ho.ez.len).symm
    grind
   ·rw[if_pos a_.ne];exact .inr a_
 rcases key with⟨a',aX⟩|a'
 ·grind
 ·rw[if_pos a'.ne]
  grind
end
end Go.Proofs.YtoohkhcpboldjaaGreatDoor
