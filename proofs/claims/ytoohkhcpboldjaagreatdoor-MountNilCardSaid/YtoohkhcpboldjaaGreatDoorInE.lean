/- What inode's Take answers, as a contract on the call. Conditions: the variable ptr.wide holds what the text lays; sizes. -/
import Derived.Test.YtoohkhcpboldjaaGreatDoorBsl
set_option linter.unusedSimpArgs false
set_option linter.unusedVariables false
namespace Go.Proofs.YtoohkhcpboldjaaGreatDoor
open Go.RowKit Go.Kin
def lS(ps:List Pt):List UInt8:=ps.flatMap jq
theorem RP:∀(ps:List Pt),(∀p∈ps,bN p)->(lS ps).length=64*ps.length
 |[],_=>rfl
 |p::ps,h=>by
  have:=RP ps λq aq=>h q (by simp[aq]);have ah:=Ax (h p (by simp));simp only[lS,List.flatMap_cons,List.length_append,List.length_cons]at*;rw[this,ah];omega
theorem RF{p:Pt}:fy p=true↔p=ad\/iX p=true:=by simp[fy]
def ap3(ps:List Pt)(w:World)(W:Value)(w':World):Prop:=
 (ps.all fy=true/\∃s,W=.tuple #[s,.int .i64 0]/\nf 5 w s 512 (bm (lS ps)) w')\/(ps.all fy=false/\W=.tuple #[.slice none 0 0,.int .i64 5]/\D ak w w')
theorem ap4(ps:List Pt)(w:World)(ok:hE ps)(bH:lN w):aP Tryz.prog 244 #[.agg (bZ ps)] w (ap3 ps w):=by
 refine bn Tryz.func244 Tryz.ntmps244 λaZ Z=> ?_;have cL:=kh ok;have fq:=qp ok;have T:=(D.refl ak w).alloc (.cells (bZ ps) 339);simp[go_sem,cL,fq];revert T;generalize w.alloc (.cells (bZ ps) 339)=ab;intro T;refine du (λJ f bE=>∃k,k<=8/\J=8 - k/\f 7=.agg (bZ ps)/\f 8=.int .i64 k/\(ps.take k).all fy=true/\nf 5 w (f 4) (64*k) (bm (lS (ps.take k))) bE) 8
  ⟨0,by omega,rfl,by simp,by simp,by simp,by simpa[lS,bm]using nf.nil _ T⟩ ?_
 rintro cJ bK _ f bE ⟨k,r,rfl,eD,eb,am,aH⟩;by_cases AU:k<8
 ·have ea:(k:Int)<8:=by omega
  obtain⟨p,ah,ji⟩:=ok.dn AU;have pT:=Wz ok AU ah;have gE:=bW ji;have xj:=dW ji;have gI:=λw=>sO w ji cE;have eo:IntKind.i64.wrap ((k:Int)+1)=((k+1:Nat):Int):=by simp[IntKind.wrap_i64];omega
  have jh:ps.take (k+1)=ps.take k++[p]:=by rw[List.take_add_one,ah];rfl
  have kH:=aH.step ((D.refl ak bE).alloc (.cells (Y p) 44));have db:=cl bE (.cells (Y p) 44);have t':(lS (ps.take k)).length=64*k:=by
   rw[RP _ λq aq=>ok.all q (List.mem_of_mem_take aq),List.length_take,ok.len,Nat.min_eq_left r]
  have bL:∀ai,nf 5 w (f 4) (64*k) (bm (lS (ps.take k))) ai->fy p=true->aP Tryz.prog 185 #[f 4,.agg (Y p)] ai λv3 aC=>nf 5 w v3 (64*(k+1)) (bm (lS (ps.take (k+1)))) aC:=λai I _=>by
   refine(Rv (f 4) (64*k) (lS (ps.take k)) p ai ji (by omega) t' I.own).mono ?_;intro v3 aC q;have:=I.grow q.1 q.2.1 q.2.2;rw[jh];simpa[lS,Nat.mul_add]using this
  by_cases hz:p=ad
  ·subst hz;simp[go_sem,eD,eb,ea,pT,gm,gn,bW cE,gE,xj,bQ,oz,gI];revert kH db;generalize bE.alloc (.cells (Y ad) 44)=ai;intro kH db;refine(bL ai kH (by simp[fy])).mono ?_;intro v3 aC v';simp[go_sem,eD,eb,eo];refine cH.intro (8 -(k+1)) (by omega) (bK _ _ _ ⟨k+1,by omega,rfl,by simp[eD],by simp,?_,by simpa using v'⟩);rw[jh,List.all_append,am];simp[fy]
  ·simp[go_sem,eD,eb,ea,pT,gm,gn,bW cE,gE,xj,bQ,oz,gI,hz];revert kH db;generalize bE.alloc (.cells (Y p) 44)=ai;generalize bE.1.size=g;intro kH db;refine(AB p ai ji (bH.ch kH.ch id)).mono ?_;rintro _ aC ⟨rfl,aE⟩;have sb:=kH.step aE;have dk:=aE.ah db id
   cases oc:iX p
   ·simp[go_sem];refine Z _ _ (.inr ⟨?_,rfl,sb.ch⟩);rw[List.all_eq_false];exact⟨p,List.mem_of_getElem? ah,by simp[fy,hz,oc]⟩
   ·simp[go_sem,dk,gE,xj];refine(bL aC sb (by simp[fy,oc])).mono ?_;intro v3 be v';simp[go_sem,eD,eb,eo];refine cH.intro (8 -(k+1)) (by omega) (bK _ _ _ ⟨k+1,by omega,rfl,by simp[eD],by simp,?_,by simpa using v'⟩);rw[jh,List.all_append,am];simp[fy,oc]
 ·obtain rfl:k=8:=by omega
  rw[List.take_of_length_le (by rw[ok.len];omega)]at am aH;simp[go_sem,eb];exact Z _ _ (.inl ⟨am,_,rfl,aH⟩)
def iA:Nat->List UInt8->Int->List Pt×List UInt8×Int
 |0,l,e=>([],l,e)
 |n+1,l,e=>((iA n l e).1++[(oy (iA n l e).2.1 (iA n l e).2.2).1],(oy (iA n l e).2.1 (iA n l e).2.2).2)
theorem JB(l:List UInt8)(e:Int)(n:Nat):(cQ l e n).2.1.length<=l.length:=by
 unfold cQ
 grind
theorem Xv(l:List UInt8)(e:Int):(oy l e).2.1.length<=l.length:=by
 have:=JB l e 64;unfold oy
 grind
theorem JC(l:List UInt8)(e:Int):bN (oy l e).1:=by
 unfold oy;split
 ·exact cE
 ·split
  ·refine adI ?_;have:=JD l e 64;omega
  ·exact cE
theorem ap5(n:Nat)(l:List UInt8)(e:Int):(iA n l e).2.1.length<=l.length:=by
 induction n with
 |zero=>exact Nat.le_refl _
 |succ n bG=>exact Nat.le_trans (Xv _ _) bG
theorem RG(n:Nat)(l:List UInt8)(e:Int):(iA n l e).1.length=n:=by
 induction n with
 |zero=>rfl
 |succ n bG=>simp[iA,bG]
theorem aeu(n:Nat)(l:List UInt8)(e:Int):∀p∈(iA n l e).1,bN p:=by
 induction n with
 |zero=>simp[iA]
 |succ n bG=>
  intro p ah;simp only[iA,List.mem_append,List.mem_singleton]at ah;rcases ah with ah|rfl
  ·exact bG p ah
  ·exact JC _ _
def sT(l:List UInt8):List Pt×Int:=if(rf (iA 8 l 0).2.1 (iA 8 l 0).2.2).2=0 then((iA 8 l 0).1,0)else(dY,5)
structure JE(w0 w:World)(eQ gS cq o:Nat)(l:List UInt8)(k:Nat):Prop where
 cell:w.1[eQ]? =some (.cells #[.pointer (some ⟨cq,0,none⟩)] 250 (0,0))
 u_:gH w cq o (iA k l 0).2.1 (iA k l 0).2.2
 aG9:w.1[gS]? =some (.cells (bZ ((iA k l 0).1++List.replicate (8 - k) ad)) 339 (0,0))
 ch:D (λj=>j=cq\/j=gS) w0 w
theorem aeX(k:Nat)(r:k<=8)(l:List UInt8):hE ((iA k l 0).1++List.replicate (8 - k) ad):=⟨by simp[RG];omega,λp ah=>by
 rcases List.mem_append.1 ah with h|h
 ·exact aeu _ _ _ p h
 ·rw[(List.mem_replicate.1 h).2];exact cE⟩
theorem ap6(w0 w:World)(eQ gS cq o:Nat)(l:List UInt8)(k:Nat)(r:k<8)(al:l.length<=1000000)(bH:lN w)(H:eQ≠gS)(I:eQ≠cq)(af:cq≠gS)(aU:o≠gS)(bC:cq≠0)(aB:o<w.1.size)(h:JE w0 w eQ gS cq o l k):
  aP Tryz.prog 256 #[.pointer (some ⟨gS,k*41,none⟩),.pointer (some ⟨eQ,0,none⟩)] w λW w'=>W=.tuple #[]/\JE w0 w' eQ gS cq o l (k+1):=by
 obtain⟨T,ap,av,yX⟩:=h;have cW:=λi=>aG T i;refine bn Tryz.func256 Tryz.ntmps256 λaZ Z=> ?_;simp[go_sem,cW];have xv:=ap5 k l 0;refine(Wc cq o _ _ w (by omega) bH bC ap aB).mono ?_;rintro _ ai ⟨rfl,vK,aA⟩;have ki:=aA.ah T (by simp only[only];omega);have JF:=aA.ah av (by simp only[only];omega);have nD:=aeX k (by omega) l;have ji:=JC (iA k l 0).2.1 (iA k l 0).2.2;have ia:=ad' nD r ji;simp[go_sem,JF,kh nD,bW ji,ia,show k*41+41<=328 by omega];have aE:=(D.refl (only gS) ai).setRow (g:=gS) (.inl rfl) (bZ (((iA k l 0).1++List.replicate (8 - k) ad).set k (oy (iA k l 0).2.1 (iA k l 0).2.2).1));refine Z _ _ ⟨rfl,?_,?_,?_,?_⟩
 ·simp_all
 ·exact vK.ch aE (by simp only[only];omega) (by simp only[only];omega)
 ·rw[gk,JF];simp only[ap7];congr 3;rw[List.set_append_right _ _ (by rw[RG];omega),RG,Nat.sub_self,show 8 - k=(8 -(k+1))+1 by omega,List.replicate_succ,List.set_cons_zero];simp[iA]
 ·exact(yX.trans (aA.mono λj _ e=>.inl e)).setRow (.inl (.inr rfl)) _
theorem ap8(w:World)(eQ gS cq o:Nat)(l:List UInt8)(al:l.length<=1000000)(bH:lN w)(H:eQ≠gS)(I:eQ≠cq)(af:cq≠gS)(aU:o≠gS)(bC:cq≠0)(cG:gS≠0)(aB:o<w.1.size)(h:JE w w eQ gS cq o l 0):
  aP Tryz.prog 255 #[.func (.func 256) #[] #[.pointer (some ⟨eQ,0,none⟩)],.pointer (some ⟨gS,0,none⟩)] w λW w'=>W=.tuple #[]/\JE w w' eQ gS cq o l 8:=by
 refine bn Tryz.func255 Tryz.ntmps255 λaZ Z=> ?_;simp[go_sem];refine du (λJ f bE=>∃k,k<=8/\J=8 - k/\f 0=.func (.func 256) #[] #[.pointer (some ⟨eQ,0,none⟩)]/\f 1=.pointer (some ⟨gS,0,none⟩)/\f 4=.int .i64 k/\JE w bE eQ gS cq o l k) 8
  ⟨0,by omega,rfl,by simp,by simp,by simp,h⟩ ?_
 rintro cJ bK _ f bE ⟨k,r,rfl,cR,aK,cW,aH⟩;by_cases AU:k<8
 ·have ea:(k:Int)<8:=by omega
  have eo:IntKind.i64.wrap ((k:Int)+1)=((k+1:Nat):Int):=by simp[IntKind.wrap_i64];omega
  simp[go_sem,cR,aK,cW,ea];have n':∀(a:List Value) (w:World),(callFunc 256 a.toArray).run Tryz.prog w=.ok (.enter 256 a.toArray) w:=λa w=>by simp[go_sem]
  rw[EK _ _ _ _ [.pointer (some ⟨eQ,0,none⟩)] _ (n' _ _)];refine(ap6 w bE eQ gS cq o l k AU al (bH.ch aH.ch (by omega)) H I af aU bC (Nat.lt_of_lt_of_le aB aH.ch.size) aH).mono ?_;rintro _ ai ⟨rfl,sb⟩;simp[go_sem,cW,eo];exact cH.intro (8 -(k+1)) (by omega) (bK _ _ _ ⟨k+1,by omega,rfl,by simp[cR],by simp[aK],by simp,sb⟩)
 ·obtain rfl:k=8:=by omega
  simp[go_sem,cW];exact Z _ _ ⟨rfl,aH⟩
theorem apd(v:Value)(l:List UInt8)(w:World)(al:l.length<=1000000)(aw:bD w v l.length (bm l))(bH:lN w):
  aP Tryz.prog 234 #[v] w λW w'=>W=.tuple #[.agg (bZ (sT l).1),.int .i64 (sT l).2]/\D ak w w':=by
 refine bn Tryz.func234 Tryz.ntmps234 λaZ Z=> ?_;simp[go_sem,rW,rX];have aI:=(D.refl ak w).alloc (.cells (bZ dY) 339);have ba:=cl w (.cells (bZ dY) 339);have eG:=bH.lt;revert aI ba;generalize w.alloc (.cells (bZ dY) 339)=ab;generalize aq:w.1.size=q;intro aI ba;refine(Mc v l ab (by omega) (aw.ch aI λ_ _ e=>e)).mono ?_;rintro _ ai ⟨cq,o,rfl,a',QX,Jd,aX,bq⟩;have rm:=lt_of_block ba;have ba:=bq.ah ba id;simp[go_sem,rW,rX];have aE:=((D.refl ak ai).alloc (.cells #[.pointer (some ⟨cq,0,none⟩)] 250)).alloc (.cells (bZ dY) 339);have ci:=oa ai (.cells #[.pointer (some ⟨cq,0,none⟩)] 250) (.cells (bZ dY) 339);have dj:=ny ai (.cells #[.pointer (some ⟨cq,0,none⟩)] 250) (.cells (bZ dY) 339);have zg:=aX.lt;revert aE ci dj;generalize(ai.alloc (.cells #[.pointer (some ⟨cq,0,none⟩)] 250)).alloc (.cells (bZ dY) 339)=aC;generalize GZ:ai.1.size=eQ at*;intro aE ci dj;have ua:=aI.size;have AV:=bq.size;have ba:=aE.ah ba id;have n':∀(a:List Value) (w:World),(callFunc 255 a.toArray).run Tryz.prog w=.ok (.enter 255 a.toArray) w:=λa w=>by simp[go_sem]
 rw[EK _ _ _ _ [.pointer (some ⟨eQ+1,0,none⟩)] _ (n' _ _)];have hk:lN aC:=((bH.ch aI id).ch bq id).ch aE id;have Xw:eQ+1<aC.1.size:=lt_of_block dj;have Mq:JE aC aC eQ (eQ+1) cq o l 0:=⟨ci,aX.ch aE id id,by simpa[iA,dY]using dj,D.refl _ _⟩;refine(ap8 aC eQ (eQ+1) cq o l al hk (by omega) (by omega) (by omega) (by omega) (by omega) (by omega) (by omega) Mq).mono ?_;rintro _ be ⟨rfl,gv,fl,iN,ix⟩;have cW:=λi=>aG gv i;simp[go_sem,cW];refine(Rf cq _ _ be fl).mono ?_;rintro _ bw ⟨rfl,tJ,bx⟩;have ba:=bx.ah (ix.ah ba (by omega)) (by simp only[only];omega);have dj:=bx.ah iN (by simp only[only];omega);have lx:=aeX 8 (Nat.le_refl _) l;have jK:bZ ((iA 8 l 0).1++List.replicate (8 - 8) ad)=bZ (iA 8 l 0).1:=by simp
 rw[jK]at dj;have lx:hE (iA 8 l 0).1:=by simpa using lx
 have fK:D ak w bw:=((aI.trans bq).trans aE).bJ ix (λj F e=>by omega)|>.bJ bx λj F e=>by simp only[only]at e;omega
 by_cases aV:(rf (iA 8 l 0).2.1 (iA 8 l 0).2.2).2=0
 ·have lu:sT l=((iA 8 l 0).1,0):=by unfold sT;rw[if_pos aV]
  have gx:(bw.setRow q (bZ (iA 8 l 0).1)).1[q]? =some (.cells (bZ (iA 8 l 0).1) 339 (0,0)):=by rw[gk,ba];rfl
  simp[go_sem,aV,ba,dj,kh lx,kh pL,qp lx,bQ,gx];exact Z _ _ ⟨by rw[lu],fK.setRow (.inr (by omega)) _⟩
 ·have lu:sT l=(dY,5):=by unfold sT;rw[if_neg aV]
  have wa:((rf (iA 8 l 0).2.1 (iA 8 l 0).2.2).2 !=0)=true:=by simpa using aV
  have gx:(bw.setRow q (bZ dY)).1[q]? =some (.cells (bZ dY) 339 (0,0)):=by rw[gk,ba];rfl
  simp[go_sem,wa,ba,Ms,kh pL,qp pL,bQ,gx];exact Z _ _ ⟨by rw[lu],fK.setRow (.inr (by omega)) _⟩
def rj(l:List UInt8)(e:Int):=cQ l e 1
def bY(l:List UInt8)(e:Int):=tK (rj l e).2.1 (rj l e).2.2 1
def tX(l:List UInt8)(e:Int):=cQ (bY l e).1 (bY l e).2 2
def yS(l:List UInt8)(e:Int):=cQ (tX l e).2.1 (tX l e).2.2 4
def uW(l:List UInt8)(e:Int):=oy (yS l e).2.1 (yS l e).2.2
def Jv(l:List UInt8)(e:Int):=tK (uW l e).2.1 (uW l e).2.2 (128 -(l.length:Int)+(uW l e).2.1.length).toNat
def Ey(l:List UInt8)(e:Int):br×List UInt8×Int:=(⟨dQ (rj l e).1,dQ (tX l e).1,dQ (yS l e).1,(uW l e).1⟩,Jv l e)
theorem ap9(l:List UInt8)(cR e:Int):(mU l cR e).1.length<=l.length:=by unfold mU;split<;>simp
theorem aeY(l:List UInt8)(e:Int)(n:Nat):(tK l e n).1.length<=l.length:=by
 have H:=JB l e n;have I:=ap9 (cQ l e n).2.1 (cQ l e n).2.2 5;unfold tK
 grind
theorem aeZ(l:List UInt8)(e:Int):(rj l e).2.1.length<=l.length:=JB _ _ _
theorem ae0(l:List UInt8)(e:Int):(bY l e).1.length<=l.length:=Nat.le_trans (aeY _ _ _) (aeZ l e)
theorem ae1(l:List UInt8)(e:Int):(tX l e).2.1.length<=l.length:=Nat.le_trans (JB _ _ _) (ae0 l e)
theorem ae2(l:List UInt8)(e:Int):(yS l e).2.1.length<=l.length:=Nat.le_trans (JB _ _ _) (ae1 l e)
theorem ae3(l:List UInt8)(e:Int):(uW l e).2.1.length<=l.length:=Nat.le_trans (Xv _ _) (ae2 l e)
theorem ap_(l:List UInt8)(e:Int):(Jv l e).1.length<=l.length:=Nat.le_trans (aeY _ _ _) (ae3 l e)
theorem EL(l:List UInt8)(e:Int)(n:Nat):dQ (cQ l e n).1<256^n:=
 Nat.lt_of_lt_of_le (Cj _) (Nat.pow_le_pow_right (by decide) (JD l e n))
theorem ap'(l:List UInt8)(e:Int):gR (Ey l e).1:=⟨by have:=EL l e 1;simpa[Ey,rj]using this,EL _ _ 2,EL _ _ 4,JC _ _⟩
def jY:Nat->List UInt8->Int->List br×List UInt8×Int
 |0,l,e=>([],l,e)
 |n+1,l,e=>((jY n l e).1++[(Ey (jY n l e).2.1 (jY n l e).2.2).1],(Ey (jY n l e).2.1 (jY n l e).2.2).2)
theorem aqa(n:Nat)(l:List UInt8)(e:Int):(jY n l e).2.1.length<=l.length:=by
 induction n with
 |zero=>exact Nat.le_refl _
 |succ n bG=>exact Nat.le_trans (ap_ _ _) bG
theorem GS(n:Nat)(l:List UInt8)(e:Int):(jY n l e).1.length=n:=by
 induction n with
 |zero=>rfl
 |succ n bG=>simp[jY,bG]
theorem WX(n:Nat)(l:List UInt8)(e:Int):∀p∈(jY n l e).1,gR p:=by
 induction n with
 |zero=>simp[jY]
 |succ n bG=>
  intro p ah;simp only[jY,List.mem_append,List.mem_singleton]at ah;rcases ah with ah|rfl
  ·exact bG p ah
  ·exact ap' _ _
def qw(l:List UInt8):List br×Int:=if(rf (jY 4 l 0).2.1 (jY 4 l 0).2.2).2=0/\(jY 4 l 0).1.all fI=true then((jY 4 l 0).1,0)else(fO,5)
def od(k:Nat)(l:List UInt8):List br:=(jY k l 0).1++List.replicate (4 - k) bA
theorem aqb(k:Nat)(r:k<=4)(l:List UInt8):kW (od k l):=⟨by simp[od,GS];omega,λp ah=>by
 rcases List.mem_append.1 ah with h|h
 ·exact WX _ _ _ p h
 ·rw[(List.mem_replicate.1 h).2];exact ls⟩
theorem aqc{k:Nat}(r:k<4)(l:List UInt8):(od k l)[k]? =some bA:=by
 unfold od;rw[List.getElem?_append_right (by rw[GS];omega),GS,List.getElem?_replicate,if_pos (by omega)]
theorem aqd{k:Nat}(r:k<4)(l:List UInt8):(od k l).set k (Ey (jY k l 0).2.1 (jY k l 0).2.2).1=od (k+1) l:=by
 unfold od;rw[List.set_append_right _ _ (by rw[GS];omega),GS,Nat.sub_self,show 4 - k=(4 -(k+1))+1 by omega,List.replicate_succ,List.set_cons_zero];simp[jY]
section
variable{xs:List br}{k:Nat}{x:br}
theorem aqe(h:kW xs)(r:xs[k]? =some x)(v:Nat):(dc xs).setIfInBounds (k*44) (.int .u8 v)=dc (xs.set k {x with k:=v}):=by
 have:=Mr (i:=0) h.jG r (by decide) (aoK v);rwa[Nat.add_zero]at this
theorem aqf(h:kW xs)(r:xs[k]? =some x)(v:Nat):(dc xs).setIfInBounds (k*44+1) (.int .u16 v)=dc (xs.set k {x with n:=v}):=Mr h.jG r (by decide) (aoL v)
theorem aqg(h:kW xs)(r:xs[k]? =some x)(v:Nat):(dc xs).setIfInBounds (k*44+2) (.int .u32 v)=dc (xs.set k {x with s:=v}):=Mr h.jG r (by decide) (aoM v)
theorem aqh(h:kW xs)(r:xs[k]? =some x){q:Pt}(kV:bN q):d' (dc xs) (k*44+3) (Y q)=dc (xs.set k {x with J:=q}):=by
 have dh:=h.all x (List.mem_of_getElem? r);exact aoG h.jG r (by rw[bW kV];decide) (aed dh kV) (jr ⟨dh.k,dh.n,dh.s,kV⟩)
theorem Xx(h:kW xs)(r:xs[k]? =some x){i:Nat}{u:Value}(an:(bk x)[i]? =some u):(dc xs)[k*44+i]? =some u:=Jo h.jG r an
end
theorem aqi(v:Value)(l:List UInt8)(w:World)(al:l.length<=1000000)(aw:bD w v l.length (bm l))(bH:lN w):
  aP Tryz.prog 147 #[v] w λW w'=>W=.tuple #[.agg (dc (qw l).1),.int .i64 (qw l).2]/\D ak w w':=by
 refine bn Tryz.func147 Tryz.ntmps147 λaZ Z=> ?_;simp[go_sem,yG,yH];have aI:=((D.refl ak w).alloc (.cells (dc fO) 279)).alloc (.cells (dc fO) 279);have cC:=oa w (.cells (dc fO) 279) (.cells (dc fO) 279);have ci:=ny w (.cells (dc fO) 279) (.cells (dc fO) 279);have eG:=bH.lt;revert aI cC ci;generalize(w.alloc (.cells (dc fO) 279)).alloc (.cells (dc fO) 279)=ab;generalize aq:w.1.size=q;intro aI cC ci;have GZ:=lt_of_block ci;refine(Mc v l ab (by omega) (aw.ch aI λ_ _ e=>e)).mono ?_;rintro _ ai ⟨cq,o,rfl,a',QX,Jd,aX,bq⟩;have cC:=bq.ah cC id;have ci:=bq.ah ci id;have hd:lN ai:=(bH.ch aI id).ch bq id;have AV:=bq.size;have zg:=aX.lt;simp[go_sem];refine du (λJ f bE=>∃k,k<=4/\J=4 - k/\f 2=.pointer (some ⟨q,0,none⟩)/\f 4=.pointer (some ⟨q+1,0,none⟩)/\f 5=.pointer (some ⟨cq,0,none⟩)/\f 12=.int .i64 k/\
  gH bE cq o (jY k l 0).2.1 (jY k l 0).2.2/\bE.1[q+1]? =some (.cells (dc (od k l)) 279 (0,0))/\D (λj=>j=cq\/j=q+1) ai bE) 4
  ⟨0,by omega,rfl,by simp,by simp,by simp,by simp,by simpa[jY]using aX,by simpa[od,jY,fO]using ci,D.refl _ _⟩ ?_
 rintro cJ bK _ f bE ⟨k,r,rfl,bh,cr,cN,dA,ap,V,T⟩;have iM:=aqa k l 0;generalize bT:(jY k l 0).2.1=ae at*;generalize he:(jY k l 0).2.2=E at*;by_cases fs:k<4
 ·have ea:(k:Int)<4:=by omega
  have eo:IntKind.i64.wrap ((k:Int)+1)=((k+1:Nat):Int):=by simp[IntKind.wrap_i64];omega
  simp[go_sem,cN,dA,ea];refine(Mi cq ae E bE ap).mono ?_;rintro _ rn ⟨rfl,bf⟩;rw[bf];simp[go_sem,cN];refine(Wd cq ae E bE (by omega) ap).mono ?_;rintro _ fz ⟨rfl,mT,cK⟩;have zh:=aqb k r l;have pU:=aqc fs l;have Xy:=sR zh;have gv:=cK.ah V (by simp only[only];omega);have yY:k*44+44<=176:=by omega
  have aqj:(dc (od k l))[k*44]? =some (.int .u8 (0:Nat)):=by
   have:=Xx zh pU (i:=0) Rn;rwa[Nat.add_zero]at this
  have aK:=(aG gv (k*44)).trans aqj;have oM:=λi=>dD gv i;generalize eS:dQ (rj ae E).1=ng;rw[show dQ (cQ ae E 1).1=ng from eS];have Xz:ng<256:=by rw[<-eS];have:=EL ae E 1;simpa[rj]using this
  have aqk:gR {bA with k:=ng}:=⟨Xz,by show(0:Nat)<65536;decide,by show(0:Nat)<4294967296;decide,cE⟩;simp[go_sem,cr,cN,ea,aK,oM];have ae4:=(D.refl (only (q+1)) fz).setCell (p:=⟨q+1,k*44,none⟩) (.inl rfl) (.int .u8 ng);have mT:=mT.ch ae4 (by simp only[only];omega) (by simp only[only];omega);have fl:(fz.setCell ⟨q+1,k*44,none⟩ (.int .u8 ng)).1[q+1]? =some (.cells (dc ((od k l).set k {bA with k:=ng})) 279 (0,0)):=by
   rw[eY,gv,gp,aqe zh pU]
  have T:=(T.trans (cK.mono λj _ e=>.inl e)).setCell (p:=⟨q+1,k*44,none⟩) (.inl (.inr rfl)) (.int .u8 ng);clear ae4 aK oM;revert mT fl T;generalize fz.setCell ⟨q+1,k*44,none⟩ (.int .u8 ng)=fw;intro mT fl T;have RQ:=zh.set k aqk;have RR:((od k l).set k {bA with k:=ng})[k]? =some {bA with k:=ng}:=List.getElem?_set_self (by rw[zh.len];exact fs);have aG_:=aeZ ae E;refine(Re cq _ _ 1 fw (by decide) (by show(rj ae E).2.1.length<=_;omega) mT).mono ?_;rintro _ io ⟨rfl,vK,hr⟩;have iN:=hr.ah fl (by simp only[only];omega);have T:=T.trans (hr.mono λj _ e=>.inl e);simp[go_sem];refine cD [A 0,A 1,A 2,A 4,(3,some [0,1,4]),A 6,A 7,(5,some [0,1,6,7]),(8,some [1]),A 9,A 10,(11,some [])] ?_;simp[go_sem,cr,cN];have aG':=ae0 ae E;refine(Ra cq (bY ae E).1 (bY ae E).2 io.drew (by omega) (vK.ch ((D.refl ak io).drew) id id)).mono ?_;rintro _ EI ⟨rfl,uQ,ei⟩;generalize dE:dQ (tX ae E).1=ro;rw[show dQ (cQ (bY ae E).1 (bY ae E).2 2).1=ro from dE];have ae5:ro<65536:=by rw[<-dE];exact EL _ _ 2
  simp[go_sem,cr,cN,ea];have aHa:=ae1 ae E;refine(adS cq (tX ae E).2.1 (tX ae E).2.2 EI (by omega) uQ).mono ?_;rintro _ xt ⟨rfl,hQ,hs⟩;generalize cf:dQ (yS ae E).1=zi;rw[show dQ (cQ (tX ae E).2.1 (tX ae E).2.2 4).1=zi from cf];have aql:zi<4294967296:=by rw[<-cf];exact EL _ _ 4
  have xb:=hs.ah (ei.ah (show io.drew.1[q+1]? =_ from iN) (by simp only[only];omega)) (by simp only[only];omega);have T:=(T.drew.trans (ei.mono λj _ e=>.inl e)).trans (hs.mono λj _ e=>.inl e);have aqm:gR {{bA with k:=ng}with n:=ro}:=⟨Xz,ae5,by show(0:Nat)<4294967296;decide,cE⟩;have RS:=RQ.set k aqm;have ae6:((((od k l).set k {bA with k:=ng})).set k {{bA with k:=ng}with n:=ro})[k]? =some {{bA with k:=ng}with n:=ro}:=List.getElem?_set_self (by rw[RQ.len];exact fs);have fD:=(aG xb (k*44+1)).trans (Xx RQ RR Ro);have z5:=λi=>dD xb i;have Ek:(xt.setCell ⟨q+1,k*44+1,none⟩ (.int .u16 ro)).1[q+1]? =some (.cells (dc (((od k l).set k {bA with k:=ng}).set k {{bA with k:=ng}with n:=ro})) 279 (0,0)):=by
   rw[eY,xb,gp,aqf RQ RR]
  have hw:=(aG Ek (k*44+2)).trans (Xx RS ae6 Rp);have JG:=λi=>dD Ek i;simp[go_sem,cr,cN,ea,fD,z5,hw,JG];have aqn:gR {{{bA with k:=ng}with n:=ro}with s:=zi}:=⟨Xz,ae5,aql,cE⟩;have XA:=RS.set k aqn;have ae7:(((((od k l).set k {bA with k:=ng})).set k {{bA with k:=ng}with n:=ro}).set k {{{bA with k:=ng}with n:=ro}with s:=zi})[k]? =some {{{bA with k:=ng}with n:=ro}with s:=zi}:=List.getElem?_set_self (by rw[RS.len];exact fs);have Cn:((xt.setCell ⟨q+1,k*44+1,none⟩ (.int .u16 ro)).setCell ⟨q+1,k*44+2,none⟩ (.int .u32 zi)).1[q+1]? =some (.cells (dc ((((od k l).set k {bA with k:=ng}).set k {{bA with k:=ng}with n:=ro}).set k {{{bA with k:=ng}with n:=ro}with s:=zi})) 279 (0,0)):=by
   rw[eY,Ek,gp,aqg RS ae6]
  have pk:=((D.refl (only (q+1)) xt).setCell (p:=⟨q+1,k*44+1,none⟩) (.inl rfl) (.int .u16 ro)).setCell (p:=⟨q+1,k*44+2,none⟩) (.inl rfl) (.int .u32 zi);have tJ:=hQ.ch pk (by simp only[only];omega) (by simp only[only];omega);have T:=(T.setCell (p:=⟨q+1,k*44+1,none⟩) (.inl (.inr rfl)) (.int .u16 ro)).setCell (p:=⟨q+1,k*44+2,none⟩) (.inl (.inr rfl)) (.int .u32 zi);clear pk fD z5 hw JG Ek xb;revert tJ Cn T;generalize(xt.setCell ⟨q+1,k*44+1,none⟩ (.int .u16 ro)).setCell ⟨q+1,k*44+2,none⟩ (.int .u32 zi)=xw;intro Cn tJ T;simp only[List.set_set]at Cn XA ae7;have aHb:=ae2 ae E;refine(Wc cq o (yS ae E).2.1 (yS ae E).2.2 xw (by omega) (hd.ch T (by omega)) (by omega) tJ (by have:=T.size;omega)).mono ?_;rw[show oy (yS ae E).2.1 (yS ae E).2.2=uW ae E from rfl];rintro _ XB ⟨rfl,Je,ub⟩;have fy:bN (uW ae E).1:=JC _ _;have vL:=ub.ah Cn (by simp only[only];omega);have T:=T.trans (ub.mono λj _ e=>.inl e);have ia:=aqh XA ae7 fy;rw[List.set_set]at ia;have aqo:=sR XA;have aqp:=bW fy;have zj:=aqd fs l;rw[bT,he,show(Ey ae E).1=({{{{bA with k:=ng}with n:=ro}with s:=zi}with J:=(uW ae E).1}:br)by rw[<-eS,<-dE,<-cf];rfl]at zj;rw[zj]at ia;simp[go_sem,cr,cN,ea,vL,aqo,aqp,ia,show k*44+3+41<=176 by omega];have ae8:=(D.refl (only (q+1)) XB).setRow (g:=q+1) (.inl rfl) (dc (od (k+1) l));have RT:=Je.ch ae8 (by simp only[only];omega) (by simp only[only];omega);have Co:(XB.setRow (q+1) (dc (od (k+1) l))).1[q+1]? =some (.cells (dc (od (k+1) l)) 279 (0,0)):=by rw[gk,vL];rfl
  have T:=T.setRow (g:=q+1) (.inl (.inr rfl)) (dc (od (k+1) l));clear ae8 vL ub Cn hs ei iN hr fl gv cK;revert RT Co T;generalize XB.setRow (q+1) (dc (od (k+1) l))=u8;intro RT Co T;have aHc:=ae3 ae E;refine(Mi cq _ _ u8 RT).mono ?_;rintro _ aHd ⟨rfl,hl⟩;rw[hl];have aqq:IntKind.i64.wrap (128 -(ae.length:Int))=128 - ae.length:=by rw[IntKind.wrap_i64];omega
  have zk:IntKind.i64.wrap (128 -(ae.length:Int)+(uW ae E).2.1.length)=128 - ae.length+(uW ae E).2.1.length:=by rw[IntKind.wrap_i64];omega
  simp[go_sem,aqq,zk];refine(Re cq _ _ _ u8 (by omega) (by omega) RT).mono ?_;rintro _ aHe ⟨rfl,XC,EM⟩;have aqr:=EM.ah Co (by simp only[only];omega);have T:=T.trans (EM.mono λj _ e=>.inl e);simp[go_sem,dA,eo];refine cH.intro (4 -(k+1)) (by omega) (bK _ _ _ ⟨k+1,by omega,rfl,by simpa using bh,by simpa using cr,by simpa using cN,by simp,?_,aqr,T⟩);simp only[jY,bT,he];exact XC
 ·obtain rfl:k=4:=by omega
  simp[go_sem,cN,dA];clear bK cJ;refine(Rf cq ae E bE ap).mono ?_;rintro _ bw ⟨rfl,tJ,bx⟩;have V:=bx.ah V (by simp only[only];omega);have T:=T.trans (bx.mono λj _ e=>.inl e);have cC:=T.ah cC (by omega);have zh:kW (jY 4 l 0).1:=⟨GS _ _ _,WX _ _ _⟩;have aqs:od 4 l=(jY 4 l 0).1:=by simp[od]
  rw[aqs]at V;generalize aqt:(jY 4 l 0).1=X at*;have Xy:=sR zh;have ae9:=Cv zh;have cL:=sR uR;have ae_:=Cv uR;have fK:D ak w bw:=(aI.trans bq).bJ T (λj F e=>by omega);have mz:=bH.ch fK id;by_cases aV:(rf ae E).2=0
  ·simp[go_sem,aV,cr,V,Xy,ae9];refine du (λJ f bE=>∃k,k<=4/\J=4 - k/\f 2=.pointer (some ⟨q,0,none⟩)/\f 4=.pointer (some ⟨q+1,0,none⟩)/\f 51=.agg (dc X)/\f 52=.int .i64 k/\(X.take k).all fI=true/\D ak bw bE) 4
    ⟨0,by omega,rfl,by simp[bh],by simp[cr],by simp,by simp,by simp,D.refl _ _⟩ ?_
   clear bh cr cN dA f;rintro cJ bK _ f bE ⟨k,r,rfl,bh,cr,ae',G_,am,JH⟩;have cC:=JH.ah cC id;have V:=JH.ah V id;by_cases fs:k<4
   ·have ea:(k:Int)<4:=by omega
    have eo:IntKind.i64.wrap ((k:Int)+1)=((k+1:Nat):Int):=by simp[IntKind.wrap_i64];omega
    obtain⟨x,M,dh⟩:=zh.dn fs;have pT:=WG zh fs M;have gE:=jr dh;have xj:=tO dh;have jh:X.take (k+1)=X.take k++[x]:=by rw[List.take_add_one,M];rfl
    have cx:=(D.refl ak bE).alloc (.cells (bk x) 113);simp[go_sem,ae',G_,ea,pT,tP,tQ,jr ls,gE,xj,bQ];refine(Rs x _ dh (mz.ch (JH.trans cx) id)).mono ?_;rintro _ cd ⟨rfl,co⟩
    cases AF:fI x
    ·have cC:=co.ah (cx.ah cC id) id;have cW:qw l=(fO,5):=by
      unfold qw;rw[aqt,if_neg];rintro⟨_,h⟩;have:=List.all_eq_true.1 h x (List.mem_of_getElem? M);rw[AF]at this;cases this
     have ib:(cd.setRow q (dc fO)).1[q]? =some (.cells (dc fO) 279 (0,0)):=by rw[gk,cC];rfl
     simp[go_sem,bh,cC,Cw,cL,ae_,bQ,ib];exact Z _ _ ⟨by rw[cW],(((fK.trans JH).trans cx).trans co).setRow (g:=q) (.inr (by omega)) _⟩
    ·simp[go_sem,G_,eo];refine cH.intro (4 -(k+1)) (by omega) (bK _ _ _ ⟨k+1,by omega,rfl,by simpa using bh,by simpa using cr,by simpa using ae',by simp,?_,(JH.trans cx).trans co⟩)
     grind
   ·obtain rfl:k=4:=by omega
    rw[List.take_of_length_le (by rw[zh.len];omega)]at am;have cW:qw l=(X,0):=by
     unfold qw
     grind
    have ib:(bE.setRow q (dc X)).1[q]? =some (.cells (dc X) 279 (0,0)):=by rw[gk,cC];rfl
    simp[go_sem,bh,cr,G_,cC,V,Xy,ae9,cL,bQ,ib];exact Z _ _ ⟨by rw[cW],(fK.trans JH).setRow (g:=q) (.inr (by omega)) _⟩
  ·have wa:((rf ae E).2 !=0)=true:=by simpa using aV
   have cW:qw l=(fO,5):=by
    unfold qw;rw[if_neg];rintro⟨h,_⟩;rw[bT,he]at h;exact aV h
   have ib:(bw.setRow q (dc fO)).1[q]? =some (.cells (dc fO) 279 (0,0)):=by rw[gk,cC];rfl
   simp[go_sem,wa,bh,cC,Cw,cL,ae_,bQ,ib];exact Z _ _ ⟨by rw[cW],fK.setRow (g:=q) (.inr (by omega)) _⟩
end Go.Proofs.YtoohkhcpboldjaaGreatDoor
