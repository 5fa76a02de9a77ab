/- Tables: a leaf that is made anew, of any sink. Conditions: the variables ptr.wide and tree.hole hold what the text lays. -/
import Derived.Test.YtoohkhcpboldjaaGreatDoorTbD
set_option maxRecDepth 100000
set_option maxHeartbeats 4000000
set_option linter.unusedSimpArgs false
set_option linter.unusedVariables false
namespace Go.Kin
open Go Go.RowKit
def Vq(R:Value->World->Prop)(w:World)(u x:Value)(v:Value)(w':World):Prop:=w'=w/\R (.tuple #[v,u,x]) w
@[simp] theorem aJA(R:Value->World->Prop)(w:World)(u x v:Value)(w':World):Vq R w u x v w'=(w'=w/\R (.tuple #[v,u,x]) w):=fj rfl
section
attribute [local semireducible] As jI fN
@[simp] theorem aJB(P:Program)(n:Nat)(R:Value->World->Prop)(f:Nat->Value)(w:World)(t y a:Nat)(bO:TypeId):
  jI P n #[.cell a bO,.tmp t,.tmp y] f w R=As P bO (gb n f (.tmp a)) w (Vq R w (gb n f (.tmp t)) (gb n f (.tmp y))):=by
 show _=fN _ _;unfold jI fN;simp only[yu,List.mapM_toArray,List.mapM_cons,List.mapM_nil,Gk,Qt];simp only[Sem.run_bind,Sem.run_pure,Sem.run_map,Result.andThen_ok]
 cases H:(asAddr (if a<n then f a else undef)).run P w with
 |halt h ai=>simp
 |ok bp ai=>
  simp only[Result.andThen_ok]
  cases I:(loadVar bO bp).run P ai with
  |halt h aC=>simp
  |ok v aC=>
   apply propext;simp[Vq];constructor
   ·rintro⟨_,⟨rfl,bH⟩,h⟩;exact⟨bH,h⟩
   ·rintro⟨bH,h⟩;exact⟨_,⟨rfl,bH⟩,h⟩
end
attribute [irreducible] Vq
end Go.Kin
namespace Go.Proofs.YtoohkhcpboldjaaGreatDoor
open Go.RowKit Go.Kin
def aCK(xs:List br)(w:World)(W:Value)(w':World):Prop:=
 ∃s e,W=.tuple #[s,.int .i64 e]/\D ak w w'/\((e=0/\xs.all fI=true/\bD w' s (lv xs).length (bm (lv xs))/\∀k,s.ownBlock=some k->w.1.size<=k/\k<w'.1.size)\/(e=5/\xs.all fI=false/\s=.slice none 0 0))
theorem aCL(xs:List br)(w:World)(ok:kW xs)(bH:lN w):aP Tryz.prog 218 #[.agg (dc xs)] w (aCK xs w):=by
 refine bn Tryz.func218 Tryz.ntmps218 λaZ Z=> ?_;have cL:=sR ok;have fq:=Cv ok;have T:=(D.refl ak w).alloc (.cells (dc xs) 279);have gI:=λw=>WF w ok uR;by_cases hz:xs=fO
 ·subst hz;have sY:=aoV 512 (w.alloc (.cells (dc fO) 279)) (by decide);have aCM:((512:Nat):Int)=512:=rfl;rw[aCM]at sY;have aCN:=cl (w.alloc (.cells (dc fO) 279)) (.cells (bm (cV 512)).toArray 5);have nk:=bD.GA aCN (n:=512) (c:=512) (off:=0) (xs:=bm (cV 512)) (Nat.le_refl _) (by decide) (by rfl);simp[go_sem,cL,fq,Cw,gI];rw[sY];simp[go_sem];refine Z _ _ ⟨_,0,rfl,T.alloc _,.inl ⟨rfl,aei,?_,λk r=> ?_⟩⟩
  ·rw[aoW,lM];simpa using nk
  ·simp[Value.ownBlock]at r;simp;omega
 simp[go_sem,cL,fq,Cw,gI,hz];revert T;generalize w.alloc (.cells (dc xs) 279)=ab;intro T;refine du (λJ f bE=>∃k,k<=4/\J=4 - k/\f 11=.agg (dc xs)/\f 12=.int .i64 k/\(xs.take k).all fI=true/\nf 5 w (f 4) (128*k) (bm (lv (xs.take k))) bE) 4
  ⟨0,by omega,rfl,by simp,by simp,by simp,by simpa[lv,bm]using nf.nil _ T⟩ ?_
 rintro cJ bK _ f bE ⟨k,r,rfl,pz,mo,am,aH⟩;by_cases fs:k<4
 ·have ea:(k:Int)<4:=by omega
  obtain⟨x,M,dh⟩:=ok.dn fs;have pT:=WG ok fs M;have gE:=jr dh;have xj:=tO dh;have eo:IntKind.i64.wrap ((k:Int)+1)=((k+1:Nat):Int):=by simp[IntKind.wrap_i64];omega
  have jh:xs.take (k+1)=xs.take k++[x]:=by rw[List.take_add_one,M];rfl
  have t':(lv (xs.take k)).length=128*k:=by
   rw[Mu _ λq aq=>ok.all q (List.mem_of_mem_take aq),List.length_take,ok.len,Nat.min_eq_left r]
  have kH:=aH.step ((D.refl ak bE).alloc (.cells (bk x) 113));have db:=cl bE (.cells (bk x) 113);simp[go_sem,pz,mo,ea,pT,tP,tQ,jr ls,gE,xj,bQ];revert kH db;generalize bE.alloc (.cells (bk x) 113)=ai;generalize bE.1.size=g;intro kH db;refine(Rs x ai dh (bH.ch kH.ch id)).mono ?_;rintro _ aC ⟨rfl,aE⟩;have sb:=kH.step aE;have dk:=aE.ah db id
  cases oc:fI x
  ·simp[go_sem];refine Z _ _ ⟨_,5,rfl,sb.ch,.inr ⟨rfl,?_,rfl⟩⟩
   grind
  ·simp[go_sem,dk,gE,xj];refine(aoR x (f 4) (128*k) (lv (xs.take k)) aC dh (by omega) t' sb.own).mono ?_;intro v3 be q;have v':=sb.grow q.1 q.2.1 q.2.2;simp[go_sem,pz,mo,eo];refine cH.intro (4 -(k+1)) (by omega) (bK _ _ _ ⟨k+1,by omega,rfl,by simp[pz],by simp,?_,?_⟩)
   ·grind
   ·rw[jh];simpa[lv,Nat.mul_add]using v'
 ·obtain rfl:k=4:=by omega
  rw[List.take_of_length_le (by rw[ok.len];omega)]at am aH;simp[go_sem,mo];refine Z _ _ ⟨_,0,rfl,aH.ch,.inl ⟨rfl,am,?_,λk r=>⟨aH.up k r,vj aH.own k r⟩⟩⟩;rw[Mu _ ok.all,ok.len];exact aH.dI
def mq(ae:List br)(l:List (Nat×br)):List br:=l.foldl (λae x=>ae.set (x.1%4) x.2) ae
def q_(off:Nat):Pt:=⟨4,0,0,off,0,List.replicate 32 0,[0,0,0,0]⟩
def la{ay:Type}(rd:Src ay)(nw:ay->Pt->List UInt8->ay×Pt×Int)(s:ay)(p:Pt)(off:Nat)(l:List (Nat×br)):ay×Pt×Bool×Int:=
 if(dl rd s p off).2.2≠0 then((dl rd s p off).1,(dl rd s p off).2.1,false,(dl rd s p off).2.2)else
 if(fS rd (dl rd s p off).1 (dl rd s p off).2.1).2.2≠0 then((fS rd (dl rd s p off).1 (dl rd s p off).2.1).1,(dl rd s p off).2.1,false,(fS rd (dl rd s p off).1 (dl rd s p off).2.1).2.2)else
 if mq (fS rd (dl rd s p off).1 (dl rd s p off).2.1).2.1 l=(fS rd (dl rd s p off).1 (dl rd s p off).2.1).2.1 then((fS rd (dl rd s p off).1 (dl rd s p off).2.1).1,(dl rd s p off).2.1,false,0)else
 if mq (fS rd (dl rd s p off).1 (dl rd s p off).2.1).2.1 l=fO then((fS rd (dl rd s p off).1 (dl rd s p off).2.1).1,ad,true,0)else
 if(mq (fS rd (dl rd s p off).1 (dl rd s p off).2.1).2.1 l).all fI=false then((fS rd (dl rd s p off).1 (dl rd s p off).2.1).1,(dl rd s p off).2.1,false,5)else
 ((nw (fS rd (dl rd s p off).1 (dl rd s p off).2.1).1 (q_ off) (lv (mq (fS rd (dl rd s p off).1 (dl rd s p off).2.1).2.1 l))).1,
  (nw (fS rd (dl rd s p off).1 (dl rd s p off).2.1).1 (q_ off) (lv (mq (fS rd (dl rd s p off).1 (dl rd s p off).2.1).2.1 l))).2.1,true,
  (nw (fS rd (dl rd s p off).1 (dl rd s p off).2.1).1 (q_ off) (lv (mq (fS rd (dl rd s p off).1 (dl rd s p off).2.1).2.1 l))).2.2)
theorem acf:∀(l:List (Nat×br)) {ae:List br},kW ae->(∀x∈l,kM x)->kW (mq ae l)
 |[],_,h,_=>h
 |x::l,ae,h,al=>acf l (h.set (x.1%4) (al x (by simp)).i) λy ar=>al y (by simp[ar])
theorem aCO{l:List (Nat×br)}{ae:List br}{i:Nat}{x:Nat×br}(M:l[i]? =some x):mq ae (l.take (i+1))=(mq ae (l.take i)).set (x.1%4) x.2:=by
 unfold mq;rw[List.take_add_one,M,List.foldl_append];rfl
theorem al9{off:Nat}(h:off<4294967296):bN (q_ off):=⟨by simp[q_],by simp[q_],by simp[q_],by simpa[q_]using h,by simp[q_],by simp[q_],by simp[q_],by simp[q_]⟩
theorem aCP{w:World}{K:Value->World->Prop}(off:Nat):hX Tryz.prog 44 [(0,.int .u8 4),(3,.int .u32 off)] w K=K (.agg (Y (q_ off))) w:=by
 refine lp Tryz.underlying44 gm (places:=#[(0,1),(1,1),(2,1),(3,1),(4,1),(5,32),(37,4)]) (by simp[go_sem]) ?_;have hz:=bW cE;simp[iH,gn,Value.cells,hz,tI];simp[d',Y,ad,q_];rfl
section
variable{ay:Type}{bc:ay->h_}{m:ay->Nat}{rd:Src ay}{nw:ay->Pt->List UInt8->ay×Pt×Int}{bM:ay->Pt->ay}{dB:TypeId}{ca sv:Value}{s:ay}{w w':World}{O:Nat->Prop}
theorem asu(aw:vb bc m rd nw bM (.iface dB ca))(aH:64<=m s)(aN:∀s,kk (bc s))(h:bc s w O)(p:Pt)(ok:bN p)(off:Nat)(lg:off<4294967296)(jO:Value)(l:List (Nat×br))(al:fA w jO qz 45 l)(hR:∀x∈l,kM x)(gc:∀j,jO.ownBlock=some j->¬O j/\j<w.1.size)(xv:l.length<=1000000)(ck:hj w)(aF:ik bc O):
  aP Tryz.prog 180 #[.iface dB ca,.agg (Y p),.int .u32 off,jO] w λW w'=>W=.tuple #[.agg (Y (la rd nw s p off l).2.1),.bool (la rd nw s p off l).2.2.1,.int .i64 (la rd nw s p off l).2.2.2]/\bN (la rd nw s p off l).2.1/\bc (la rd nw s p off l).1 w' (ax O w w')/\D O w w':=by
 refine bn Tryz.func180 Tryz.ntmps180 λaZ Z=> ?_;have cU:=bW ok;have cT:=dW ok;have so:=bW cE;have aCQ:=dW cE;have xq:=(aN s).lt h;have aY:=((D.refl ak w).alloc (.cells (Y p) 44)).alloc (.cells (Y ad) 44);have bj:=oa w (.cells (Y p) 44) (.cells (Y ad) 44);have ba:=ny w (.cells (Y p) 44) (.cells (Y ad) 44);have eJ:=ck.ch aY λ_ _ e=>e;have H:=(aN s).ch h aY λ_ _ e=>e;have gd:((w.alloc (.cells (Y p) 44)).alloc (.cells (Y ad) 44)).1.size=w.1.size+2:=by simp
 have eG:=al.ch aY λ_ _ _ e=>e;obtain⟨ab,de⟩:=az ((w.alloc (.cells (Y p) 44)).alloc (.cells (Y ad) 44));rw[de]at aY bj ba eJ H gd eG;simp[go_sem,cU,cT,gm,gn,de,bj];obtain⟨pi,acB⟩:=az (w.1.size+1);rw[acB]at ba⊢;clear de;have eO:∀j,w.1.size<=j->¬O j:=λj F e=>by have:=xq j e;omega
 have ams:¬O pi:=eO pi (by omega);have LA:∀k,O k->k<ab.1.size:=λk r=>by have:=xq k r;omega
 have bL:∀{N:World} {x:ay×Pt×Bool×Int},la rd nw s p off l=x->bN x.2.1->bc x.1 N (ax O ab N)->D (λk=>O k\/k=pi) ab N->aZ (.tuple #[.agg (Y x.2.1),.bool x.2.2.1,.int .i64 x.2.2.2]) (N.setRow pi (Y x.2.1)):=λ{N x} e dh a c=>by
  subst e;have EZ:=c.size;have dg:D (aj pi) N (N.setRow pi (Y (la rd nw s p off l).2.1)):=(D.refl (aj pi) N).setRow (.inl rfl) _;have AM:=dg.size;refine Z _ _ ⟨rfl,dh,(aN _).ex ((aN _).ch a dg λk r e=>by simp only[aj]at e;subst e;exact r.elim ams λe=>by omega) (λk r=>r.imp id λe=>⟨by omega,by omega⟩) (ax.lt xq (by omega)),?_⟩;exact((aY.mono λ_ _ e=>e.elim).bJ c λk r e=>e.resolve_right (by omega)).bJ dg λk r e=>by simp only[aj]at e;omega
 have Ar:=ame aw.rd (by omega) aN H p ok off lg eJ aF;have uF:=amd rd s p off ok;have fl:=Sm aw.rd s p off;have kl:la rd nw s p off l=la rd nw s p off l:=rfl
 conv at kl=>rhs;unfold la
 obtain⟨⟨cw,fX,aW⟩,kp⟩:∃x,dl rd s p off=x:=⟨_,rfl⟩;rw[kp]at Ar uF fl kl;simp only at Ar uF fl kl;refine Ar.mono ?_;rintro _ ai ⟨rfl,I,aA⟩;have vJ:=bW uF;have Gi:=dW uF;have jg:=aA.size;have mX:=aF.ck eJ aA ⟨_,I⟩ λ_ _ e=>e;have i_:=aA.obj ba ams;have yQ:=eG.ch aA λb _ e=>(gc b e).1;have aE:=(D.refl ak ai).alloc (.cells (Y fX) 44);have cm:=cl ai (.cells (Y fX) 44);have ka:=mX.ch aE λ_ _ e=>e;have af:=(aN _).ch I aE λ_ _ e=>e;have iL:=aE.obj i_ id;have B_:=yQ.ch aE λ_ _ _ e=>e;have gL:(ai.alloc (.cells (Y fX) 44)).1.size=ai.1.size+1:=by simp
 have lq:=aA.trans (aE.mono (S':=O) λ_ _ e=>e.elim);obtain⟨aC,hk⟩:=az (ai.alloc (.cells (Y fX) 44));rw[hk]at aE cm ka af iL gL lq B_;have rJ:bc cw aC (ax O ab aC):=(aN _).ex af (λk r=>r.imp id λe=>⟨e.1,by omega⟩) (ax.lt LA (by omega));obtain⟨wU,aCR⟩:=az (ai.1.size);have wide:∀{N bs:World},D O N bs->D (λk=>O k\/k=pi) N bs:=λc=>c.mono λk _ e=>.inl e;by_cases aV:aW=0
 case neg=>
  rw[if_pos aV]at kl;have mY:(aW==0)=false:=beq_false_of_ne aV;simp[go_sem,vJ,Gi,gm,gn,so,bQ,hk,iL,cm,aV,mY,bne];exact bL kl uF rJ (wide lq)
 rw[if_neg (by omega)]at kl;subst aV;simp[go_sem,vJ,Gi,gm,gn,so,bQ,hk,cm];rw[aCR]at cm⊢;have rO:=acm aw.rd (by omega) aN af fX uF ka (aF.cq eJ);have qj:=So rd cw fX;have hG:=Sn aw.rd cw fX;obtain⟨⟨hv,ie,cW⟩,eR⟩:∃x,fS rd cw fX=x:=⟨_,rfl⟩;rw[eR]at rO qj hG kl;simp only at rO qj hG kl;refine rO.mono ?_;rintro _ be ⟨rfl,aU,bv⟩;have BT:=bv.size;have oi:∀k,w.1.size<=k->k<ab.1.size->¬ax O ab ai k:=λk H I e=>e.elim (eO k H) λe=>by omega
 have lU:=bv.obj iL (oi pi (by omega) (by omega));have xW:be.1[wU]? =some (.cells (Y fX) 44 (0,0)):=bv.obj cm λe=>e.elim (λe=>by have:=LA wU e;omega) λe=>by omega
 have mi:=sR qj;have sX:=Cv qj;have IH:=sR uR;have ux:=(aF.cq eJ).ck ka bv ⟨_,aU⟩ λ_ _ e=>e;have bx:=(D.refl ak be).alloc (.cells (dc ie) 279);have dj:=cl be (.cells (dc ie) 279);have j_:(be.alloc (.cells (dc ie) 279)).1.size=be.1.size+1:=by simp
 have qv:=bx.obj lU id;have Fj:=bx.obj xW id;have pu:=ux.ch bx λ_ _ e=>e;obtain⟨bw,mz⟩:=az (be.alloc (.cells (dc ie) 279));rw[mz]at bx dj j_ qv Fj pu;have bC:=(aN _).ch aU bx λ_ _ e=>e;have Br:D O ab bw:=(lq.bJ bv λk r e=>e.elim id λe=>by omega).trans (bx.mono λ_ _ e=>e.elim);have IC:bc hv bw (ax O ab bw):=(aN _).ex bC (λk r=>r.elim (λe=>e.imp id λe=>⟨e.1,by omega⟩) λe=>.inr ⟨by omega,by omega⟩) (ax.lt LA (by omega));have Ru:=(B_.ch bv λb V e ff=>ff.elim (gc b e).1 λh=>by have:=(gc b e).2;omega).ch bx λ_ _ _ e=>e;by_cases aV:cW=0
 case neg=>
  rw[if_pos aV]at kl;have mY:(cW==0)=false:=beq_false_of_ne aV;simp[go_sem,yG,yH,mi,sX,IH,bQ,mz,qv,Fj,vJ,Gi,so,aV,mY,bne];exact bL kl uF IC (wide Br)
 rw[if_neg (by omega)]at kl;subst aV;have co:=(D.refl ak bw).alloc (.cells (dc ie) 279);have gx:=cl bw (.cells (dc ie) 279);have oh:(bw.alloc (.cells (dc ie) 279)).1.size=bw.1.size+1:=by simp
 have qC:=co.obj qv id;have Fk:=co.obj Fj id;have wi:=co.obj dj id;have wV:=pu.ch co λ_ _ e=>e;have cG:=(aN _).ch bC co λ_ _ e=>e;have oD:=Ru.ch co λ_ _ _ e=>e;have Pn:D O ab (bw.alloc (.cells (dc ie) 279)):=Br.trans (co.mono λ_ _ e=>e.elim);obtain⟨cd,pr⟩:=az (bw.alloc (.cells (dc ie) 279));rw[pr]at co gx oh qC Fk wi wV cG oD Pn;have cI:=oD.len Tryz.underlying220 3;simp[go_sem,yG,yH,mi,sX,IH,bQ,mz,dj,pr,cI];obtain⟨Kk,aCS⟩:=az (be.1.size);obtain⟨zE,aCT⟩:=az (bw.1.size);rw[aCS]at wi⊢;rw[aCT]at gx⊢;have Vr:∀k,ax (ax O ab ai) aC be k->k<Kk/\k≠pi/\k≠wU:=λk r=>by
  rcases r with(r|r)|r
  ·have:=xq k r;omega
  ·omega
  ·omega
 refine du (λJ f u=>∃i,J=l.length - i/\i<=l.length/\f 0=.iface dB ca/\f 2=.int .u32 off/\f 8=.pointer (some ⟨pi,0,none⟩)/\f 11=.pointer (some ⟨wU,0,none⟩)/\f 13=.pointer (some ⟨Kk,0,none⟩)/\f 14=.pointer (some ⟨zE,0,none⟩)/\f 42=jO/\f 43=.int .i64 l.length/\f 44=.int .i64 (i:Nat)/\
   u.1[pi]? =some (.cells (Y ad) 44 (0,0))/\u.1[wU]? =some (.cells (Y fX) 44 (0,0))/\u.1[Kk]? =some (.cells (dc ie) 279 (0,0))/\u.1[zE]? =some (.cells (dc (mq ie (l.take i))) 279 (0,0))/\
   D (aj zE) cd u) l.length
  ⟨0,rfl,Nat.zero_le _,by simp,by simp,by simp,by simp,by simp,by simp,by simp,by simp,by simp,qC,Fk,wi,by simpa[mq]using gx,D.refl _ _⟩ ?_
 rintro cJ bK _ f u ⟨i,rfl,aa,f0,bh,bz,gD,eW,f14,Pb,HU,Qu,u8,acC,Vs,LB,aJ⟩;have A':=aJ.size;have mH:=wV.ch aJ λk r e=>by simp only[aj]at e;have:=ck.lt k r;omega
 have an:=(aN _).ch cG aJ λk r e=>by simp only[aj]at e;have:=Vr k r;omega
 have zz:=oD.ch aJ λb _ V e=>by simp only[aj]at e;have:=(gc b V).2;omega
 have vx:D O ab u:=Pn.bJ aJ λk r e=>by simp only[aj]at e;omega
 have uE:=acf (l.take i) qj λx M=>hR x (List.mem_of_mem_take M);by_cases aO:i<l.length
 ·have jm:(i:Int)<l.length:=by omega
  obtain⟨x,M⟩:∃x,l[i]? =some x:=⟨_,List.getElem?_eq_getElem aO⟩;have dh:=hR x (List.mem_of_getElem? M);have aCU:fA u jO (λa=>(dF a).toList) 45 l:=zz;obtain⟨fF,nF,iZ,JQ,JR,JS,pK,ia,ug,ew⟩:=aCU.CU (by decide) (λa am=>nG (hR a am)) M;have eU:=nG dh;have gs:=zu dh;have Db:=SL dh;have qG:=xJ (x:=x);have dN:=nG vc;have gO:IntKind.i64.wrap ((i:Int)+1)=((i+1:Nat):Int):=by rw[IntKind.wrap_i64];omega
  have dz:=(D.refl ak u).alloc (.cells (dF x) 227);have ib:=cl u (.cells (dF x) 227);have hn:(u.alloc (.cells (dF x) 227)).1.size=u.1.size+1:=by simp
  have acD:=dz.obj LB id;have amt:=(aG ib 0).trans NA;obtain⟨cF,uf⟩:=az (u.alloc (.cells (dF x) 227));rw[uf]at dz ib hn acD amt;rw[pK]at Pb;simp[go_sem,Pb,HU,Qu,aO,jm,ia,ug,ew,wd,we,qG,dN,eU,gs,bQ,uf,amt];refine(acl x.1 dh.n cF).mono ?_;rintro _ eA ⟨rfl,EO⟩;subst eA;have Fv:=jr dh.i;have FN:(x.1:Int)%4<4:=by omega
  have amu:x.1%4<4:=by omega
  have acn:(0:Int)<=(x.1:Int)%4:=by omega
  have aco:((x.1:Int)%4).toNat=x.1%4:=by omega
  have dR:x.1%4*44+44<=176:=by omega
  have oO:=sR uE;have oW:=aoP uE amu dh.i;simp[go_sem,ib,eU,Db,f14,Qu,FN,amu,acn,aco,dR,acD,oO,Fv,oW,gO];have pk:D (aj zE) u (cF.setRow zE (dc ((mq ie (l.take i)).set (x.1%4) x.2))):=(dz.mono (S':=aj zE) λ_ _ e=>e.elim).setRow (.inl rfl) _;have zK:¬aj zE pi:=λe=>by simp only[aj]at e;omega
  have aCV:¬aj zE wU:=λe=>by simp only[aj]at e;omega
  have aCW:¬aj zE Kk:=λe=>by simp only[aj]at e;omega
  refine cH.intro (l.length -(i+1)) (by omega) (bK _ _ _ ⟨i+1,rfl,by omega,by simp[f0],by simp[bh],by simp[bz],by simp[gD],by simp[eW],by simp[f14],by simp[Pb,pK],by simp[HU],by simp,pk.obj u8 zK,pk.obj acC aCV,pk.obj Vs aCW,?_,aJ.trans pk⟩);rw[gk,acD,aCO M];rfl
 ·obtain rfl:i=l.length:=by omega
  have jm:¬((l.length:Nat):Int)<l.length:=by omega
  rw[List.take_of_length_le (Nat.le_refl _)]at LB uE;obtain⟨B,aCX⟩:=az (mq ie l);rw[aCX]at LB uE kl;have acE:=sR uE;have acF:=Cv uE;have qb:=λw=>WF w uE qj;have Qv:=λw=>WF w uE uR;have acG:∀{N:World},u.1.size<=N.1.size->∀k,ax (ax O ab ai) aC be k->ax O ab N k:=λfu k r=>by
   rcases r with(r|r)|r
   ·exact .inl r
   ·exact .inr ⟨by omega,by omega⟩
   ·exact .inr ⟨by omega,by omega⟩
  have amv:bc hv u (ax O ab u):=(aN _).ex an (acG (Nat.le_refl _)) (ax.lt LA (by omega));by_cases Vt:B=ie
  ·rw[if_pos Vt]at kl;have rm:∀w,(Op.equalIn 10000 279 (.agg (dc B)) (.agg (dc ie))).run Tryz.prog w=.ok true w:=λw=>by rw[qb,decide_eq_true Vt]
   simp[go_sem,HU,Qu,f14,eW,gD,bz,LB,Vs,acC,u8,acE,acF,mi,sX,rm,vJ,Gi,so,bQ];exact bL kl uF amv (wide vx)
  rw[if_neg Vt]at kl;have rm:∀w,(Op.equalIn 10000 279 (.agg (dc B)) (.agg (dc ie))).run Tryz.prog w=.ok false w:=λw=>by rw[qb,decide_eq_false Vt]
  by_cases Vu:B=fO
  ·rw[if_pos Vu]at kl;have acH:∀w,(Op.equalIn 10000 279 (.agg (dc B)) (.agg (dc fO))).run Tryz.prog w=.ok true w:=λw=>by rw[Qv,decide_eq_true Vu]
   simp[go_sem,HU,Qu,f14,eW,bz,LB,Vs,u8,acE,acF,mi,sX,rm,acH,Cw,oz,so,aCQ,bQ];exact bL kl cE amv (wide vx)
  rw[if_neg Vu]at kl;have acH:∀w,(Op.equalIn 10000 279 (.agg (dc B)) (.agg (dc fO))).run Tryz.prog w=.ok false w:=λw=>by rw[Qv,decide_eq_false Vu]
  simp[go_sem,HU,Qu,f14,eW,LB,Vs,acE,acF,mi,sX,rm,acH,Cw];refine(aCL B u uE mH.qt).mono ?_;rintro _ dC ⟨sv,aaM,rfl,dX,MU⟩;have qE:=dX.size;have sn:=dX.obj u8 id;have amw:=dX.obj acC id;have LC:=mH.ch dX λ_ _ e=>e;have hl:=(aN _).ch an dX λ_ _ e=>e;have amx:D O ab dC:=vx.trans (dX.mono λ_ _ e=>e.elim);rcases MU with⟨rfl,fq,nk,iR⟩|⟨rfl,fq,rfl⟩
  ·rw[if_neg (by rw[fq];decide)]at kl;have abP:(lv B).length=512:=by rw[Mu _ uE.all,uE.len]
   rw[abP]at nk;simp[go_sem,f0,bh,aCP];obtain⟨⟨Yt,Vv,aJC⟩,dE⟩:∃y,nw hv (q_ off) (lv B)=y:=⟨_,rfl⟩;rw[dE]at kl;simp only at kl;have EJ:∀k,ax (ax O ab ai) aC be k->k<u.1.size:=(aN _).lt an;refine aw.nw hv dC (ax (ax O ab ai) aC be) (q_ off) (lv B) sv _ (by omega) hl (al9 lg) abP nk (λj F=>⟨λe=>by have:=EJ j e;have:=iR j F;omega,(iR j F).2⟩) LC ((aF.cq eJ).cq ka) λmr ez jn lX=> ?_;rw[dE]at ez jn⊢;have aJD:=lX.size;have amy:=lX.obj sn λe=>(Vr pi e).2.1 rfl;have amz:=lX.obj amw λe=>(Vr wU e).2.2 rfl;have HK:=bW ez;have aCY:=dW ez;have Gl:D (aj wU) mr (mr.setRow wU (Y Vv)):=(D.refl (aj wU) mr).setRow (.inl rfl) _;have aJE:=Gl.size;have aCZ:=Gl.obj amy λe=>by simp only[aj]at e;omega
   have aC0:(mr.setRow wU (Y Vv)).1[wU]? =some (.cells (Y Vv) 44 (0,0)):=by rw[gk,amz];rfl
   have pz:=(aN _).ch jn Gl λk r e=>by
    simp only[aj]at e;rcases r with r|r
    ·exact(Vr k r).2.2 e
    ·omega
   have aC1:D O ab (mr.setRow wU (Y Vv)):=(amx.bJ lX λk r e=>by
    rcases e with(e|e)|e
    ·exact e
    ·omega
    ·omega).bJ Gl λk r e=>by simp only[aj]at e;omega
   simp[go_sem,bz,gD,amy,amz,aCZ,aC0,HK,aCY,vJ,so,bQ];exact bL kl ez ((aN _).ex pz (λk r=>r.elim (acG (by omega) k) λe=>.inr ⟨by omega,by omega⟩) (ax.lt LA (by omega))) (wide aC1)
  ·rw[if_pos fq]at kl;simp[go_sem,bz,gD,sn,amw,vJ,Gi,so,bQ];exact bL kl uF ((aN _).ex hl (acG qE) (ax.lt LA (by omega))) (wide amx)
theorem agJ(aw:vb bc m rd nw bM sv)(s:ay)(p:Pt)(off:Nat)(l:List (Nat×br)):m s<=m (la rd nw s p off l).1+64:=by
 have H:=Sm aw.rd s p off;have I:=Sn aw.rd (dl rd s p off).1 (dl rd s p off).2.1;have af:=aw.XV (fS rd (dl rd s p off).1 (dl rd s p off).2.1).1 (q_ off) (lv (mq (fS rd (dl rd s p off).1 (dl rd s p off).2.1).2.1 l));unfold la
 grind
end
end Go.Proofs.YtoohkhcpboldjaaGreatDoor
