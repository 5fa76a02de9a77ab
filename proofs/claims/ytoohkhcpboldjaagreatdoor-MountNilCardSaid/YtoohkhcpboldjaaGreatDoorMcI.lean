/- The maker makes all blocks, up to the onW on top. Conditions: the variables that are listed hold what the text lays; sizes. -/
import Derived.Test.YtoohkhcpboldjaaGreatDoorMcG
set_option maxRecDepth 100000
set_option maxHeartbeats 4000000
set_option linter.unusedSimpArgs false
set_option linter.unusedVariables false
namespace Go.Proofs.YtoohkhcpboldjaaGreatDoor
open Go.RowKit Go.Kin
theorem Hx:(Tryz.prog.info? 46).map (λi=>i.zero.isSome)=some true:=by kernel_rfl
def dO:e':=⟨0,ad,ad⟩
theorem kR:gV dO:=⟨by decide,cE,cE⟩
theorem Hy:ln Tryz.prog 46=cz dO:=by kernel_rfl
theorem YX{x:e'}(ok:gV x):(cz x).extract 1 42=Y x.top:=by
 have H:=bW ok.top;have I:=bW ok.cO;unfold cz
 simp_all
theorem ag8{x:e'}(ok:gV x){w:World}{K:Value->World->Prop}:hX Tryz.prog 46 [(0,.int .u64 x.gen),(1,.agg (Y x.top)),(2,.agg (Y x.cO))] w K=K (.agg (cz x)) w:=by
 refine lp Tryz.underlying46 Hx (places:=#[(0,1),(1,41),(42,41)]) (by simp[go_sem]) ?_;have hz:=iQ kR;have H:=bW ok.top;have I:=bW ok.cO;have af:=bW cE;have e:d' (d' (d' (cz dO) 0 #[.int .u64 x.gen]) 1 (Y x.top)) 42 (Y x.cO)=cz x:=by
  unfold d';apply Array.ext';simp[cz,dO,H,I,af]
 simp[iH,Hy,Value.cells,hz,tI,H,I,e]
theorem Ko{w:World}{K:Value->World->Prop}:hX Tryz.prog 44 [(0,.int .u8 5)] w K=K (.agg (Y tj)) w:=by
 refine lp Tryz.underlying44 gm (places:=#[(0,1),(1,1),(2,1),(3,1),(4,1),(5,32),(37,4)]) (by simp[go_sem]) ?_;simp[iH,gn,Value.cells,tI,bW cE];simp[d',Y,ad,tj,eB,ky,Cm];rfl
theorem asX:tM Tryz.prog 30 39 (.int .u16 0) 2:=⟨Tryz.underlying30,by kernel_rfl,rfl⟩
theorem asY:bN tj:=ag9.1
def Dg(aT:Nat)(st:e')(x:(Pt×Pt)×Int):e':=if x.2=0 then⟨aT,x.1.1,x.1.2⟩else st
section
variable{k m p o s_:Nat}{z:fe}{Ba:xF}{ee w w':World}{es X bo:Nat->Prop}{base hI:Value}{L:fM}{t:dy}{O:Nat->Prop}{cp:dy->Nat}{c:hT}
theorem asZ(ds:jM cp)(e:rs ee es)(gy:c.aT<18446744073709551616)(av:c.n<=65536)(h:ga k m p c.n z c.aT ee es t w O)(st:e')(ok:gV st)(aB:po w o base hI s_ L X bo Ba)(CW:∀j,X j\/bo j->¬O j)(dS:L.nB)(Bb:s_<=30000)(Hz:∀a o b,L.lf (a,o)=some b->b=[]\/b.length=512)
  (xs:List em)(eU:Hv L xs)(lr:xs.length<=255)(aH:6600*xs.length+30000<=f_ cp t):
  aP Tryz.prog 70 #[.pointer (some ⟨k,0,none⟩),.agg (cz st),.pointer (some ⟨o,0,none⟩)] w λW w'=>
   W=.tuple #[.agg (cz (Dg c.aT st (lD (ms c) c.aT st.cO st.top (hJ L) (xs.map (·.val)) t).2)),.int .i64 (lD (ms c) c.aT st.cO st.top (hJ L) (xs.map (·.val)) t).2.2]/\gV (Dg c.aT st (lD (ms c) c.aT st.cO st.top (hJ L) (xs.map (·.val)) t).2)/\
   ga k m p c.n z c.aT ee es (lD (ms c) c.aT st.cO st.top (hJ L) (xs.map (·.val)) t).1 w' (ax O w w')/\D O w w':=by
 refine bn Tryz.func70 Tryz.ntmps70 λaZ Z=> ?_;have mE:=iQ ok;have lw:=zr ok;have el:=Sp ok;have pc:=YX ok;have dN:=iQ kR;have aN:=ga.ok k m p c.n z c.aT ee es;have al:=(aN t).lt h;simp[go_sem,mE,lw,Hx,Hy];have aY:=((D.refl ak w).alloc (.cells (cz st) 46)).alloc (.cells (cz dO) 46);have bj:=oa w (.cells (cz st) 46) (.cells (cz dO) 46);have ba:=ny w (.cells (cz st) 46) (.cells (cz dO) 46);have gd:((w.alloc (.cells (cz st) 46)).alloc (.cells (cz dO) 46)).1.size=w.1.size+2:=by simp
 obtain⟨ab,de⟩:=az ((w.alloc (.cells (cz st) 46)).alloc (.cells (cz dO) 46));rw[de]at aY bj ba gd⊢;obtain⟨g,aF⟩:=az (w.1.size);rw[aF]at bj ba gd⊢;clear de;have H:=(aN t).ch h aY λ_ _ e=>e;have qB:=aB.ch aY (λ_ _ e=>e) λ_ _ e=>e;have eG:∀j,O j->j<g:=λj F=>by have:=al j F;omega
 obtain⟨lZ,iT⟩:=az (lD (ms c) c.aT st.cO st.top (hJ L) (xs.map (·.val)) t);rw[iT]at Z;have bL:∀{u:World} {er:dy} {y:(Pt×Pt)×Int} {Q:Nat->Prop},lZ=(er,y)->gV (Dg c.aT st y)->ga k m p c.n z c.aT ee es er u Q->(∀j,Q j->ax O ab u j)->D O ab u->
   u.1[g+1]? =some (.cells (cz dO) 46 (0,0))->aZ (.tuple #[.agg (cz (Dg c.aT st y)),.int .i64 y.2]) (u.setRow (g+1) (cz (Dg c.aT st y))):=λ{u er y Q} T zF aD eP aJ V=>by
  subst T;have kn:=(D.refl (aj (g+1)) u).setRow (g:=g+1) (.inl rfl) (cz (Dg c.aT st y));have gu:=kn.size;have ag_:=aJ.size;refine Z _ _ ⟨rfl,zF,(aN er).ex ((aN er).ch aD kn λj F e=> ?_) (λj F=>(eP j F).imp id λe=>⟨by omega,by omega⟩) (ax.lt al (by omega)),((aY.mono λ_ _ e=>e.elim).trans aJ).bJ kn λj F e=>by simp only[aj]at e;omega⟩;simp only[aj]at e;rcases eP j F with dM|dM
  ·have:=eG j dM;omega
  ·omega
 clear Z;have fa:lZ=let i:=qL (ms c) st.cO (hJ L) (xs.map (·.val)) t []
  if i.2.2≠0 then(i.1,(ad,ad),i.2.2)else
  let t:=pZ (hH c.n) (hg c.n c.aT) (kK c.n) i.1 st.cO i.2.1
  if t.2.2≠0 then(t.1,(ad,ad),t.2.2)else
  let p:=hg c.n c.aT (kK c.n t.1 st.top) tj (nH (c.aT,t.2.1))
  if p.2.2≠0 then(p.1,(ad,ad),p.2.2)else(p.1,(p.2.1,t.2.1),0):=iT.symm.trans rfl
 have YY:∀{u:World} {er:dy} {dM:Int} {Q:Nat->Prop},dM≠0->lZ=(er,(ad,ad),dM)->ga k m p c.n z c.aT ee es er u Q->(∀j,Q j->ax O ab u j)->D O ab u->
   u.1[g+1]? =some (.cells (cz dO) 46 (0,0))->aZ (.tuple #[.agg (cz st),.int .i64 dM]) (u.setRow (g+1) (cz st)):=λ{u er dM Q} aV T aD eP aJ V=>by
  have HA:Dg c.aT st ((ad,ad),dM)=st:=if_neg aV;have f:=bL T (by rw[HA];exact ok) aD eP aJ V;rw[HA]at f;exact f
 refine(ag' qB dS Bb).mono ?_;rintro hb ai ⟨il,YZ,pn,aA,NF⟩;have Y_:=agU YZ eU;subst Y_;have cI:=pn.len Tryz.underlying30 3;have I:=(aN t).ch H aA λ_ _ e=>e;have cw:=aA.size;have jd:=aA.obj bj id;have i_:=aA.obj ba id;simp[go_sem,cI];obtain⟨bg,bP⟩:∃bg:(Nat->Value)->World->Prop,bg=λf u=>f 0=.pointer (some ⟨k,0,none⟩)/\f 4=.pointer (some ⟨g,0,none⟩)/\f 6=.pointer (some ⟨g+1,0,none⟩)/\∃er lE Q,qL (ms c) st.cO (hJ L) (il.map (·.val)) t []=(er,lE,0)/\lE.length<=il.length/\(∀x∈lE,kM x)/\
   u.ownsRow 0 227 45 (f 8) lE.length (dv dF lE)/\(∀j,(f 8).ownBlock=some j->ab.1.size<=j/\¬Q j)/\ga k m p c.n z c.aT ee es er u Q/\(∀j,Q j->ax O ab u j)/\D O ab u/\f_ cp t<=f_ cp er+6600*il.length:=⟨_,rfl⟩
 refine wq bg ?_ ?_
 ·refine du (λJ f u=>∃i er lE Q,J=il.length - i/\i<=il.length/\f 0=.pointer (some ⟨k,0,none⟩)/\f 2=.pointer (some ⟨o,0,none⟩)/\f 4=.pointer (some ⟨g,0,none⟩)/\f 6=.pointer (some ⟨g+1,0,none⟩)/\f 17=hb/\f 18=.int .i64 il.length/\f 19=.int .i64 (i:Nat)/\
    qL (ms c) st.cO (hJ L) ((il.drop i).map (·.val)) er lE=qL (ms c) st.cO (hJ L) (il.map (·.val)) t []/\lE.length<=i/\(∀x∈lE,kM x)/\
    u.ownsRow 0 227 45 (f 8) lE.length (dv dF lE)/\(∀j,(f 8).ownBlock=some j->ai.1.size<=j/\¬Q j)/\ga k m p c.n z c.aT ee es er u Q/\(∀j,Q j->ax O ai u j)/\D O ai u/\f_ cp t<=f_ cp er+6600*i) il.length
   ⟨0,t,[],O,rfl,Nat.zero_le _,by simp,by simp,by simp,by simp,by simp,by simp,by simp,rfl,Nat.le_refl _,by simp,by simpa[dv]using World.ownsRow_nil _ _ _ _,by simp[Value.ownBlock],I,λj F=>.inl F,D.refl _ _,Nat.le_add_right _ _⟩ ?_
  rintro cJ bK _ f u ⟨i,er,lE,Q,rfl,aa,f0,bh,cr,f6,lz,sm,Kn,ew,sj,gg,own,iR,an,eP,aJ,C'⟩;have He:=aJ.size;by_cases aO:i<il.length
  case neg=>
   have jm:¬(i:Int)<il.length:=by omega
   have zq:i=il.length:=by omega
   subst zq;rw[List.drop_length]at ew;simp[go_sem,sm,Kn];rw[bP];exact⟨f0,cr,f6,er,lE,Q,ew.symm.trans rfl,sj,gg,own,λj F=>⟨by have:=(iR j F).1;omega,(iR j F).2⟩,an,λj F=>(eP j F).imp id λe=>⟨by omega,e.2⟩,(aA.mono λ_ _ e=>e.elim).trans aJ,C'⟩
  have jm:(i:Int)<il.length:=by omega
  obtain⟨num,Dh⟩:∃x,il[i]? =some x:=⟨_,List.getElem?_eq_getElem aO⟩;have as0:bD u hb il.length (S16.lC il):=pn.ch aJ λj F e=>by have:=NF j F;have:=eG j e;omega
  obtain⟨bp,NQ,JZ,_⟩:=as0.at asX (by simp[S16.lC]) (show(S16.lC il)[i]? =some (.int .u16 num.val)by unfold S16.lC;rw[List.getElem?_map,Dh];rfl);have gO:IntKind.i64.wrap ((i:Int)+1)=((i+1:Nat):Int):=by rw[IntKind.wrap_i64];omega
  have Bf:∀j,Q j->j<u.1.size:=(aN er).lt an;have xK:∀j,g<=j/\j<ai.1.size->¬Q j:=λj F e=>by
   rcases eP j e with dM|dM
   ·have:=eG j dM;omega
   ·omega
  have wr:=aJ.obj jd λe=>by have:=eG g e;omega
  have wj:=aJ.obj i_ λe=>by have:=eG (g+1) e;omega
  have Ye:=(qB.ch aA (λ_ _ e=>e) λ_ _ e=>e).ch aJ (λj F=>CW j (.inl F)) λj F=>CW j (.inr F);have as1:∀j,X j\/bo j->¬Q j:=λj F e=>by
   rcases eP j e with dM|dM
   ·exact CW j F dM
   ·have:=qB.lt j F;omega
  simp[go_sem,f0,bh,cr,lz,sm,Kn,aO,jm,NQ,JZ,wr,mE,lw];have sl:il.drop i=num::il.drop (i+1):=by
   rw[List.drop_eq_getElem_cons aO];rw[List.getElem?_eq_getElem aO]at Dh;rw[Option.some.inj Dh]
  refine(are ds e gy av an (by omega) st ok Ye as1 num (by omega) (un L num) (asy dS num) (YO L num) λy ar=>Hz _ _ _ (agO.1 ar).2).mono ?_;have nX:=agP ds e gy av er st.cO (L.bk num) (L.wiped num) (un L num) (YO L num) num.val;have HB:qL (ms c) st.cO (hJ L) ((il.drop i).map (·.val)) er lE=if(lV (ms c) st.cO (L.bk num) (L.wiped num) (un L num) num.val er).2.2≠0 then((lV (ms c) st.cO (L.bk num) (L.wiped num) (un L num) num.val er).1,[],(lV (ms c) st.cO (L.bk num) (L.wiped num) (un L num) num.val er).2.2)
    else qL (ms c) st.cO (hJ L) ((il.drop (i+1)).map (·.val)) (lV (ms c) st.cO (L.bk num) (L.wiped num) (un L num) num.val er).1 (lE++[(lV (ms c) st.cO (L.bk num) (L.wiped num) (un L num) num.val er).2.1]):=by
   rw[sl,List.map_cons,qL];simp only[hJ,asz]
  obtain⟨⟨t3,iq,dt⟩,qD⟩:∃y,lV (ms c) st.cO (L.bk num) (L.wiped num) (un L num) num.val er=y:=⟨_,rfl⟩;rw[qD]at nX HB⊢;simp only at nX HB;rintro _ aC ⟨rfl,NR,af,aE⟩;simp only at NR af⊢;have gL:=aE.size;have Za:=nG NR;have aha:=zu NR;have Bh:=nG vc;have si:=aE.obj wr (xK g (by omega));have iL:=aE.obj wj (xK (g+1) (by omega));have bv:=(D.refl ak aC).alloc (.cells (dF iq) 227);have ci:=cl aC (.cells (dF iq) 227);have hv:(aC.alloc (.cells (dF iq) 227)).1.size=aC.1.size+1:=by simp
  obtain⟨be,mb⟩:=az (aC.alloc (.cells (dF iq) 227));rw[mb]at bv ci hv;simp[go_sem,wd,we,Bh,Za,aha,xJ,bQ,mb];obtain⟨dw,HC⟩:=az (aC.1.size);rw[HC]at ci hv⊢;clear mb;have aU:=(aN t3).ch af bv λ_ _ e=>e;have oQ:=bv.obj si id;have lU:=bv.obj iL id;have Di:∀j,ax Q u aC j->ax O ai be j:=λj F=>by
   rcases F with F|F
   ·exact(eP j F).imp id λe=>⟨e.1,by omega⟩
   ·exact .inr ⟨by omega,by omega⟩
  have Bp:D O ai be:=(aJ.bJ aE λj F e=>(eP j e).elim id λe=>by omega).trans (bv.mono λ_ _ e=>e.elim);by_cases CZ:dt=0
  ·subst CZ;have lA:((0:Int)!=0)=false:=by decide
   rw[if_neg (by simp)]at HB;simp[↓yK,go_sem,lA,ci,Za,aha];refine AH (Zb NR _) ?_;simp[go_sem];have Bq:be.ownsRow 0 227 45 (f 8) lE.length (dv dF lE):=ej (ej own aE λj F e=>(iR j F).2 e) bv λ_ _ e=>e;refine va (n:=lE.length) (us:=(dF iq).toList) SP Bq (by rw[Array.length_toList,Za]) (CP xJ) (by unfold maxLen;omega) (by omega) λkD cd rq rr xA=> ?_;have oh:=rr.size;have n6:∀j,(f 8).ownBlock=some j->ai.1.size<=j/\¬Q j/\j<u.1.size:=λj F=>⟨(iR j F).1,(iR j F).2,oJ own j F⟩;have cG:=(aN t3).ch aU rr λj F e=>by
    have:=n6 j e;rcases F with F|F
    ·exact this.2.1 F
    ·omega
   have Yz:dv dF (lE++[iq])=dv dF lE++(dF iq).toList:=by rw[xi,yE]
   simp[go_sem,Kn,gO];refine cH.intro (il.length -(i+1)) (by omega) (bK _ _ _ ⟨i+1,t3,lE++[iq],ax Q u aC,rfl,by omega,by simp[f0],by simp[bh],by simp[cr],by simp[f6],by simp[lz],by simp[sm],by simp,by rw[<-HB,ew],by rw[List.length_append,List.length_singleton];omega,λy ar=> ?_,?_,λj F=> ?_,cG,λj F=>(Di j F).imp id λe=>⟨e.1,by omega⟩,Bp.bJ rr λj F e=>by have:=(n6 j e).1;omega,by omega⟩)
   ·rcases List.mem_append.1 ar with ar|ar
    ·exact gg y ar
    ·rw[List.mem_singleton]at ar;rw[ar];exact NR
   ·rw[show(lE++[iq]).length=lE.length+1 by simp,Yz];simpa using rq
   ·have jt:kD.ownBlock=some j:=by simpa using F
    rcases xA with e|e
    ·rw[e]at jt;have:=n6 j jt;exact⟨this.1,λe=>e.elim this.2.1 λe=>by omega⟩
    ·have:=e j jt;exact⟨by omega,λe=>e.elim (λe=>by have:=Bf j e;omega) λe=>by omega⟩
  ·have jR:(dt !=0)=true:=by simpa using CZ
   rw[if_pos CZ]at HB;rw[<-ew,HB]at fa;simp only at fa;rw[if_pos CZ]at fa;simp[go_sem,jR,cr,f6,oQ,lU,mE,lw,dN,qK,bQ];exact YY CZ fa aU (λj F=>(Di j F).imp id λe=>⟨by omega,e.2⟩) ((aA.mono λ_ _ e=>e.elim).trans Bp) lU
 ·rw[bP];clear bP bg pn;rintro f u ⟨f0,cr,f6,er,lE,Q,ew,sj,gg,own,iR,an,eP,aJ,C'⟩;rw[ew]at fa;simp only at fa;rw[if_neg (by simp)]at fa;have He:=aJ.size;have Bf:∀j,Q j->j<u.1.size:=(aN er).lt an;have xK:∀j,g<=j/\j<ab.1.size->¬Q j:=λj F e=>by
   rcases eP j e with dM|dM
   ·have:=eG j dM;omega
   ·omega
  have wr:=aJ.obj bj λe=>by have:=eG g e;omega
  have wj:=aJ.obj ba λe=>by have:=eG (g+1) e;omega
  have Yn:fA u (f 8) qz 45 lE:=fA.fp own λx M=>nG (gg x M);simp[go_sem,f0,cr,wr,mE,el];refine(asf (EQ ds e gy av) (by omega) aN an st.cO ok.cO (f 8) lE Yn gg (λj F=>⟨(iR j F).2,oJ own j F⟩) (by omega) (an.ck e).1 (ga.dJ e)).mono ?_;have kl:=agR ds e gy av er st.cO lE;obtain⟨⟨t4,hQ,cW⟩,kp⟩:∃y,pZ (hH c.n) (hg c.n c.aT) (kK c.n) er st.cO lE=y:=⟨_,rfl⟩;rw[kp]at fa kl⊢;rintro _ aC ⟨rfl,xL,af,aE⟩;simp only at fa xL af kl⊢;have gL:=aE.size;have Hm:=bW xL;have NS:=dW xL;have so:=bW cE;have si:=aE.obj wr (xK g (by omega));have iL:=aE.obj wj (xK (g+1) (by omega));have bv:=(D.refl ak aC).alloc (.cells (Y hQ) 44);have ci:=cl aC (.cells (Y hQ) 44);have hv:(aC.alloc (.cells (Y hQ) 44)).1.size=aC.1.size+1:=by simp
  obtain⟨be,mb⟩:=az (aC.alloc (.cells (Y hQ) 44));rw[mb]at bv ci hv;simp[go_sem,gm,gn,so,Hm,NS,sN,bQ,mb];obtain⟨dw,HC⟩:=az (aC.1.size);rw[HC]at ci hv⊢;clear mb;have aU:=(aN t4).ch af bv λ_ _ e=>e;have oQ:=bv.obj si id;have lU:=bv.obj iL id;have Di:∀j,ax Q u aC j->ax O ab be j:=λj F=>by
   rcases F with F|F
   ·exact(eP j F).imp id λe=>⟨e.1,by omega⟩
   ·exact .inr ⟨by omega,by omega⟩
  have y_:D O ab be:=(aJ.bJ aE λj F e=>(eP j e).elim id λe=>by omega).trans (bv.mono λ_ _ e=>e.elim);by_cases Dj:cW=0
  case neg=>
   have jR:(cW !=0)=true:=by simpa using Dj
   rw[if_pos Dj]at fa;simp[go_sem,jR,cr,f6,oQ,lU,mE,lw,dN,qK,bQ];exact YY Dj fa aU Di y_ lU
  subst Dj;have lA:((0:Int)!=0)=false:=by decide
  rw[if_neg (by simp)]at fa;simp[go_sem,lA,f0,cr,oQ,mE,pc];refine(XW aU st.top ok.top).mono ?_;rintro _ bw ⟨rfl,bC,bx⟩;have j_:=bx.size;have as2:=Sh ds c.n t4 st.top;obtain⟨t5,as3⟩:=az (kK c.n t4 st.top);rw[as3]at bC fa as2;have ws:∀j,g<=j/\j<ab.1.size\/j=dw->¬ax Q u aC j:=λj F e=>by
   rcases e with e|e
   ·grind
   ·omega
  have CY:=bx.obj oQ (ws g (by omega));have qv:=bx.obj lU (ws (g+1) (by omega));have HD:=bx.obj ci (ws dw (by omega));have Br:D O ab bw:=y_.bJ bx λj F e=>(Di j e).elim id λe=>by omega
  have ahb:∀j,ax (ax Q u aC) be bw j->ax O ab bw j:=λj F=>by
   rcases F with F|F
   ·exact(Di j F).imp id λe=>⟨e.1,by omega⟩
   ·exact .inr ⟨by omega,by omega⟩
  simp[go_sem];have ahc:=Nc ds c.n c.aT t5 tj (nH (c.aT,hQ));obtain⟨⟨xU,P,hw⟩,dE⟩:∃y,hg c.n c.aT t5 tj (nH (c.aT,hQ))=y:=⟨_,rfl⟩;rw[dE]at fa ahc;simp only at fa ahc;have Zc:xV (c.aT,hQ):=⟨gy,xL⟩;have dk:=λ{w:World} {K:Value->World->Prop}=>as4 c.aT hQ xL gy (w:=w) (K:=K);have as5:∀j,ax (ax Q u aC) be bw j->j<bw.1.size:=(aN t5).lt bC;have Fb:∀j,(g<=j/\j<ab.1.size\/j=dw)\/bw.1.size<=j->¬ax (ax Q u aC) be bw j:=λj F e=>by
   rcases F with F|F
   ·rcases e with e|e
    ·exact ws j F e
    omega
   ·have:=as5 j e;omega
  have za:∀{N:World} {v:Value},ga k m p c.n z c.aT ee es t5 N (ax (ax Q u aC) be bw)->bD N v 512 (bm (nH (c.aT,hQ)))->(∀j,v.ownBlock=some j->bw.1.size<=j/\j<N.1.size)->aP Tryz.prog 125 #[.pointer (some ⟨k,0,none⟩),.agg (Y tj),v] N λW w'=>W=.tuple #[.agg (Y P),.int .i64 hw]/\bN P/\ga k m p c.n z c.aT ee es xU w' (ax (ax (ax Q u aC) be bw) N w')/\D (ax (ax Q u aC) be bw) N w':=λ{N v} fu aS hS=>by
   have:=afS ds e gy av fu (by omega) tj asY (nH (c.aT,hQ)) (Zd xL) v aS λj F=>⟨Fb j (.inr (hS j F).1),(hS j F).2⟩;rw[dE]at this;exact this
  obtain⟨ahd,Fc⟩:∃bg:(Nat->Value)->World->Prop,bg=λf' N=>f' 0=.pointer (some ⟨k,0,none⟩)/\f' 4=.pointer (some ⟨g,0,none⟩)/\f' 6=.pointer (some ⟨g+1,0,none⟩)/\f' 13=.pointer (some ⟨dw,0,none⟩)/\f' 14=.int .i64 hw/\∃fB Ze,f' 15=.pointer (some ⟨fB,0,none⟩)/\
    bN P/\N.1[fB]? =some (.cells (Y P) 44 (0,0))/\N.1[g]? =some (.cells (cz st) 46 (0,0))/\N.1[g+1]? =some (.cells (cz dO) 46 (0,0))/\N.1[dw]? =some (.cells (Y hQ) 44 (0,0))/\ga k m p c.n z c.aT ee es xU N Ze/\(∀j,Ze j->ax O ab N j)/\D O ab N:=⟨_,rfl⟩
  refine SR ahd [[A 0,A 1,A 2,A 3,A 4,A 5,A 6,A 7,(8,some [0,1]),(9,some []),A 10,A 11,A 12,(13,some [10,11,12]),(14,some [12]),A 15],
   [A 0,A 1,A 2,A 3,A 4,A 5,A 6,A 7,(8,some [0,1]),(13,some [0,1]),(9,some []),A 10,A 11,A 12,(14,some [12]),A 15],
   [A 0,A 1,A 2,A 3,A 4,A 5,A 6,A 7,(13,some [0,1,2,3,4,5,6,7]),(8,some [0,1]),(9,some []),A 10,A 11,A 12,(14,some [12]),A 15]] (by kernel_rfl) (by kernel_rfl) ?_ ?_
  ·intro nn th;simp only[List.mem_cons,List.not_mem_nil,or_false]at th;have dU:=(D.refl ak bw).drew;obtain⟨hU,pm⟩:=az (bw.drew);have jv:hU.1.size=bw.1.size:=by rw[<-pm];rfl
   rw[pm]at dU⊢;clear pm;have bi:=(aN t5).ch bC dU λ_ _ e=>e;have Fe:=dU.obj CY id;have pX:=dU.obj qv id;have zG:=dU.obj HD id;have NT:=bi.aT;have Zf:∀{N Bs:World},D ak hU N->D (ax (ax Q u aC) be bw) N Bs->ga k m p c.n z c.aT ee es xU Bs (ax (ax (ax Q u aC) be bw) N Bs)->Bs.1[g]? =some (.cells (cz st) 46 (0,0))/\Bs.1[g+1]? =some (.cells (cz dO) 46 (0,0))/\Bs.1[dw]? =some (.cells (Y hQ) 44 (0,0))/\(∀j,ax (ax (ax Q u aC) be bw) N Bs j->ax O ab Bs j)/\D O ab Bs:=λ{N Bs} pW uo Dk=>by
    have Yx:=pW.size;have ahe:=uo.size;refine⟨uo.obj (pW.obj Fe id) (Fb g (.inl (.inl (by omega)))),uo.obj (pW.obj pX id) (Fb (g+1) (.inl (.inl (by omega)))),uo.obj (pW.obj zG id) (Fb dw (.inl (.inr rfl))),λj F=> ?_,?_⟩
    ·rcases F with F|F
     ·exact(ahb j F).imp id λe=>⟨e.1,by omega⟩
     ·exact .inr ⟨by omega,by omega⟩
    ·exact(Br.trans ((dU.trans pW).mono λ_ _ e=>e.elim)).bJ uo λj F e=>(ahb j e).elim id λe=>by omega
   rcases th with rfl|rfl|rfl
   ·simp[go_sem,f0,zG,Hm,NS,Ko,NT,dk];refine(Zg (c.aT,hQ) hU Zc).mono ?_;rintro HE Dl qM;have Dm:=qM.ch;have Dn:bD Dl HE 512 (bm (nH (c.aT,hQ))):=bD.fp qM.own;simp[go_sem,f0,Ko];refine(za ((aN t5).ch bi Dm λ_ _ e=>e) Dn λj F=>⟨by have:=qM.up j F;omega,oJ qM.own j F⟩).mono ?_;rintro _ vl ⟨rfl,fy,Dk,uo⟩;obtain⟨cK,hr,ei,hs,mc⟩:=Zf Dm uo Dk;have HF:=bW fy;have fK:=(D.refl ak vl).alloc (.cells (Y P) 44);have Bt:=cl vl (.cells (Y P) 44);have Sz:(vl.alloc (.cells (Y P) 44)).1.size=vl.1.size+1:=by simp
    obtain⟨Nr,ahf⟩:=az (vl.alloc (.cells (Y P) 44));rw[ahf]at fK Bt Sz;simp[go_sem,gm,gn,so,HF,sN,bQ,ahf];rw[Fc];refine⟨f0,cr,f6,by simp,by simp,vl.1.size,_,by simp,fy,Bt,fK.obj cK id,fK.obj hr id,fK.obj ei id,(aN xU).ch Dk fK λ_ _ e=>e,λj F=>(hs j F).imp id λe=>⟨e.1,by omega⟩,mc.trans (fK.mono λ_ _ e=>e.elim)⟩
   ·simp[go_sem,f0,zG,Hm,NS,Ko,NT,dk];refine(Zg (c.aT,hQ) hU Zc).mono ?_;rintro HE Dl qM;have Dm:=qM.ch;have as6:=Dm.size;have as7:bD Dl HE 512 (bm (nH (c.aT,hQ))):=bD.fp qM.own;have Ff:=(D.refl ak Dl).alloc (.cells (Y ad) 44);have NU:=cl Dl (.cells (Y ad) 44);have Zh:(Dl.alloc (.cells (Y ad) 44)).1.size=Dl.1.size+1:=by simp
    obtain⟨Kp,ahg⟩:=az (Dl.alloc (.cells (Y ad) 44));rw[ahg]at Ff NU Zh;obtain⟨fB,qI⟩:=az (Dl.1.size);rw[qI]at NU;have Dn:=as7.ch Ff λ_ _ e=>e;have NV:=Dm.trans Ff;have Do:∀j,HE.ownBlock=some j->bw.1.size<=j/\j<Kp.1.size:=λj F=>⟨by have:=qM.up j F;omega,by have:=oJ qM.own j F;omega⟩;simp[go_sem,f0,Ko,gm,gn,ahg,qI];refine(za ((aN t5).ch bi NV λ_ _ e=>e) Dn Do).mono ?_;rintro _ vl ⟨rfl,fy,Dk,uo⟩;obtain⟨cK,hr,ei,hs,mc⟩:=Zf NV uo Dk;have HF:=bW fy;have ahe:=uo.size;have NW:=uo.obj NU (Fb fB (.inr (by omega)));have fK:=(D.refl (aj fB) vl).setRow (g:=fB) (.inl rfl) (Y P);have Bt:(vl.setRow fB (Y P)).1[fB]? =some (.cells (Y P) 44 (0,0)):=by rw[gk,NW];rfl
    have Sz:=fK.size;have xH:∀j,ax (ax (ax Q u aC) be bw) Kp vl j->¬aj fB j:=λj F e=>by
     simp only[aj]at e;rcases F with F|F
     ·exact Fb fB (.inr (by omega)) (by rw[<-e];exact F)
     ·omega
    simp[go_sem,NW,so,HF,sN,bQ];rw[Fc];refine⟨f0,cr,f6,by simp,by simp,fB,_,by simp,fy,Bt,fK.obj cK λe=>by simp only[aj]at e;omega,fK.obj hr λe=>by simp only[aj]at e;omega,fK.obj ei λe=>by simp only[aj]at e;omega,(aN xU).ch Dk fK xH,λj F=>(hs j F).imp id λe=>⟨e.1,by omega⟩,mc.bJ fK λj F e=>by simp only[aj]at e;omega⟩
   ·have Ff:=(D.refl ak hU).alloc (.cells (Y ad) 44);have Zi:=cl hU (.cells (Y ad) 44);have Zh:(hU.alloc (.cells (Y ad) 44)).1.size=hU.1.size+1:=by simp
    obtain⟨cF,uf⟩:=az (hU.alloc (.cells (Y ad) 44));rw[uf]at Ff Zi Zh;obtain⟨fB,qI⟩:=az (hU.1.size);rw[qI]at Zi;have as8:=Ff.obj zG id;have as9:=((aN t5).ch bi Ff λ_ _ e=>e).aT;simp[go_sem,f0,zG,as8,Hm,NS,Ko,NT,as9,dk,gm,gn,uf,qI];refine(Zg (c.aT,hQ) cF Zc).mono ?_;rintro HE Kp qM;have Dm:=qM.ch;have as6:=Dm.size;have Dn:bD Kp HE 512 (bm (nH (c.aT,hQ))):=bD.fp qM.own;have NU:=Dm.obj Zi id;have NV:=Ff.trans Dm;have Do:∀j,HE.ownBlock=some j->bw.1.size<=j/\j<Kp.1.size:=λj F=>⟨by have:=qM.up j F;omega,oJ qM.own j F⟩;simp[go_sem,f0,Ko];refine(za ((aN t5).ch bi NV λ_ _ e=>e) Dn Do).mono ?_;rintro _ vl ⟨rfl,fy,Dk,uo⟩;obtain⟨cK,hr,ei,hs,mc⟩:=Zf NV uo Dk;have HF:=bW fy;have ahe:=uo.size;have NW:=uo.obj NU (Fb fB (.inr (by omega)));have fK:=(D.refl (aj fB) vl).setRow (g:=fB) (.inl rfl) (Y P);have Bt:(vl.setRow fB (Y P)).1[fB]? =some (.cells (Y P) 44 (0,0)):=by rw[gk,NW];rfl
    have Sz:=fK.size;have xH:∀j,ax (ax (ax Q u aC) be bw) Kp vl j->¬aj fB j:=λj F e=>by
     simp only[aj]at e;rcases F with F|F
     ·exact Fb fB (.inr (by omega)) (by rw[<-e];exact F)
     ·omega
    simp[go_sem,NW,so,HF,sN,bQ];rw[Fc];refine⟨f0,cr,f6,by simp,by simp,fB,_,by simp,fy,Bt,fK.obj cK λe=>by simp only[aj]at e;omega,fK.obj hr λe=>by simp only[aj]at e;omega,fK.obj ei λe=>by simp only[aj]at e;omega,(aN xU).ch Dk fK xH,λj F=>(hs j F).imp id λe=>⟨e.1,by omega⟩,mc.bJ fK λj F e=>by simp only[aj]at e;omega⟩
  ·rw[Fc];clear Fc ahd za;rintro f N ⟨f0,cr,f6,eW,f14,fB,Ze,f15,fy,Kg,as_,Zj,as',ahh,ahi,pW⟩;have HF:=bW fy;have ata:=dW fy;have Yx:=pW.size;by_cases Fg:hw=0
   case neg=>
    have jR:(hw !=0)=true:=by simpa using Fg
    rw[if_pos Fg]at fa;simp[go_sem,jR,cr,f6,f14,as_,Zj,mE,lw,dN,qK,bQ];exact YY Fg fa ahh ahi pW Zj
   subst Fg;have lA:((0:Int)!=0)=false:=by decide
   rw[if_neg (by simp)]at fa;have CN:gV ⟨c.aT,P,hQ⟩:=⟨gy,fy,xL⟩;have atb:=iQ CN;have atc:=zr CN;have HA:Dg c.aT st ((P,hQ),(0:Int))=⟨c.aT,P,hQ⟩:=if_pos rfl;simp[go_sem,lA,f14];refine cD [A 0,A 1,A 2,A 3,A 4,A 5,A 6,(7,some []),A 8] ?_;have dU:=(D.refl ak N).drew;obtain⟨hU,pm⟩:=az (N.drew);have jv:hU.1.size=N.1.size:=by rw[<-pm];rfl
   rw[pm]at dU⊢;clear pm;have bi:=(aN xU).ch ahh dU λ_ _ e=>e;have NT:=bi.aT;have pX:=dU.obj Zj id;have zG:=dU.obj as' id;have atd:=dU.obj Kg id;have oO:=λ{w:World} {K:Value->World->Prop}=>ag8 CN (w:=w) (K:=K);simp only at oO;simp[go_sem,f0,f6,eW,f15,NT,zG,atd,pX,Hm,NS,HF,ata,oO,dN,atb,atc,qK,bQ];have f:=bL fa (by rw[HA];exact CN) bi (λj F=>(ahi j F).imp id λe=>⟨e.1,by omega⟩) (pW.trans (dU.mono λ_ _ e=>e.elim)) pX;rw[HA]at f;exact f
end
end Go.Proofs.YtoohkhcpboldjaaGreatDoor
