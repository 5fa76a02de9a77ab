/- Tables: the items of each leaf, gathered in a map. No condition but that the values are of their types. -/
import Derived.Test.YtoohkhcpboldjaaGreatDoorSqG
import Derived.Laws.Externs
import Derived.Test.YtoohkhcpboldjaaGreatDoorStA
set_option maxRecDepth 100000
set_option maxHeartbeats 2000000
set_option linter.unusedSimpArgs false
set_option linter.unusedVariables false
namespace Go.Proofs.YtoohkhcpboldjaaGreatDoor
open Go.RowKit Go.Kin Go.Maps
def fM.BS(L:fM)(num:em)(x:br):fM:=if oP num 0&&fI x then{L with bk:=λa=>if a=num then some x else L.bk a}else L
theorem aw6(dB:TypeId)(ca:Value)(w:World):aP Tryz.prog 15 #[.iface dB ca] w λW w'=>∃o z,W=.tuple #[.pointer (some ⟨o,0,none⟩),.int .i64 0]/\po w' o (.iface dB ca) (.pointer none) 0 fM.fh (λk=>w.1.size<=k/\k<w'.1.size) (λ_=>False) z/\D ak w w':=by
 refine bn Tryz.func15 Tryz.ntmps15 λaZ Z=> ?_;have C':∀(t:TypeId) (w:World),(Instr.makeMap t none).run Tryz.prog w=.ok (.map (some w.1.size)) (w.alloc (.map #[] 0)):=λ_ _=>rfl;have aY:=(((D.refl ak w).alloc (.map #[] 0)).alloc (.map #[] 0)).alloc (.map #[] 0);have y':=(((ic.bI w Tryz.prog 39 mQ).ch ((D.refl ak _).alloc (.map #[] 0)) λe=>e).ch ((D.refl ak _).alloc (.map #[] 0)) λe=>e);have gv:=((ic.bI (w.alloc (.map #[] 0)) Tryz.prog 187 tA).ch ((D.refl ak _).alloc (.map #[] 0)) λe=>e);have fl:=ic.bI ((w.alloc (.map #[] 0)).alloc (.map #[] 0)) Tryz.prog 39 mQ;have aw:(((w.alloc (.map #[] 0)).alloc (.map #[] 0)).alloc (.map #[] 0)).1.size=w.1.size+1+1+1:=by simp
 have H:(w.alloc (.map #[] 0)).1.size=w.1.size+1:=by simp
 have I:((w.alloc (.map #[] 0)).alloc (.map #[] 0)).1.size=w.1.size+1+1:=by simp
 rw[H]at gv;rw[I]at fl;simp[go_sem,C'];revert aY y' gv fl aw;generalize((w.alloc (.map #[] 0)).alloc (.map #[] 0)).alloc (.map #[] 0)=ab;obtain⟨q,aq⟩:=az (w.1.size);rw[aq];intro aY y' gv fl aw;have fV:=cl ab (.cells #[.iface dB ca,.pointer none,.map (some q),.map (some (q+1)),.map (some (q+1+1))] 144);have iS:=(D.refl ak ab).alloc (.cells #[.iface dB ca,.pointer none,.map (some q),.map (some (q+1)),.map (some (q+1+1))] 144);have jg:(ab.alloc (.cells #[.iface dB ca,.pointer none,.map (some q),.map (some (q+1)),.map (some (q+1+1))] 144)).1.size=q+4:=by simp[aw]
 rw[aw]at fV;generalize ab.alloc (.cells #[.iface dB ca,.pointer none,.map (some q),.map (some (q+1)),.map (some (q+1+1))] 144)=ai at*;refine Z _ _ ⟨q+1+1+1,⟨q,q+1,q+1+1⟩,rfl,⟨fV,y'.ch iS id,by simp[fM.fh],⟨_,gv.ch iS id,λa=>⟨λ_=>rfl,by simp[fM.fh]⟩⟩,by simp[fM.fh],fl.ch iS id,by simp[fM.fh],?_,⟨by simp only;omega,by simp only;omega,by simp only;omega,by simp only;omega,by simp only;omega,by simp only;omega⟩,λ_ e=>e.elim,?_⟩,aY.trans iS⟩
 ·grind
 grind
section
variable{w w':World}{S:Nat->Prop}{o n:Nat}{base hI:Value}{L:fM}{X bo Y':Nat->Prop}{z:xF}
theorem po.mono(h:po w o base hI n L X bo z){m:Nat}(aH:n<=m):po w o base hI m L X bo z:=by
 obtain⟨vy,H,I⟩:=h.lf;exact⟨h.blk,h.bk.mono aH,h.JT,⟨vy,H.mono aH,I⟩,h.Uw,h.vz.mono aH,h.aa9,h.x,h.ne,h.sV,h.lt⟩
theorem po.rY(h:po w o base hI n L X bo z){m:Nat}(aH:n<=m)(T:D (aj z.tB) w w'){f:em->Option br}(bU:ic w' Tryz.prog 39 mQ z.tB m λa=>(f a).map FQ)(ok:∀a x,f a=some x->gR x):po w' o base hI m {L with bk:=f} X bo z:=by
 have pU:∀k,bo k->¬aj z.tB k:=λk r e=>by simp only[aj]at e;subst e;exact h.sV _ r (h.x _ (.inr (.inl rfl)))
 obtain⟨vy,H,I⟩:=h.lf;refine⟨T.obj h.blk h.ne.2.2.2.1,bU,ok,⟨vy,(H.ch T λe=>h.ne.1 e.symm).mono aH,λa=>⟨(I a).1,λb V=> ?_⟩⟩,h.Uw,(h.vz.ch T λe=>h.ne.2.1 e.symm).mono aH,h.aa9,h.x,h.ne,h.sV,λk r=>Nat.lt_of_lt_of_le (h.lt k r) T.size⟩;obtain⟨v,af,aU,bC⟩:=(I a).2 b V;exact⟨v,af,aU.ch T λk r=>pU k (bC k r),bC⟩
theorem aw8(h:po w o base hI n L X bo z)(num:em)(x:br)(dh:gR x)(bH:lN w)(av:n<=1000000):aP Tryz.prog 51 #[.pointer (some ⟨o,0,none⟩),.int .u16 num.val,.agg (bk x)] w λW w'=>W=.int .i64 (if oP num 0&&fI x then 0 else 1)/\po w' o base hI (n+1) (L.BS num x) X bo z/\D X w w':=by
 refine bn Tryz.func51 Tryz.ntmps51 λaZ Z=> ?_;have aw:=jr dh;have ZG:=tO dh;have fV:=cl w (.cells (bk x) 113);have aY:=(D.refl ak w).alloc (.cells (bk x) 113);simp[go_sem];obtain⟨q,aq⟩:=az (w.1.size);rw[aq]at fV⊢;generalize w.alloc (.cells (bk x) 113)=ab at*;have H:=h.ch aY (λ_ _ e=>e) λ_ _ e=>e;have amA:D X w ab:=aY.mono λ_ _ e=>e.elim;have oc:=ay0 o num 0 ab;have aC2:((0:gP).val:Int)=0:=rfl;rw[aC2]at oc;refine oc.mono ?_;rintro _ ai ⟨rfl,hd⟩;subst ai
 cases gg:oP num 0 with
 |false=>
  simp[go_sem];have e:L.BS num x=L:=by unfold fM.BS;grind
  exact Z _ _ ⟨by rw[gg];rfl,by rw[e];exact H.mono (by omega),amA⟩
 |true=>
  simp[go_sem,fV,aw,ZG];refine(Rs x ab dh (bH.ch aY id)).mono ?_;rintro _ aC ⟨rfl,aE⟩;have af:=H.ch aE (λ_ _ e=>e) λ_ _ e=>e;have amB:D X w aC:=amA.trans (aE.mono λ_ _ e=>e.elim)
  cases aH:fI x with
  |false=>
   simp[go_sem];have e:L.BS num x=L:=by unfold fM.BS;grind
   exact Z _ _ ⟨by rw[gg,aH];rfl,by rw[e];exact af.mono (by omega),amB⟩
  |true=>
   have cm:=aE.obj fV id;have aA:aC.cell? ⟨o,2,none⟩=some (.map (some z.tB)):=aG af.blk 2;have amC:=af.ch (D.refl ak aC).drew (λ_ _ e=>e) λ_ _ e=>e;obtain⟨bw,uG,AP,bx,_⟩:=amC.bk.put DG Tryz.underlying141 (by unfold maxLen;omega) num (.agg (bk x));have uG:(Instr.mapUpdate 141 (.map (some z.tB)) (.int .u16 num.val) (.agg (bk x))).run Tryz.prog aC.drew=.ok () bw:=uG;have Zw:aC.drew.1[q]? =some (.cells (bk x) 113 (0,0)):=cm;simp[go_sem];refine cD [A 0,A 1,A 2,A 3,A 4,A 5,(6,some [])] ?_;simp[go_sem,aA,cm,Zw,aw,ZG,uG];have e:L.BS num x={L with bk:=λa=>if a=num then some x else L.bk a}:=by unfold fM.BS;grind
   refine Z _ _ ⟨by rw[gg,aH];rfl,?_,amB.trans (D.iy (D.mono bx (λk _ e=>by simp only[aj]at e;subst e;exact h.x _ (.inr (.inl rfl)))))⟩;rw[e];refine amC.rY (Nat.le_succ n) bx ?_ λa y ar=> ?_
   ·have aW:(λa=>(if a=num then some x else L.bk a).map FQ)=λa=>if a=num then some (.agg (bk x))else(L.bk a).map FQ:=by
     funext a;by_cases am:a=num<;>simp[am,FQ]
    rw[aW];exact AP
   ·split at ar
    ·cases ar;exact dh
    ·exact h.JT a y ar
end
end Go.Proofs.YtoohkhcpboldjaaGreatDoor
namespace Go.Proofs.YtoohkhcpboldjaaGreatDoor.S16
open Go.RowKit Go.Kin Go.Maps Go.Sort
abbrev dI:=SS.dI
abbrev lt:em->em->Bool:=SS.lt (bb:=true)
theorem DJ(n:Nat)(av:n<=255)(w:World):aP Tryz.prog 194 #[.int .u64 n] w λW w'=>W=.int .i64 (bitsLen n)/\w'=w:=SS.DJ n av w
theorem Lt{w:World}{blk:Nat}{d:Array em}(h:dm mQ w blk d)(cap:Nat)(cL:d.size<=255):
  aP Tryz.prog 139 #[dI blk d.size cap] w λ_ w'=>∃c_,dm mQ w' blk c_/\PermIn 0 d.size d c_/\SortedIn lt 0 d.size c_/\D (aj blk) w w':=SS.Lt (bb:=true) h cap cL
theorem abF(w:World)(ag:Option Addr)(cap:Nat):aP Tryz.prog 223 #[.slice ag 0 cap,.int .i64 0,.int .i64 0] w λ_ w'=>D ak w w':=by
 refine bn Tryz.func223 Tryz.ntmps223 λaZ Z=> ?_;have de:IntKind.i64.wrap 1=1:=rfl;simp[go_sem,de];refine du (λJ f u=>J=0/\f 6=.int .i64 1/\f 2=.int .i64 0/\u=w) 0 ⟨rfl,by simp,by simp,rfl⟩ ?_;rintro cJ bK J f u ⟨rfl,f6,bh,rfl⟩;simp[go_sem,f6,bh];exact Z _ _ (D.refl _ _)
theorem PV(w:World)(ag:Option Addr)(cap:Nat):aP Tryz.prog 139 #[.slice ag 0 cap] w λ_ w'=>D ak w w':=by
 refine bn Tryz.func139 Tryz.ntmps139 λaZ Z=> ?_;have al:aP Tryz.prog 194 #[.int .u64 0] w λW w'=>W=.int .i64 0/\w'=w:=DJ 0 (by omega) w;simp[go_sem];refine al.mono ?_;rintro _ ab ⟨rfl,bH⟩;subst ab;simp[go_sem];have ah:aP Tryz.prog 193 #[.slice ag 0 cap,.int .i64 0,.int .i64 0,.int .i64 0] w λ_ w'=>D ak w w':=by
  refine bn Tryz.func193 Tryz.ntmps193 λaZ Z=> ?_;simp[go_sem];refine du (λJ f u=>J=0/\f 0=.slice ag 0 cap/\f 1=.int .i64 0/\f 2=.int .i64 0/\u=w) 0 ⟨rfl,by simp,by simp,by simp,rfl⟩ ?_;rintro cJ bK J f u ⟨rfl,f0,a_,bh,rfl⟩;have pf:IntKind.i64.wrap 0=0:=rfl;simp[go_sem,f0,a_,bh,pf];refine(abF u ag cap).mono ?_;intro _ ai aA;simp[go_sem];exact Z _ _ aA
 refine ah.mono ?_;intro _ ai aA;simp[go_sem];exact Z _ _ aA
theorem PW{P:Program}{k:TypeId}{jy:Type}{eL:jy->Value}{w:World}{b J n eN:Nat}{aR:jy->Option Value}{left:jy->Bool}(h:rI w P k eL b J n aR left eN):∃o:Obj,w.1[J]? =some o/\o.isWalk=true:=by
 obtain⟨L,lf,h,I⟩:=h;obtain⟨gC,ly,tS,aa8,fG,cB,cb,cj,dw,cu,cM⟩:=h;exact⟨_,cu,rfl⟩
def xN(aR:em->Option Value)(xs:List em):Prop:=xs.Nodup/\∀a,a∈xs↔(aR a).isSome=true
section
variable{w u:World}{blk b q n:Nat}{aR:em->Option Value}{S:Nat->Prop}
theorem abG(h:ic w Tryz.prog 39 mQ b n aR)(aq:w.cell? ⟨q,0,none⟩=some (.map (some b)))(aAO:¬S b)(cf:∀k,S k->k<w.1.size):
  Cy Tryz.prog 140 [.pointer (some ⟨q,0,none⟩)] 1 (λa=>[Value.int .u16 (a:em).val]) (xN aR) (λ_=>True) n S w:=by
 refine⟨λx=>rfl,λargs w=>by simp[go_sem],?_⟩;intro l cJ ri N fu bK Et hu bf;have aO:=h.lt;have MO:N.cell? ⟨q,0,none⟩=some (.map (some b)):=fu.cell aq id;obtain⟨ab,eN,ap,aF,zR,aI,bt⟩:=(h.ch fu id).range DG Tryz.underlying135;obtain⟨J,yc⟩:=az (N.1.size);rw[yc]at ap aF;have PG:=fu.size;have Jw:∀{ag B:World},D ak ag B->ag.grownBy B none:=λ{ag B} T=>⟨T.os,T.tape,T.output,T.size,λk r _=>T.block k r id⟩;have abH:∀{ag B:World},D (aj J) ag B->ag.grownBy B (some J):=λ{ag B} T=>⟨T.os,T.tape,T.output,T.size,λk r av=>T.block k r λe=>av (by simp only[aj]at e;rw[e])⟩;refine bn Tryz.func140 Tryz.ntmps140 λaZ Z=> ?_;simp[go_sem,MO,ap];refine du (λt f u=>∃left pre,f 0=.func (.yield l) #[] #[]/\f 5=.pointer (some ⟨J,0,none⟩)/\rI u Tryz.prog 39 mQ b J n aR left t/\cJ pre u/\pre.Nodup/\(∀a,left a=true↔((aR a).isSome=true/\a∉pre))/\(∀a∈pre,(aR a).isSome=true)/\pre.length+t<=n) eN
  ⟨_,[],by simp,by simp,aF,bK _ _ _ none bf (Jw aI) (λJ e=>by cases e),List.nodup_nil,λa=>by simp,λa am=>by simp at am,by simp;omega⟩ ?_
 rintro bg bP t f u ⟨left,pre,f0,cN,Ab,F,jK,abI,Ky,cI⟩;rcases Ab.next DG 0 with⟨al,qg⟩|⟨a,v,fw,dK,al,FR,qg,wO,BW,aA,_,BX⟩
 ·simp[go_sem,cN,qg];refine Z _ _ (.inl ⟨pre,⟨jK,λa=>⟨Ky a,λam=> ?_⟩⟩,F⟩)
  grind
 ·obtain⟨xj,aAP⟩:=(abI a).1 al;have mA:=bK pre u fw (some J) F (abH aA) λRq e=>by
   cases e
   exact⟨by omega,PW Ab⟩
  have ar:=hu pre a fw mA (by omega);simp[go_sem,cN,qg,BX,f0,mQ];refine MQ _ _ _ ar ?_;rintro _ w' (⟨rfl,jt,r⟩|⟨rfl,AQ⟩)
  ·simp[go_sem];have PB:rI w' Tryz.prog 39 mQ b J n aR (λc=>left c&&decide (c≠a)) dK:=wO.ch r (λe=>by
    grind) (λe=>by
    rcases e with e|⟨e,aW⟩
    ·have:=cf J e;omega
    ·obtain⟨o,aB,eo⟩:=PW wO
     grind)
   refine cH.intro dK BW (bP _ _ _ ⟨_,pre++[a],by simp[f0],by simp[cN],PB,jt,?_,λc=> ?_,λc T=> ?_,by simp;omega⟩)
   ·grind
   ·grind
   grind
  ·simp[go_sem];exact Z _ _ (.inr ⟨_,trivial,AQ⟩)
theorem YJ(b:Nat)(w:World):aP Tryz.prog 81 #[.map (some b)] w λW w'=>W=.func (.func 140) #[] #[.pointer (some ⟨w.1.size,0,none⟩)]/\w'=w.alloc (.cells #[.map (some b)] 135):=by
 refine bn Tryz.func81 Tryz.ntmps81 λaZ Z=> ?_;simp[go_sem];exact Z _ _ ⟨rfl,rfl⟩
theorem bO:tM Tryz.prog 30 39 (.int .u16 0) 2:=⟨Tryz.underlying30,by kernel_rfl,rfl⟩
theorem abJ{B:Nat}{N bs:World}{e s n:Nat}{v:Value}{xs:List Value}(h:N.ownsRow 0 e s v n xs)(ap:kE B N bs):bs.ownsRow 0 e s v n xs:=by
 refine⟨h.1,h.2.imp id ?_⟩;rintro⟨g,cap,di,H,I,af,aU⟩;exact⟨g,cap,di,H,I,ap.blk af,aU⟩
theorem EE{N:World}{e s n:Nat}{v:Value}{xs:List Value}(h:N.ownsRow 0 e s v n xs):∀k,v.ownBlock=some k->∀o,N.1[k]? =some o->o.isCells=true:=by
 rcases h.2 with⟨rfl,_⟩|⟨g,cap,di,rfl,_,V,_⟩
 ·intro k r;simp[Value.ownBlock]at r
 ·intro k r o aB;simp[Value.ownBlock]at r;subst r;rw[V]at aB
  cases aB
  rfl
def lC(xs:List em):List Value:=xs.map mQ
theorem abK{gf:FuncId}{lb:List Value}{Fn Pt:List em->Prop}{n:Nat}(w:World)(av:n<=100000)
  (pM:∀g ab,D ak w ab->w.1.size<=g->g<ab.1.size->Cy Tryz.prog gf lb 1 (λa=>[Value.int .u16 (a:em).val]) Fn Pt n (aj g) ab):
  aP Tryz.prog 192 #[.slice none 0 0,.func (.func gf) #[] lb.toArray] w λW w'=>∃xs,Fn xs/\w'.ownsRow 0 39 1 W xs.length (lC xs)/\D ak w w'/\fZ w.1.size W:=by
 refine bn Tryz.func192 Tryz.ntmps192 λaZ Z=> ?_;have fV:=cl w (.cells #[.slice none 0 0] 30);have aY:=(D.refl ak w).alloc (.cells #[.slice none 0 0] 30);simp[go_sem];obtain⟨g,aF⟩:=az (w.1.size);rw[aF]at fV⊢;generalize w.alloc (.cells #[.slice none 0 0] 30)=ab at*;have iw:=lt_of_block fV;refine aen (pM g ab aY (by omega) iw) (D.refl _ _) rfl rfl (by kernel_rfl) (λk r=>by cases r;exact iw)
  (λpre N=>∃v,N.1[g]? =some (.cells #[v] 30 (0,0))/\N.ownsRow 0 39 1 v pre.length (lC pre)/\fZ ab.1.size v/\D ak w N/\ab.1.size<=N.1.size) (λc pre N=>False) (λx f' _=>f' 2=.pointer (some ⟨g,0,none⟩)/\f' 5=.int .u16 x.val) ?_ ?_ ?_ ?_ ?_ ?_ ?_ ?_
 ·rintro pre N bs ⟨v,H,I,af,aU,bC⟩ ap;exact⟨v,ap.blk H,abJ I ap,af,ap.tS aU aY.size,Nat.le_trans bC ap.ch.size⟩
 ·exact λ_ _ _ _ h _=>h
 ·exact λ_ _ _ _ h _=>h
 ·exact⟨_,fV,⟨by simp[lC],.inl ⟨rfl,rfl⟩⟩,λk r=>by simp[Value.ownBlock]at r,aY,Nat.le_refl _⟩
 ·rintro pre x N bP;simp[go_sem];exact⟨D.refl _ _,bP⟩
 ·rintro pre x f' N ⟨v,H,I,af,aU,bC⟩ ⟨HP,Mn⟩ cI;have ew:=λi=>aG H i;have jS:=λi=>dD H i;have tf:∀u∈lC [x],u.oneCell'=true:=by simp[lC,mQ,Value.oneCell']
  have PX:=EE I;have Bk:v.ownBlock≠some g:=λe=>by have:=af g e;omega
  obtain⟨ag,m,c,aS⟩:∃ag m c,v=.slice ag m c:=by
   rcases I.2 with⟨e,_⟩|⟨l_,cap,di,e,_⟩
   ·exact⟨_,_,_,e⟩
   ·exact⟨_,_,_,e⟩
  rw[aS]at H I af ew PX Bk;simp[go_sem,HP,Mn,ew];refine Iq bO I rfl (by unfold maxLen;omega) (by omega) λW w' a' aX bq=> ?_;have ba:=aX.obj H (λe=>Bk e);have Da:=λi=>aG ba i;have abL:=λi=>dD ba i;obtain⟨gh,m',dg,KQ⟩:∃ag m c,W=.slice ag m c:=by
   rcases a'.2 with⟨e,_⟩|⟨l_,cap,di,e,_⟩
   ·exact⟨_,_,_,e⟩
   ·exact⟨_,_,_,e⟩
  have iR:fZ ab.1.size W:=by
   rcases bq with e|e
   ·intro k r;rw[e]at r;exact af k r
   ·exact e.mono bC
  rw[KQ]at a' bq iR⊢;simp[go_sem,HP,Da,abL];have cs:D (aj g) w' (w'.setCell ⟨g,0,none⟩ (.slice gh m' dg)):=(D.refl (aj g) w').setCell (p:=⟨g,0,none⟩) (.inl rfl) _;have da:∀k,(Value.slice gh m' dg).ownBlock=some k->¬aj g k:=λk r e=>by
   simp only[aj]at e;have:=iR k r;omega
  refine⟨(aX.mono λj F e=>.inr ⟨af j e,PX j e⟩).bJ cs λj F e=>.inl e,_,by rw[ba,gp];rfl,?_,iR,(aU.bJ aX λj F e=>by have:=af j e;omega).bJ cs λj F e=>by simp only[aj]at e;omega,?_⟩
  ·have:=ej a' cs da;simpa[lC,mQ]using this
  ·have:=aX.size;have:=cs.size;omega
 ·rintro L xs N dS eU ⟨v,H,I,af,aU,bC⟩ bi;have ew:=λi=>aG H i;obtain⟨ag,m,c,aS⟩:∃ag m c,v=.slice ag m c:=by
   rcases I.2 with⟨e,_⟩|⟨l_,cap,di,e,_⟩
   ·exact⟨_,_,_,e⟩
   ·exact⟨_,_,_,e⟩
  have aAQ:L≠g:=by omega
  rw[aS]at H I af ew;simp[go_sem,ew,ze,bi];refine Z _ _ ⟨xs,eU,?_,aU.putObj (.inr (by omega)) _,af.mono (by omega)⟩;have T:D (aj L) N (N.putObj L (.deferred none)):=(D.refl (aj L) N).putObj (.inl rfl) _;refine ej I T λk r e=> ?_;simp only[aj]at e;subst e;have:=EE I k r _ bi
  cases this
 ·exact λ_ _ _ _ _ _ h=>h.elim
theorem abM{gf:FuncId}{lb:List Value}{Fn Pt:List em->Prop}{n:Nat}(w:World)(av:n<=100000)
  (pM:∀g ab,D ak w ab->w.1.size<=g->g<ab.1.size->Cy Tryz.prog gf lb 1 (λa=>[Value.int .u16 (a:em).val]) Fn Pt n (aj g) ab):
  aP Tryz.prog 138 #[.func (.func gf) #[] lb.toArray] w λW w'=>∃xs,Fn xs/\w'.ownsRow 0 39 1 W xs.length (lC xs)/\D ak w w'/\fZ w.1.size W:=by
 refine bn Tryz.func138 Tryz.ntmps138 λaZ Z=> ?_;simp[go_sem];refine(abK w av pM).mono ?_;rintro v ab ⟨xs,H,I,af,aU⟩;simp[go_sem];exact Z _ _ ⟨xs,H,I,af,aU⟩
theorem YK(w:World)(h:ic w Tryz.prog 39 mQ b n aR)(av:n<=100000)(EY:∀xs,xN aR xs->xs.length<=255)(ab:World)(de:D ak w ab)(aq:ab.cell? ⟨q,0,none⟩=some (.map (some b))):
  aP Tryz.prog 80 #[.func (.func 140) #[] #[.pointer (some ⟨q,0,none⟩)]] ab λW w'=>∃xs,xN aR xs/\xs.Pairwise (λa b=>a<b)/\bD w' W xs.length (lC xs)/\D ak ab w'/\fZ ab.1.size W:=by
 refine bn Tryz.func80 Tryz.ntmps80 λaZ Z=> ?_;have V:=(h.ch de id).lt;simp[go_sem];have abN:=abM (gf:=140) (lb:=[.pointer (some ⟨q,0,none⟩)]) (Fn:=xN aR) (Pt:=λ_=>True) ab av λg ai T aF iw=>
  abG ((h.ch de id).ch T id) (T.cell aq id) (λe=>by simp only[aj]at e;omega) (λk r=>by simp only[aj]at r;omega)
 refine abN.mono ?_;rintro v ai ⟨xs,eS,eT,aA,iR⟩;have cI:=EY xs eS;simp[go_sem];by_cases bf:0<xs.length
 ·obtain⟨g,cap,di,aS,dk,_⟩:=Me eT bf;subst aS;have Iv:dm mQ ai g xs.toArray:=dm.fp (cap:=cap) (n:=xs.length) eT (by simp[lC]) (by simp);have aw:=Lt Iv cap (by simpa using cI);simp only[List.size_toArray]at aw;refine aw.mono ?_;rintro _ aC ⟨c_,af,dZ,cf,aE⟩;simp[go_sem];have cL:c_.size=xs.length:=by rw[dZ.1];simp
  have Ac:c_.toList.Perm xs:=by
   have:=dZ.2.2;have aK:(c_.extract 0 xs.length).toList=c_.toList:=by rw[<-cL];simp
   have aW:(xs.toArray.extract 0 xs.length).toList=xs:=by simp
   rw[aK,aW]at this;exact this
  have jK:c_.toList.Nodup:=Ac.nodup_iff.2 eS.1;have aAR:ab.1.size<=g:=iR g rfl;refine Z _ _ ⟨c_.toList,⟨jK,λa=>by rw[Ac.mem_iff];exact eS.2 a⟩,?_,?_,aA.bJ aE λj F e=>by simp only[aj]at e;omega,iR⟩
  ·rw[List.pairwise_iff_getElem];intro i j aa F hF;have Hw:i<c_.size:=by simpa using aa
   have jt:j<c_.size:=by simpa using F
   have H:=cf i j (Nat.zero_le _) hF (by omega);have aK:c_[i]! =c_.toList[i]:=by simp[Hw]
   have aW:c_[j]! =c_.toList[j]:=by simp[jt]
   rw[aK,aW]at H;have da:c_.toList[i]≠c_.toList[j]:=List.pairwise_iff_getElem.1 jK i j aa F hF;simp only[lt,SS.lt,decide_eq_false_iff_not]at H
   grind
  ·obtain⟨ak6,bl,gQ,uC⟩:=af;have xR:xs.length<=cap/\cap<=maxLen:=by
    rcases eT.2 with⟨e,_⟩|⟨l_,UR,aAS,e,_,_,H,I,_⟩
    ·cases e
    ·omega
   have aO:c_.toList.length=xs.length:=by simpa using cL
   rw[aO];refine⟨_,cap,rfl,xR.1,xR.2,λ_=>⟨_,rfl,λj u an=> ?_⟩⟩;unfold lC at an;rw[List.getElem?_map]at an
   cases bi:c_.toList[j]? with
   |none=>rw[bi]at an;cases an
   |some a=>
    rw[bi]at an
    cases an
    have F:j<c_.size:=by
     have:=(List.getElem?_eq_some_iff.1 bi).1;simpa using this
    have:=uC j F;rw[Addr.add_lit,Nat.zero_add,aG gQ,this]
    grind
 ·obtain rfl:xs=[]:=List.eq_nil_of_length_eq_zero (by omega);rcases eT.2 with⟨aS,_⟩|⟨g,cap,di,aS,_,dk,_⟩
  ·subst aS;refine(PV ai none 0).mono ?_;intro _ aC aE;simp[go_sem];exact Z _ _ ⟨[],eS,List.Pairwise.nil,bD.nil _,aA.trans aE,λk r=>by simp[Value.ownBlock]at r⟩
  ·subst aS;refine(PV ai (some ⟨g,0,none⟩) cap).mono ?_;intro _ aC aE;simp[go_sem];exact Z _ _ ⟨[],eS,List.Pairwise.nil,(bD.fp eT).ch aE λ_ _ e=>e,aA.trans aE,iR⟩
end
end Go.Proofs.YtoohkhcpboldjaaGreatDoor.S16
namespace Go.Kin
open Go Go.RowKit Go.Maps
open Go.WideElems (Fit rd rg pl rd_key rd_val rg_of)
section
variable{P:Program}{k:TypeId}{jy:Type}{eL:jy->Value}{w w':World}{t e:TypeId}{b n:Nat}{aR:jy->Option Value}
theorem ic.clone(h:ic w P k eL b n aR)(t:TypeId):
  ∃o:Obj,(Extern.MapsClone.clone #[.iface t (.map (some b))]).run P w=.ok (.iface t (.map (some w.1.size))) (w.alloc o)/\ic (w.alloc o) P k eL w.1.size n aR:=by
 obtain⟨L,h,I⟩:=h;obtain⟨gC,ly,V,aC3,aw,dS⟩:=h;refine⟨.map gC ly,?_,L,⟨gC,ly,(MapKept.heap_alloc w _).1,aC3,aw,dS⟩,I⟩;have e:Extern.MapsClone.clone #[.iface t (.map (some b))]=(getObj b>>=λo=>match o with
   |.map aC4 ly=>(newObj (.map aC4 ly)>>=λn=>pure (.iface t (.map (some n))))
   |_=>stuck "maps.clone: a map expected"):=rfl
 rw[e];simp[MapKept.run_getObj_map V,Result.andThen,go_sem]
theorem aC5(w:World)(t k e:TypeId)(p:Option Nat)(h:P.underlying t=some (.map k e)):(binOp .eql t (.map p) (.map none)).run P w=.ok (.bool p.isNone) w:=by
 have H:∀d,(Op.equalIn (d+1) t (.map p) (.map none)).run P w=.ok p.isNone w:=λd=>by cases p<;>simp[Op.equalIn,run_underlying h]
 simp only[binOp];simp[show Op.equal t (.map p) (.map none)=Op.equalIn (9999+1) t (.map p) (.map none)from rfl,H 9999]
theorem aC6{f:FuncId}{args:List Value}{v:Value}{w':World}{K:Value->World->Prop}(h:(callFunc f args.toArray).run P w=.ok (.value v) w')(r:K v w'):tx P (.func (.func f) #[] #[]) args w K:=by
 unfold tx;simp[Deferred.ofValue,invoke,h];exact r
theorem aC7(t aC8 k e:TypeId)(v:Value)(w:World)(h:P.underlying t=some (.map k e)):(Instr.typeAssert (.iface t v) aC8 t false).run P w=.ok v w:=by
 simp[Instr.typeAssert,run_underlying h,go_sem,Result.andThen]
theorem aC9{cc:Operand->Value}{d:Option Tmp}{x:Operand}{a b bO:TypeId}{ok:Bool}{pos:String}{eC:Array Edge}{g:Option (Nat×Bool)}{v:Value}{w':World}{K:Value->World->Prop}(h:(Instr.typeAssert (cc x) a b ok).run P w=.ok v w')(r:K v w'):dG P cc ⟨d,.typeAssert x a b ok,bO,pos,eC,g⟩ w K:=by
 refine aC_ (w':=w') (v:=v) ?_ r;simp[execOp,h]
end
end Go.Kin
namespace Go.Proofs.YtoohkhcpboldjaaGreatDoor
open Go.RowKit Go.Kin Go.Maps
structure fM.nB(L:fM):Prop where
 bk:∀a x,L.bk a=some x->oP a 0=true
 lf:∀a o b,L.lf (a,o)=some b->oP a o=true
 wiped:∀a,L.wiped a=true->oP a 0=true
theorem aC'{a:em}{o:gP}(h:oP a o=true):oP a 0=true:=by
 unfold oP at*
 grind
def fM.any(L:fM)(a:em):Prop:=L.wiped a=true\/(L.bk a).isSome=true\/∃o,(L.lf (a,o)).isSome=true
theorem fM.nB.any{L:fM}(h:L.nB){a:em}(am:L.any a):oP a 0=true:=by
 rcases am with am|am|⟨o,am⟩
 ·exact h.wiped a am
 ·obtain⟨x,M⟩:=Option.isSome_iff_exists.1 am;exact h.bk a x M
 ·obtain⟨x,M⟩:=Option.isSome_iff_exists.1 am;exact aC' (h.lf a o x M)
theorem acI{n:Nat}:∀(m:Nat) (xs:List (Fin n)),xs.Nodup->(∀a∈xs,1<=a.val/\a.val<=m)->xs.length<=m
 |0,xs,_,h=>by
  cases xs with
  |nil=>simp
  |cons a xs=>have:=h a (by simp);omega
 |m+1,xs,av,h=>by
  by_cases aH:∃a∈xs,a.val=m+1
  ·obtain⟨a,am,xy⟩:=aH;have H:=acI m (xs.erase a) (av.erase a) λc T=>by
    grind
   grind
  ·have:=acI m xs av λc T=>by
    grind
   omega
section
variable{w w':World}{S:Nat->Prop}{o n:Nat}{base hI:Value}{L:fM}{X bo:Nat->Prop}{z:xF}
theorem aDa{aR:em->Option Value}{b:Nat}(h:ic w Tryz.prog 39 mQ b n aR):aP Tryz.prog 79 #[.map (some b)] w λW w'=>W=.map (some w.1.size)/\ic w' Tryz.prog 39 mQ w.1.size n aR/\D ak w w'/\w'.1.size=w.1.size+1:=by
 refine bn Tryz.func79 Tryz.ntmps79 λaZ Z=> ?_;have aq:=aC5 w 135 _ _ (some b) Tryz.underlying135;have aDb:∀w,(Instr.makeInterface 135 (.map (some b))).run Tryz.prog w=.ok (.iface 135 (.map (some b))) w:=λw=>by kernel_rfl
 obtain⟨nK,T,aH⟩:=h.clone 135;have OT:(callFunc 137 #[.iface 135 (.map (some b))]).run Tryz.prog w=.ok (.value (.iface 135 (.map (some w.1.size)))) (w.alloc nK):=by
  rw[run_callFunc_extern Tryz.func137 (by kernel_rfl) (by kernel_rfl) (by kernel_rfl) (e:=Extern.MapsClone.clone) (by kernel_rfl),T];rfl
 simp[go_sem,aq,aDb];refine aC6 OT ?_;have wE:=aC7 135 20 _ _ (.map (some w.1.size)) (w.alloc nK) Tryz.underlying135;simp[go_sem];refine aC9 wE ?_;simp[go_sem];exact Z _ _ ⟨rfl,aH,(D.refl ak w).alloc _,by simp⟩
def Hv(L:fM)(xs:List em):Prop:=xs.Pairwise (λa b=>a<b)/\∀a,a∈xs↔L.any a
def rQ(P:em->Bool):em->Option Value:=λa=>if P a then some (.bool true)else none
theorem aDc(P:em->Bool)(a:em):(rQ P a).isSome=P a:=by
 unfold rQ
 cases P a<;>rfl
theorem ag'(h:po w o base hI n L X bo z)(ok:L.nB)(av:n<=30000):aP Tryz.prog 27 #[.pointer (some ⟨o,0,none⟩)] w λW w'=>∃xs,Hv L xs/\bD w' W xs.length (S16.lC xs)/\D ak w w'/\fZ w.1.size W:=by
 refine bn Tryz.func27 Tryz.ntmps27 λaZ Z=> ?_;have bv:w.cell? ⟨o,4,none⟩=some (.map (some z.DI)):=aG h.blk 4;simp[go_sem,bv];refine(aDa h.vz).mono ?_;rintro _ ab ⟨rfl,kH,aI,bt⟩;obtain⟨m,aH⟩:=az (w.1.size);rw[aH]at kH bt⊢;have H:=h.ch aI (λ_ _ e=>e) λ_ _ e=>e;have aO:∀k,X k\/bo k->k<m:=λk r=>by have:=h.lt k r;omega
 have aA:ab.cell? ⟨o,2,none⟩=some (.map (some z.tB)):=aG H.blk 2;obtain⟨ai,eN,ap,aF,zR,nc,cw⟩:=H.bk.range DG Tryz.underlying141;obtain⟨J,yc⟩:=az (ab.1.size);rw[yc]at ap aF;simp[go_sem,aA,ap];have gy:=aO z.tB (.inl (h.x _ (.inr (.inl rfl))));obtain⟨bg,bP⟩:∃bg:(Nat->Value)->World->Prop,bg=λf u=>f 0=.pointer (some ⟨o,0,none⟩)/\f 3=.map (some m)/\ic u Tryz.prog 39 mQ m (n+n) (rQ λa=>L.wiped a||(L.bk a).isSome)/\D ak w u/\m<u.1.size:=⟨_,rfl⟩;refine wq bg ?_ ?_
 ·refine du (λt f u=>∃left c,f 0=.pointer (some ⟨o,0,none⟩)/\f 3=.map (some m)/\f 17=.pointer (some ⟨J,0,none⟩)/\rI u Tryz.prog 39 mQ z.tB J n (λa=>(L.bk a).map FQ) left t/\ic u Tryz.prog 39 mQ m c (rQ λa=>L.wiped a||((L.bk a).isSome&& !left a))/\c+t<=n+n/\D ak w u/\m<u.1.size) eN
   ⟨_,n,by simp,by simp,by simp,aF,?_,by omega,aI.trans nc,by omega⟩ ?_
  ·have e:(rQ λa=>L.wiped a||((L.bk a).isSome&& !((L.bk a).map FQ).isSome))=λa=>if L.wiped a then some (.bool true)else none:=by
    funext a;unfold rQ
    grind
   rw[e];exact kH.ch nc id
  rintro cJ bK t f u ⟨left,c,f0,bV,lz,Ab,uH,EC,aJ,acJ⟩;have aDd:J≠m:=by omega
  rcases Ab.next DG 0 with⟨al,qg⟩|⟨a,v,fw,dK,al,FR,qg,wO,BW,yk,_,BX⟩
  ·simp[go_sem,lz,qg];rw[bP];refine⟨by simp[f0],by simp[bV],?_,aJ,acJ⟩;have e:(rQ λa=>L.wiped a||((L.bk a).isSome&& !left a))=rQ λa=>L.wiped a||(L.bk a).isSome:=by
    funext a;unfold rQ;simp[al a]
   rw[e]at uH;exact uH.mono (by omega)
  ·have acK:=uH.ch yk λe=>aDd (by simp only[aj]at e;exact e.symm);obtain⟨xt,uG,AP,bx,_⟩:=acK.put DG Tryz.underlying135 (by unfold maxLen;omega) a (.bool true);have uG:(Instr.mapUpdate 135 (.map (some m)) (.int .u16 a.val) (.bool true)).run Tryz.prog fw=.ok () xt:=uG;simp[go_sem,lz,bV,qg,BX,mQ,uG];have PC:=wO.ch bx (λe=>by simp only[aj]at e;omega) (λe=>by simp only[aj]at e;omega);refine cH.intro dK BW (bK _ _ _ ⟨_,c+1,by simp[f0],by simp[bV],by simp[lz],PC,?_,by omega,(aJ.bJ yk λj F e=>by simp only[aj]at e;omega).bJ bx λj F e=>by simp only[aj]at e;omega,Nat.lt_of_lt_of_le acJ (Nat.le_trans yk.size bx.size)⟩);have e:(rQ λc=>L.wiped c||((L.bk c).isSome&& !(left c&&decide (c≠a))))=λc=>if c=a then some (.bool true)else rQ (λa=>L.wiped a||((L.bk a).isSome&& !left a)) c:=by
    funext c;unfold rQ;by_cases CF:c=a
    ·subst CF
     cases aD:L.bk c with
     |none=>rw[aD]at FR;cases FR
     |some x=>simp[aD]
    ·simp[CF]
   rw[e];exact AP
 rw[bP];clear bP bg kH ap aF nc;rintro f u ⟨f0,bV,uH,aJ,acJ⟩;have an:=h.ch aJ (λ_ _ e=>e) λ_ _ e=>e;have aE:u.cell? ⟨o,3,none⟩=some (.map (some z.fF)):=aG an.blk 3;obtain⟨vy,gJ,bT⟩:=an.lf;obtain⟨ai,eN,ap,aF,zR,nc,cw⟩:=gJ.range Uv Tryz.underlying142;obtain⟨J,yc⟩:=az (u.1.size);rw[yc]at ap aF;have ia:=aO z.fF (.inl (h.x _ (.inr (.inr (.inl rfl)))));simp[go_sem,f0,aE,ap];have RM:∀a,(vy a).isSome=(L.lf a).isSome:=λa=>by
  cases aD:L.lf a with
  |none=>
   rw[(bT a).1 aD];rfl
  |some b=>
   grind
 obtain⟨bg,bP⟩:∃bg:(Nat->Value)->World->Prop,bg=λf u=>∃P:em->Bool,f 3=.map (some m)/\ic u Tryz.prog 39 mQ m (n+n+n) (rQ P)/\(∀a,P a=true↔L.any a)/\D ak w u:=⟨_,rfl⟩;refine wq bg ?_ ?_
 ·refine du (λt f u=>∃(left:em×gP->Bool) (c:Nat) (P:em->Bool),f 3=.map (some m)/\f 28=.pointer (some ⟨J,0,none⟩)/\rI u Tryz.prog 187 tA z.fF J n vy left t/\ic u Tryz.prog 39 mQ m c (rQ P)/\(∀a,P a=true↔(L.wiped a=true\/(L.bk a).isSome=true\/∃o,(L.lf (a,o)).isSome=true/\left (a,o)=false))/\c+t<=n+n+n/\D ak w u) eN
   ⟨_,n+n,_,by simp[bV],by simp,aF,uH.ch nc id,λa=> ?_,by omega,aJ.trans nc⟩ ?_
  ·grind
  clear f0 bV uH;rintro cJ bK t f cS ⟨left,c,P,bV,f28,Ab,uH,dZ,EC,xQ⟩;rcases Ab.next Uv 0 with⟨al,qg⟩|⟨a,v,fw,dK,al,FR,qg,wO,BW,yk,_,BX⟩
  ·simp[go_sem,f28,qg];rw[bP];refine⟨P,by simp[bV],uH.mono (by omega),λa=> ?_,xQ⟩;rw[dZ a];simp[fM.any,al]
  ·have acK:=uH.ch yk λe=>by simp only[aj]at e;omega
   have aY:=(D.refl ak fw).alloc (.cells #[.int .u16 a.1.val,.int .u32 a.2.val] 187);have fV:=cl fw (.cells #[.int .u16 a.1.val,.int .u32 a.2.val] 187);obtain⟨q,aq⟩:=az (fw.1.size);rw[aq]at fV;have acL:=acK.ch aY id;obtain⟨xt,uG,AP,bx,_⟩:=acL.put DG Tryz.underlying135 (by unfold maxLen;omega) a.1 (.bool true);have uG:(Instr.mapUpdate 135 (.map (some m)) (.int .u16 a.1.val) (.bool true)).run Tryz.prog (fw.alloc (.cells #[.int .u16 a.1.val,.int .u32 a.2.val] 187))=.ok () xt:=uG;have pR:=λi=>aG fV i;simp[go_sem,f28,bV,qg,BX,tA,aq,pR,uG];have PC:=(wO.ch aY id id).ch bx (λe=>by simp only[aj]at e;omega) (λe=>by simp only[aj]at e;omega);refine cH.intro dK BW (bK _ _ _ ⟨_,c+1,λc=>if c=a.1 then true else P c,by simp[bV],by simp[f28],PC,?_,λc=> ?_,by omega,((xQ.bJ yk λj F e=>by simp only[aj]at e;have:=aJ.size;omega).trans aY).bJ bx λj F e=>by simp only[aj]at e;omega⟩)
   ·have e:(rQ λc=>if c=a.1 then true else P c)=λc=>if c=a.1 then some (.bool true)else rQ P c:=by
     funext c;unfold rQ
     grind
    rw[e];exact AP
   grind
 rw[bP];clear bP bg ap aF gJ bT RM;rintro f io ⟨P,bV,acL,dZ,vD⟩;simp[go_sem,bV];refine(S16.YJ m io).mono ?_;rintro _ EI ⟨rfl,aJF⟩;subst EI;have aY:=(D.refl ak io).alloc (.cells #[.map (some m)] 135);have fV:=cl io (.cells #[.map (some m)] 135);simp[go_sem];obtain⟨q,aq⟩:=az (io.1.size);rw[aq]at fV⊢;generalize io.alloc (.cells #[.map (some m)] 135)=EI at*;have eS:∀xs,S16.xN (rQ P) xs->∀a,a∈xs↔L.any a:=λxs M a=>by rw[M.2 a,aDc,dZ a]
 have aw:=S16.YK (q:=q) io acL (by omega) (λxs M=>acI 255 xs M.1 λa am=>by
  have:=ok.any ((eS xs M a).1 am);unfold oP at this
  grind) EI aY (aG fV 0)
 refine aw.mono ?_;rintro v xt ⟨xs,M,Nq,nk,bx,iR⟩;simp[go_sem];exact Z _ _ ⟨xs,⟨Nq,eS xs M⟩,nk,(vD.trans aY).trans bx,iR.mono (vD.trans aY).size⟩
end
variable{o n:Nat}{base hI:Value}{L:fM}{X bo:Nat->Prop}{z:xF}
theorem ark{w:World}(h:po w o base hI n L X bo z)(num:em):aP Tryz.prog 173 #[.pointer (some ⟨o,0,none⟩),.int .u16 num.val] w λW w'=>W=.bool (L.wiped num)/\w'=w:=by
 refine bn Tryz.func173 Tryz.ntmps173 λaZ Z=> ?_;have bv:w.cell? ⟨o,4,none⟩=some (.map (some z.DI)):=aG h.blk 4;have bH:(Instr.lookup 135 (.map (some z.DI)) (.int .u16 num.val) false).run Tryz.prog w=_:=h.vz.m_ DG Tryz.underlying135 (Xl w) num
 cases uk:L.wiped num with
 |true=>
  rw[uk]at bH;simp at bH;simp[go_sem,bv,bH];exact Z _ _ ⟨by rw[uk],rfl⟩
 |false=>
  rw[uk]at bH;simp at bH;simp[go_sem,bv,bH];exact Z _ _ ⟨by rw[uk],rfl⟩
def k_(aR:gP->Option Value)(o:gP):Value:=(aR o).getD (.slice none 0 0)
structure Hp(B b:Nat)(aR:gP->Option Value)(l:List (Nat×br))(w:World):Prop where
 map:ic w Tryz.prog 40 se b l.length aR
 own:∀o:gP,w.ownsRow 0 227 45 (k_ aR o) (eK l o.val).length (dv dF (eK l o.val))
 kP:∀o:gP,(aR o).isSome=true↔eK l o.val≠[]
 fr:∀(o:gP) k,(k_ aR o).ownBlock=some k->B<=k/\k≠b
 inj:∀(o eX:gP) k,(k_ aR o).ownBlock=some k->(k_ aR eX).ownBlock=some k->o=eX
theorem aDe{w:World}{e n:Nat}{v:Value}{xs:List Value}(h:w.ownsRow 0 e 45 v n xs):∃ag c,v=.slice ag n c:=by
 rcases h.2 with⟨rfl,bf⟩|⟨g,cap,di,rfl,_⟩
 ·grind
 ·exact⟨_,_,rfl⟩
section
variable{B b:Nat}{aR:gP->Option Value}{l:List (Nat×br)}{w w':World}
theorem Hp.ch{S:Nat->Prop}(h:Hp B b aR l w)(T:D S w w')(V:¬S b)(av:∀(o:gP) k,(k_ aR o).ownBlock=some k->¬S k):Hp B b aR l w':=
 ⟨h.map.ch T V,λo=>ej (h.own o) T λk r=>av o k r,h.kP,h.fr,h.inj⟩
theorem asl{q:Nat}(h:Hp B b aR l w)(aq:w.1[q]? =some (.cells #[.map (some b)] 316 (0,0)))(aJG:q<B)(aJH:b<B)(MS:q≠b)(eR:B<=w.1.size){x:Nat×br}(ok:kM x)(av:l.length<=1000000):
  aP Tryz.prog 177 #[.agg (dF x),.pointer (some ⟨q,0,none⟩)] w λ_ w'=>∃E_,Hp B b E_ (l++[x]) w'/\D (λk=>k=b\/B<=k) w w':=by
 refine bn Tryz.func177 Tryz.ntmps177 λaZ Z=> ?_;have eU:=nG ok;have gs:=zu ok;have iT:=NA (x:=x);have aY:=(D.refl ak w).alloc (.cells (dF x) 227);have fV:=cl w (.cells (dF x) 227);obtain⟨g,aF⟩:=az (w.1.size);have gd:(w.alloc (.cells (dF x) 227)).1.size=g+1:=by rw[<-aF];simp
 obtain⟨ab,de⟩:=az (w.alloc (.cells (dF x) 227));rw[de]at aY fV gd;rw[aF]at fV;have fG:=(aG fV 0).trans iT;simp[go_sem,eU,gs,de,aF,fG];clear de;refine(acl x.1 ok.n ab).mono ?_;rintro _ ai ⟨rfl,hd⟩;subst ai;obtain⟨o,aB⟩:∃o:gP,o.val=x.1 / 4:=⟨⟨x.1 / 4,by have:=ok.n;omega⟩,rfl⟩;rw[<-aB];simp[go_sem];refine cD [A 0,A 1,A 2,A 3,A 4,A 5,(6,some [0,1,2,3,4]),(7,some [0,1]),(8,some [])] ?_;have Iz:=aY.drew;have amD:ab.drew.1[g]? =some (.cells (dF x) 227 (0,0)):=fV;have amE:ab.drew.1.size=g+1:=gd;clear aY fV gd fG;obtain⟨aC,hk⟩:=az (ab.drew);rw[hk]at Iz amD amE⊢;clear hk;have H:=h.ch Iz id λ_ _ _ e=>e;have ig:=Iz.obj aq id;have amF:=aG ig 0;obtain⟨ag,c,aS⟩:=aDe (H.own o);have iM:=H.map.m_ Ke Tryz.underlying316 (z:=.slice none 0 0) (by kernel_rfl) o;have iM:(Instr.lookup 316 (.map (some b)) (.int .u32 o.val) false).run Tryz.prog aC=.ok (.slice ag (eK l o.val).length c) aC:=by rw[<-aS];exact iM
 have aA:=(D.refl ak aC).alloc (.cells (dF x) 227);have cw:(aC.alloc (.cells (dF x) 227)).1.size=g+2:=by simp[amE]
 have I:=H.ch aA id λ_ _ _ e=>e;have fX:=aA.obj ig id;have aDf:=aG fX 0;have acM:=I.map.m_ Ke Tryz.underlying316 (z:=.slice none 0 0) (by kernel_rfl) o;have acM:(Instr.lookup 316 (.map (some b)) (.int .u32 o.val) false).run Tryz.prog (aC.alloc (.cells (dF x) 227))=.ok (.slice ag (eK l o.val).length c) (aC.alloc (.cells (dF x) 227)):=by rw[<-aS];exact acM
 have TR:=H.own o;have amG:=H.fr o;have aJI:=H.inj o;rw[aS]at TR amG;simp[↓yK,go_sem,amF,iM,amD,eU,gs];refine AH (Zb ok _) ?_;simp[go_sem,amF,aDf,acM];have ia:(eK l o.val).length<=1000000:=Nat.le_trans (agH l o.val) av;refine va (us:=qz x) SP TR (acp ok) (CP (xJ (x:=x))) (by unfold maxLen;omega) (by omega) λsn eA a' aX bq=> ?_;have NG:=aX.size;have zK:∀k,(Value.slice ag (eK l o.val).length c).ownBlock=some k->B<=k/\k≠b:=amG;have rS:=aX.obj ig λe=>by have:=(zK q e).1;omega
 have aDg:=aG rS 0;have vL:=H.map.ch aX λe=>(zK b e).2 rfl;obtain⟨dC,uG,Co,dX,qE⟩:=vL.put Ke Tryz.underlying316 (by unfold maxLen;omega) o sn;have uG:(Instr.mapUpdate 316 (.map (some b)) (.int .u32 o.val) sn).run Tryz.prog eA=.ok () dC:=uG;simp[go_sem,aDg,uG];have aJJ:b<eA.1.size:=vL.lt;have bz:∀k,sn.ownBlock=some k->B<=k/\k≠b:=λk r=>by
  rcases bq with e|e
  ·grind
  ·have:=e k r;omega
 have amH:dv dF (eK (l++[x]) o.val)=dv dF (eK l o.val)++qz x/\(eK (l++[x]) o.val).length=(eK l o.val).length+1:=by
  rw[alE,if_pos aB.symm,xi,yE];exact⟨rfl,by simp⟩
 have gz:∀eX:gP,eX≠o->k_ (λa=>if a=o then some sn else aR a) eX=k_ aR eX/\eK (l++[x]) eX.val=eK l eX.val:=λeX da=>by
  refine⟨by unfold k_;simp only;rw[if_neg da],?_⟩;rw[alE,if_neg (λe=>da (Fin.ext (by omega))),List.append_nil]
 have fh:k_ (λa=>if a=o then some sn else aR a) o=sn:=by unfold k_;simp
 have aDh:∀k,sn.ownBlock=some k->¬aj b k:=λk r e=>(bz k r).2 e;refine Z _ _ ⟨λa=>if a=o then some sn else aR a,⟨?_,λeX=> ?_,λeX=> ?_,λeX k r=> ?_,λom hL k UW amI=> ?_⟩,?_⟩
 ·grind
 ·by_cases e:eX=o
  ·subst e;rw[fh,amH.1,amH.2];exact ej a' dX aDh
  ·rw[(gz eX e).1,(gz eX e).2];refine ej (ej (H.own eX) aX λk r aW=> ?_) dX λk r aW=>(h.fr eX k r).2 aW
   grind
 ·by_cases e:eX=o
  ·grind
  ·rw[if_neg e,(gz eX e).2];exact h.kP eX
 ·by_cases e:eX=o
  ·grind
  ·rw[(gz eX e).1]at r;exact h.fr eX k r
 ·have key:∀eX:gP,eX≠o->∀k,(k_ aR eX).ownBlock=some k->sn.ownBlock≠some k:=λeX da k r aW=>by
   rcases bq with dt|dt
   ·grind
   ·have aU:=dt k aW;have bC:=vj (H.own eX) k r;omega
  by_cases aK:om=o
  ·grind
  ·rw[(gz om aK).1]at UW;by_cases aW:hL=o
   ·grind
   ·rw[(gz hL aW).1]at amI;exact h.inj _ _ _ UW amI
 ·exact((Iz.mono (S':=λk=>k=b\/B<=k) λ_ _ e=>e.elim).bJ aX λj F e=>.inr (zK j e).1).bJ dX λj F e=>.inl e
end
def EX(l:List (Nat×br))(i:Nat):Option Nat:=if i=0 then none else(l[i - 1]?).map (·.1)
theorem agu{w:World}{v:Value}{l:List (Nat×br)}(al:fA w v qz 45 l)(hR:∀x∈l,kM x){i:Nat}{x:Nat×br}(M:l[i]? =some x):
  ∃b off c cs bl fr,v=.slice (some ⟨b,off,none⟩) l.length c/\w.1[b]? =some (.cells cs bl fr)/\w.cell? ⟨b,off+i*45,none⟩=some (.int .u16 x.1)/\cs.extract (off+i*45+1) (off+i*45+1+44)=bk x.2/\off+i*45+1+44<=cs.size/\cs.extract (off+i*45) (off+i*45+45)=dF x:=by
 have aDi:fA w v (λa=>(dF a).toList) 45 l:=al;obtain⟨b,off,c,cs,bl,fr,aS,V,aV,T⟩:=aDi.CU (by decide) (λa am=>nG (hR a am)) M;have dh:=hR x (List.mem_of_getElem? M);refine⟨b,off,c,cs,bl,fr,aS,V,?_,?_,by omega,aV⟩
 ·rw[aG V];have bf:=NA (x:=x)
  grind
 ·have H:=SL dh
  grind
end Go.Proofs.YtoohkhcpboldjaaGreatDoor
