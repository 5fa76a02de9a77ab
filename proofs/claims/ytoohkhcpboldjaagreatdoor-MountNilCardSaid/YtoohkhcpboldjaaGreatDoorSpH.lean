/- The keys of a map, gathered and sorted. No condition but on their number. -/
import Derived.Test.YtoohkhcpboldjaaGreatDoorSqG
set_option maxRecDepth 100000
set_option maxHeartbeats 1000000
set_option linter.unusedSimpArgs false
set_option linter.unusedVariables false
namespace Go.Proofs.YtoohkhcpboldjaaGreatDoor.S32
open Go.RowKit Go.Kin Go.Maps Go.Sort
abbrev dI:=SS.dI
abbrev lt:gP->gP->Bool:=SS.lt (bb:=false)
theorem DJ(n:Nat)(av:n<=255)(w:World):aP Tryz.prog 194 #[.int .u64 n] w λW w'=>W=.int .i64 (bitsLen n)/\w'=w:=SS.DJ n av w
theorem Lt{w:World}{blk:Nat}{d:Array gP}(h:dm se w blk d)(cap:Nat)(cL:d.size<=255):
  aP Tryz.prog 216 #[dI blk d.size cap] w λ_ w'=>∃c_,dm se w' blk c_/\PermIn 0 d.size d c_/\SortedIn lt 0 d.size c_/\D (aj blk) w w':=SS.Lt (bb:=false) h cap cL
theorem abF(w:World)(ag:Option Addr)(cap:Nat):aP Tryz.prog 271 #[.slice ag 0 cap,.int .i64 0,.int .i64 0] w λ_ w'=>D ak w w':=by
 refine bn Tryz.func271 Tryz.ntmps271 λaZ Z=> ?_;have de:IntKind.i64.wrap 1=1:=rfl;simp[go_sem,de];refine du (λJ f u=>J=0/\f 6=.int .i64 1/\f 2=.int .i64 0/\u=w) 0 ⟨rfl,by simp,by simp,rfl⟩ ?_;rintro cJ bK J f u ⟨rfl,f6,bh,rfl⟩;simp[go_sem,f6,bh];exact Z _ _ (D.refl _ _)
theorem PV(w:World)(ag:Option Addr)(cap:Nat):aP Tryz.prog 216 #[.slice ag 0 cap] w λ_ w'=>D ak w w':=by
 refine bn Tryz.func216 Tryz.ntmps216 λaZ Z=> ?_;have al:aP Tryz.prog 194 #[.int .u64 0] w λW w'=>W=.int .i64 0/\w'=w:=DJ 0 (by omega) w;simp[go_sem];refine al.mono ?_;rintro _ ab ⟨rfl,bH⟩;subst ab;simp[go_sem];have ah:aP Tryz.prog 246 #[.slice ag 0 cap,.int .i64 0,.int .i64 0,.int .i64 0] w λ_ w'=>D ak w w':=by
  refine bn Tryz.func246 Tryz.ntmps246 λaZ Z=> ?_;simp[go_sem];refine du (λJ f u=>J=0/\f 0=.slice ag 0 cap/\f 1=.int .i64 0/\f 2=.int .i64 0/\u=w) 0 ⟨rfl,by simp,by simp,by simp,rfl⟩ ?_;rintro cJ bK J f u ⟨rfl,f0,a_,bh,rfl⟩;have pf:IntKind.i64.wrap 0=0:=rfl;simp[go_sem,f0,a_,bh,pf];refine(abF u ag cap).mono ?_;intro _ ai aA;simp[go_sem];exact Z _ _ aA
 refine ah.mono ?_;intro _ ai aA;simp[go_sem];exact Z _ _ aA
theorem PW{P:Program}{k:TypeId}{jy:Type}{eL:jy->Value}{w:World}{b J n eN:Nat}{aR:jy->Option Value}{left:jy->Bool}(h:rI w P k eL b J n aR left eN):∃o:Obj,w.1[J]? =some o/\o.isWalk=true:=by
 obtain⟨L,lf,h,I⟩:=h;obtain⟨gC,ly,tS,aa8,fG,cB,cb,cj,dw,cu,cM⟩:=h;exact⟨_,cu,rfl⟩
def xN(aR:gP->Option Value)(xs:List gP):Prop:=xs.Nodup/\∀a,a∈xs↔(aR a).isSome=true
section
variable{w u:World}{blk b q n:Nat}{aR:gP->Option Value}{S:Nat->Prop}
theorem abG(h:ic w Tryz.prog 40 se b n aR)(aq:w.cell? ⟨q,0,none⟩=some (.map (some b)))(aAO:¬S b)(cf:∀k,S k->k<w.1.size):
  Cy Tryz.prog 217 [.pointer (some ⟨q,0,none⟩)] 1 (λa=>[Value.int .u32 (a:gP).val]) (xN aR) (λ_=>True) n S w:=by
 refine⟨λx=>rfl,λargs w=>by simp[go_sem],?_⟩;intro l cJ ri N fu bK Et hu bf;have aO:=h.lt;have MO:N.cell? ⟨q,0,none⟩=some (.map (some b)):=fu.cell aq id;obtain⟨ab,eN,ap,aF,zR,aI,bt⟩:=(h.ch fu id).range Ke Tryz.underlying316;obtain⟨J,yc⟩:=az (N.1.size);rw[yc]at ap aF;have PG:=fu.size;have Jw:∀{ag B:World},D ak ag B->ag.grownBy B none:=λ{ag B} T=>⟨T.os,T.tape,T.output,T.size,λk r _=>T.block k r id⟩;have abH:∀{ag B:World},D (aj J) ag B->ag.grownBy B (some J):=λ{ag B} T=>⟨T.os,T.tape,T.output,T.size,λk r av=>T.block k r λe=>av (by simp only[aj]at e;rw[e])⟩;refine bn Tryz.func217 Tryz.ntmps217 λaZ Z=> ?_;simp[go_sem,MO,ap];refine du (λt f u=>∃left pre,f 0=.func (.yield l) #[] #[]/\f 5=.pointer (some ⟨J,0,none⟩)/\rI u Tryz.prog 40 se b J n aR left t/\cJ pre u/\pre.Nodup/\(∀a,left a=true↔((aR a).isSome=true/\a∉pre))/\(∀a∈pre,(aR a).isSome=true)/\pre.length+t<=n) eN
  ⟨_,[],by simp,by simp,aF,bK _ _ _ none bf (Jw aI) (λJ e=>by cases e),List.nodup_nil,λa=>by simp,λa am=>by simp at am,by simp;omega⟩ ?_
 rintro bg bP t f u ⟨left,pre,f0,cN,Ab,F,jK,abI,Ky,cI⟩;rcases Ab.next Ke 0 with⟨al,qg⟩|⟨a,v,fw,dK,al,FR,qg,wO,BW,aA,_,BX⟩
 ·simp[go_sem,cN,qg];refine Z _ _ (.inl ⟨pre,⟨jK,λa=>⟨Ky a,λam=> ?_⟩⟩,F⟩)
  grind
 ·obtain⟨xj,aAP⟩:=(abI a).1 al;have mA:=bK pre u fw (some J) F (abH aA) λRq e=>by
   cases e
   exact⟨by omega,PW Ab⟩
  have ar:=hu pre a fw mA (by omega);simp[go_sem,cN,qg,BX,f0,se];refine MQ _ _ _ ar ?_;rintro _ w' (⟨rfl,jt,r⟩|⟨rfl,AQ⟩)
  ·simp[go_sem];have PB:rI w' Tryz.prog 40 se b J n aR (λc=>left c&&decide (c≠a)) dK:=wO.ch r (λe=>by
    grind) (λe=>by
    rcases e with e|⟨e,aW⟩
    ·have:=cf J e;omega
    ·obtain⟨o,aB,eo⟩:=PW wO
     grind)
   refine cH.intro dK BW (bP _ _ _ ⟨_,pre++[a],by simp[f0],by simp[cN],PB,jt,?_,λc=> ?_,λc T=> ?_,by simp;omega⟩)
   ·grind
   ·grind
   grind
  ·simp[go_sem];exact Z _ _ (.inr ⟨_,trivial,AQ⟩)
theorem YJ(b:Nat)(w:World):aP Tryz.prog 179 #[.map (some b)] w λW w'=>W=.func (.func 217) #[] #[.pointer (some ⟨w.1.size,0,none⟩)]/\w'=w.alloc (.cells #[.map (some b)] 316):=by
 refine bn Tryz.func179 Tryz.ntmps179 λaZ Z=> ?_;simp[go_sem];exact Z _ _ ⟨rfl,rfl⟩
theorem bO:tM Tryz.prog 194 40 (.int .u32 0) 4:=⟨Tryz.underlying194,by kernel_rfl,rfl⟩
theorem abJ{B:Nat}{N bs:World}{e s n:Nat}{v:Value}{xs:List Value}(h:N.ownsRow 0 e s v n xs)(ap:kE B N bs):bs.ownsRow 0 e s v n xs:=by
 refine⟨h.1,h.2.imp id ?_⟩;rintro⟨g,cap,di,H,I,af,aU⟩;exact⟨g,cap,di,H,I,ap.blk af,aU⟩
theorem EE{N:World}{e s n:Nat}{v:Value}{xs:List Value}(h:N.ownsRow 0 e s v n xs):∀k,v.ownBlock=some k->∀o,N.1[k]? =some o->o.isCells=true:=by
 rcases h.2 with⟨rfl,_⟩|⟨g,cap,di,rfl,_,V,_⟩
 ·intro k r;simp[Value.ownBlock]at r
 ·intro k r o aB;simp[Value.ownBlock]at r;subst r;rw[V]at aB
  cases aB
  rfl
def lC(xs:List gP):List Value:=xs.map se
theorem abK{gf:FuncId}{lb:List Value}{Fn Pt:List gP->Prop}{n:Nat}(w:World)(av:n<=100000)
  (pM:∀g ab,D ak w ab->w.1.size<=g->g<ab.1.size->Cy Tryz.prog gf lb 1 (λa=>[Value.int .u32 (a:gP).val]) Fn Pt n (aj g) ab):
  aP Tryz.prog 245 #[.slice none 0 0,.func (.func gf) #[] lb.toArray] w λW w'=>∃xs,Fn xs/\w'.ownsRow 0 40 1 W xs.length (lC xs)/\D ak w w'/\fZ w.1.size W:=by
 refine bn Tryz.func245 Tryz.ntmps245 λaZ Z=> ?_;have fV:=cl w (.cells #[.slice none 0 0] 194);have aY:=(D.refl ak w).alloc (.cells #[.slice none 0 0] 194);simp[go_sem];obtain⟨g,aF⟩:=az (w.1.size);rw[aF]at fV⊢;generalize w.alloc (.cells #[.slice none 0 0] 194)=ab at*;have iw:=lt_of_block fV;refine aen (pM g ab aY (by omega) iw) (D.refl _ _) rfl rfl (by kernel_rfl) (λk r=>by cases r;exact iw)
  (λpre N=>∃v,N.1[g]? =some (.cells #[v] 194 (0,0))/\N.ownsRow 0 40 1 v pre.length (lC pre)/\fZ ab.1.size v/\D ak w N/\ab.1.size<=N.1.size) (λc pre N=>False) (λx f' _=>f' 2=.pointer (some ⟨g,0,none⟩)/\f' 5=.int .u32 x.val) ?_ ?_ ?_ ?_ ?_ ?_ ?_ ?_
 ·rintro pre N bs ⟨v,H,I,af,aU,bC⟩ ap;exact⟨v,ap.blk H,abJ I ap,af,ap.tS aU aY.size,Nat.le_trans bC ap.ch.size⟩
 ·exact λ_ _ _ _ h _=>h
 ·exact λ_ _ _ _ h _=>h
 ·exact⟨_,fV,⟨by simp[lC],.inl ⟨rfl,rfl⟩⟩,λk r=>by simp[Value.ownBlock]at r,aY,Nat.le_refl _⟩
 ·rintro pre x N bP;simp[go_sem];exact⟨D.refl _ _,bP⟩
 ·rintro pre x f' N ⟨v,H,I,af,aU,bC⟩ ⟨HP,Mn⟩ cI;have ew:=λi=>aG H i;have jS:=λi=>dD H i;have tf:∀u∈lC [x],u.oneCell'=true:=by simp[lC,se,Value.oneCell']
  have PX:=EE I;have Bk:v.ownBlock≠some g:=λe=>by have:=af g e;omega
  obtain⟨ag,m,c,aS⟩:∃ag m c,v=.slice ag m c:=by
   rcases I.2 with⟨e,_⟩|⟨l_,cap,di,e,_⟩
   ·exact⟨_,_,_,e⟩
   ·exact⟨_,_,_,e⟩
  rw[aS]at H I af ew PX Bk;simp[go_sem,HP,Mn,ew];refine Iq bO I rfl (by unfold maxLen;omega) (by omega) λW w' a' aX bq=> ?_;have ba:=aX.obj H (λe=>Bk e);have Da:=λi=>aG ba i;have abL:=λi=>dD ba i;obtain⟨gh,m',dg,KQ⟩:∃ag m c,W=.slice ag m c:=by
   rcases a'.2 with⟨e,_⟩|⟨l_,cap,di,e,_⟩
   ·exact⟨_,_,_,e⟩
   ·exact⟨_,_,_,e⟩
  have iR:fZ ab.1.size W:=by
   rcases bq with e|e
   ·intro k r;rw[e]at r;exact af k r
   ·exact e.mono bC
  rw[KQ]at a' bq iR⊢;simp[go_sem,HP,Da,abL];have cs:D (aj g) w' (w'.setCell ⟨g,0,none⟩ (.slice gh m' dg)):=(D.refl (aj g) w').setCell (p:=⟨g,0,none⟩) (.inl rfl) _;have da:∀k,(Value.slice gh m' dg).ownBlock=some k->¬aj g k:=λk r e=>by
   simp only[aj]at e;have:=iR k r;omega
  refine⟨(aX.mono λj F e=>.inr ⟨af j e,PX j e⟩).bJ cs λj F e=>.inl e,_,by rw[ba,gp];rfl,?_,iR,(aU.bJ aX λj F e=>by have:=af j e;omega).bJ cs λj F e=>by simp only[aj]at e;omega,?_⟩
  ·have:=ej a' cs da;simpa[lC,se]using this
  ·have:=aX.size;have:=cs.size;omega
 ·rintro L xs N dS eU ⟨v,H,I,af,aU,bC⟩ bi;have ew:=λi=>aG H i;obtain⟨ag,m,c,aS⟩:∃ag m c,v=.slice ag m c:=by
   rcases I.2 with⟨e,_⟩|⟨l_,cap,di,e,_⟩
   ·exact⟨_,_,_,e⟩
   ·exact⟨_,_,_,e⟩
  have aAQ:L≠g:=by omega
  rw[aS]at H I af ew;simp[go_sem,ew,ze,bi];refine Z _ _ ⟨xs,eU,?_,aU.putObj (.inr (by omega)) _,af.mono (by omega)⟩;have T:D (aj L) N (N.putObj L (.deferred none)):=(D.refl (aj L) N).putObj (.inl rfl) _;refine ej I T λk r e=> ?_;simp only[aj]at e;subst e;have:=EE I k r _ bi
  cases this
 ·exact λ_ _ _ _ _ _ h=>h.elim
theorem abM{gf:FuncId}{lb:List Value}{Fn Pt:List gP->Prop}{n:Nat}(w:World)(av:n<=100000)
  (pM:∀g ab,D ak w ab->w.1.size<=g->g<ab.1.size->Cy Tryz.prog gf lb 1 (λa=>[Value.int .u32 (a:gP).val]) Fn Pt n (aj g) ab):
  aP Tryz.prog 215 #[.func (.func gf) #[] lb.toArray] w λW w'=>∃xs,Fn xs/\w'.ownsRow 0 40 1 W xs.length (lC xs)/\D ak w w'/\fZ w.1.size W:=by
 refine bn Tryz.func215 Tryz.ntmps215 λaZ Z=> ?_;simp[go_sem];refine(abK w av pM).mono ?_;rintro v ab ⟨xs,H,I,af,aU⟩;simp[go_sem];exact Z _ _ ⟨xs,H,I,af,aU⟩
theorem YK(w:World)(h:ic w Tryz.prog 40 se b n aR)(av:n<=100000)(EY:∀xs,xN aR xs->xs.length<=255)(ab:World)(de:D ak w ab)(aq:ab.cell? ⟨q,0,none⟩=some (.map (some b))):
  aP Tryz.prog 178 #[.func (.func 217) #[] #[.pointer (some ⟨q,0,none⟩)]] ab λW w'=>∃xs,xN aR xs/\xs.Pairwise (λa b=>a<b)/\bD w' W xs.length (lC xs)/\D ak ab w'/\fZ ab.1.size W:=by
 refine bn Tryz.func178 Tryz.ntmps178 λaZ Z=> ?_;have V:=(h.ch de id).lt;simp[go_sem];have abN:=abM (gf:=217) (lb:=[.pointer (some ⟨q,0,none⟩)]) (Fn:=xN aR) (Pt:=λ_=>True) ab av λg ai T aF iw=>
  abG ((h.ch de id).ch T id) (T.cell aq id) (λe=>by simp only[aj]at e;omega) (λk r=>by simp only[aj]at r;omega)
 refine abN.mono ?_;rintro v ai ⟨xs,eS,eT,aA,iR⟩;have cI:=EY xs eS;simp[go_sem];by_cases bf:0<xs.length
 ·obtain⟨g,cap,di,aS,dk,_⟩:=Me eT bf;subst aS;have Iv:dm se ai g xs.toArray:=dm.fp (cap:=cap) (n:=xs.length) eT (by simp[lC]) (by simp);have aw:=Lt Iv cap (by simpa using cI);simp only[List.size_toArray]at aw;refine aw.mono ?_;rintro _ aC ⟨c_,af,dZ,cf,aE⟩;simp[go_sem];have cL:c_.size=xs.length:=by rw[dZ.1];simp
  have Ac:c_.toList.Perm xs:=by
   have:=dZ.2.2;have aK:(c_.extract 0 xs.length).toList=c_.toList:=by rw[<-cL];simp
   have aW:(xs.toArray.extract 0 xs.length).toList=xs:=by simp
   rw[aK,aW]at this;exact this
  have jK:c_.toList.Nodup:=Ac.nodup_iff.2 eS.1;have aAR:ab.1.size<=g:=iR g rfl;refine Z _ _ ⟨c_.toList,⟨jK,λa=>by rw[Ac.mem_iff];exact eS.2 a⟩,?_,?_,aA.bJ aE λj F e=>by simp only[aj]at e;omega,iR⟩
  ·rw[List.pairwise_iff_getElem];intro i j aa F hF;have Hw:i<c_.size:=by simpa using aa
   have jt:j<c_.size:=by simpa using F
   have H:=cf i j (Nat.zero_le _) hF (by omega);have aK:c_[i]! =c_.toList[i]:=by simp[Hw]
   have aW:c_[j]! =c_.toList[j]:=by simp[jt]
   rw[aK,aW]at H;have da:c_.toList[i]≠c_.toList[j]:=List.pairwise_iff_getElem.1 jK i j aa F hF;simp only[lt,SS.lt,decide_eq_false_iff_not]at H
   grind
  ·obtain⟨ak6,bl,gQ,uC⟩:=af;have xR:xs.length<=cap/\cap<=maxLen:=by
    rcases eT.2 with⟨e,_⟩|⟨l_,UR,aAS,e,_,_,H,I,_⟩
    ·cases e
    ·omega
   have aO:c_.toList.length=xs.length:=by simpa using cL
   rw[aO];refine⟨_,cap,rfl,xR.1,xR.2,λ_=>⟨_,rfl,λj u an=> ?_⟩⟩;unfold lC at an;rw[List.getElem?_map]at an
   cases bi:c_.toList[j]? with
   |none=>rw[bi]at an;cases an
   |some a=>
    rw[bi]at an
    cases an
    have F:j<c_.size:=by
     have:=(List.getElem?_eq_some_iff.1 bi).1;simpa using this
    have:=uC j F;rw[Addr.add_lit,Nat.zero_add,aG gQ,this]
    grind
 ·obtain rfl:xs=[]:=List.eq_nil_of_length_eq_zero (by omega);rcases eT.2 with⟨aS,_⟩|⟨g,cap,di,aS,_,dk,_⟩
  ·subst aS;refine(PV ai none 0).mono ?_;intro _ aC aE;simp[go_sem];exact Z _ _ ⟨[],eS,List.Pairwise.nil,bD.nil _,aA.trans aE,λk r=>by simp[Value.ownBlock]at r⟩
  ·subst aS;refine(PV ai (some ⟨g,0,none⟩) cap).mono ?_;intro _ aC aE;simp[go_sem];exact Z _ _ ⟨[],eS,List.Pairwise.nil,(bD.fp eT).ch aE λ_ _ e=>e,aA.trans aE,iR⟩
end
end Go.Proofs.YtoohkhcpboldjaaGreatDoor.S32
