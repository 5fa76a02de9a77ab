/- The library's sort of structs, in this family's words: what it changes, and what the row then reads. They speak of no program. No condition. -/
import Derived.ProofKit
import Derived.Deep.Slices
import Derived.Deep.Fields
import Derived.OpenShut
import Derived.FnData
import Derived.LaidLaws
import Derived.Handed
import Derived.Test.YtoohkhcpboldjaaGreatDoorDkD
import Derived.Shelf.SlSortCmp.WholeK
set_option linter.unusedSimpArgs false
set_option linter.unusedVariables false
namespace Go.Kin
open Go Go.RowKit Go.WideShapes Go.ChangeShapes
section
variable{bc:Type}{enc:TypeId×Value->bc}{P:Program}
theorem aAj{f:Func}{s:ChangeSpec}{AO up aAk Th:Bool}{N bs:World}{args:Array Value}{v:Value}{oY ma:List (DataW bc)}{before pa pv:List MemPlace}
  (fu:DataW.Whole enc P f.params.toList s.vars AO N args.toList oY ma before)
  (vZ:∀(b:Nat) (b_:Nat->Bool) (bi:Bool),DataW.TrodAll enc P bs b b_ bi f.resultTypes.toList (v.resultList f.resultTypes.size) (s.fn bc (oY++ma)).results [])
  (akQ:∀b_:Nat->Bool,(∀p∈before,b_ p.block=true)->DataW.TrodAll enc P bs 0 b_ true f.params.toList args.toList (s.fn bc (oY++ma)).args pa)
  (akR:∀b_:Nat->Bool,(∀p∈before,b_ p.block=true)->DataW.TrodVars enc P bs b_ s.vars (s.fn bc (oY++ma)).vars pv)
  (cU:before=pa++pv)(V:Below N.1.size N bs)
  (gg:∀(j:Nat) (t:TypeId) (J:Value),f.resultTypes[j]? =some t->(v.resultList f.resultTypes.size)[j]? =some J->Value.okWide P bs .any 0 t J):
  s.post enc P f AO up aAk Th N args v bs:=by
 have aO:∀p∈before,p.block<N.1.size:=λp ah=>fu.lt p ah;have nN:∀p∈before,(λb=>decide (b<N.1.size)) p.block=true:=λp ah=>by simpa using aO p ah
 refine⟨oY,ma,before,[],pa,pv,fu,vZ _ _ _,akQ _ nN,akR _ nN,World.keptBut_mono (λp ah=>⟨ah,?_⟩) (V.frame (·∈before)),λ_=> ?_⟩
 ·grind
 ·obtain⟨_,_,_,_,_,hz,av⟩:=fu;refine⟨gg,_,_,([]++pa)++pv,⟨[]++pa,pv,trodAll_append (akQ _ (λ_ _=>rfl)) (vZ _ _ _),akR _ (λ_ _=>rfl),rfl,?_,?_⟩,?_⟩
  ·intro b off ah;have hR:MemPlace.cell b off∈before:=by rw[cU];simpa using ah
   rw[V.frozen (aO _ hR)];exact hz b off hR
  ·grind
  grind
theorem aAl(al:laidOutB P=true){N bs:World}(V:Below N.1.size N bs):∀(fJ:List TypeId) (cn:List Value) (oY:List (DataW bc)) (ps:List MemPlace),
  (fJ.all λt=>P.readableRec t&&decide (t<P.types.size))=true->DataW.TrodAll enc P N 0 (λ_=>true) true fJ cn oY ps->(∀x∈ps,x.block<N.1.size)->
  ∀b_:Nat->Bool,(∀p∈ps,b_ p.block=true)->DataW.TrodAll enc P bs 0 b_ true fJ cn oY ps:=by
 intro fJ
 induction fJ with
 |nil=>
  intro cn oY ps _ h _ b_ _
  cases cn<;>cases oY<;>first|exact h|exact h.elim
 |cons t fJ bG=>
  intro cn oY ps ap h aO b_ pc;simp only[List.all_cons,Bool.and_eq_true,decide_eq_true_eq]at ap
  cases cn with
  |nil=>cases oY<;>exact h.elim
  |cons v cn=>
   cases oY with
   |nil=>exact h.elim
   |cons d oY=>
    obtain⟨p,q,H,I,rfl⟩:=h;exact⟨p,q,WideElems.Trod_stays al ap.1.1 ap.1.2 H (λx M=>V.same (aO x (by simp[M]))) (λx M=>pc x (by simp[M])),
     bG cn oY q ap.2 I (λx M=>aO x (by simp[M])) b_ (λx M=>pc x (by simp[M])),rfl⟩
theorem ayM{f:Func}{s:ChangeSpec}{N bs:World}{args:Array Value}{oY:List (DataW bc)}{before p:List MemPlace}(al:laidOutB P=true)
  (fu:DataW.Whole enc P f.params.toList s.vars false N args.toList oY [] before)(hm:DataW.TrodAll enc P N 0 (λ_=>true) true f.params.toList args.toList oY p)(ah:before=p++[])
  (ap:(f.params.toList.all λt=>P.readableRec t&&decide (t<P.types.size))=true){kT:TypeId}(vZ:f.resultTypes=#[kT])(akS:P.underlying kT=some .bool)
  (aw:s.fn bc (oY++[])={results:=[.lit (.bool true)],args:=oY})(aS:s.vars=[])(V:Below N.1.size N bs):
  s.post enc P f false true false false N args (.bool true) bs:=by
 have aO:∀x∈p,x.block<N.1.size:=λx M=>fu.lt x (by rw[ah];simp[M]);refine aAj (pa:=p) (pv:=[]) fu (λb b_ bi=> ?_) (λb_ pc=> ?_) (λb_ _=> ?_) ah V ?_
 ·rw[aw,vZ];exact trodAll_mk1 (shut_bool akS _)
 ·rw[aw];exact aAl al V _ _ _ _ ap hm aO b_ λx M=>pc x (by rw[ah];simp[M])
 ·rw[aw,aS];rfl
 ·exact ok_one vZ rfl (okWide_bool_mk akS _)
end
theorem aaV{P:Program}{w:World}{py:String}{g t e n:Nat}{k:IntKind}{zs:List Int}(aF:P.globalNamed py=some g)(kp:(P.globals[g]?).map (·.type)=some t)(bd:P.underlying t=some (.array n e))(aV:P.underlying e=some (.int k))(T:P.cellsOf e=1)(av:P.cellsOf t=n)(hz:zs.length=n)
  (h:laidMet P [(py,.agg (zs.map λz=>.lit (.int k z)))] w):∀i z,zs[i]? =some z->w.cell? ⟨g,i,none⟩=some (.int k z):=by
 obtain⟨ps,⟨l_,er,cs,iF,p,q,H,I,af,aU,_⟩,_⟩:=h;rw[aF]at H;obtain rfl:=Option.some.inj H;rw[kp]at I;obtain rfl:=Option.some.inj I;obtain⟨xs,m,_,M,al,lr,aa⟩:=DataW.trod_array bd aU;have eU:=congrArg Prod.fst M;simp at eU;intro i z Bh;have hR:i<n:=by have:=(List.getElem?_eq_some_iff.1 Bh).1;omega
 have:=aa i hR;rw[T,Nat.mul_one]at this;have Db:xs[i]? =some (xs[i]'(by omega)):=List.getElem?_eq_getElem _;rw[Db]at this;obtain⟨z',vX,bi,_⟩:=DataW.trod_int aV this;have aK:(xs.map (·.1))[i]? =some (.lit (.int k z')):=by rw[List.getElem?_map,Db,bi];rfl
 rw[<-eU,List.getElem?_map,Bh]at aK;simp at aK;subst aK;rw[World.var?_cell aF af i];have bC:((cs.toList.drop i).take 1)[0]? =some (.int k z):=by rw[vX];rfl
 grind
section
variable{bc:Type}{enc:TypeId×Value->bc}{P:Program}{N:World}{base:Nat}{FL:Nat->Bool}{held:Bool}{iF:Nat}{t e:Nat}{cs:List Value}{x:DataW bc×List MemPlace}
def fA{ct:Type}(w:World)(v:Value)(g':ct->List Value)(k:Nat)(l:List ct):Prop:=∃ag c,v=.slice ag l.length c/\l.length<=c/\c<=maxLen/\
 (0<l.length->∃b off,ag=some ⟨b,off,none⟩/\b<w.1.size/\∀j a i u,l[j]? =some a->(g' a)[i]? =some u->w.cell? ⟨b,off+j*k+i,none⟩=some u)
theorem fA.len{ct:Type}{w:World}{v:Value}{g':ct->List Value}{k:Nat}{l:List ct}(h:fA w v g' k l)(bd:P.underlying t=some (.slice e))(bO:TypeId)(w':World):(Builtin.len_ #[t] bO #[v]).run P w'=.ok (.int .i64 l.length) w':=by
 obtain⟨ag,c,rfl,_⟩:=h;simp[Builtin.len_,run_underlying bd,goInt]
theorem fA.ch{ct:Type}{S:Nat->Prop}{w w':World}{v:Value}{g':ct->List Value}{k:Nat}{l:List ct}(h:fA w v g' k l)(T:D S w w')(av:∀b,b<w.1.size->v.ownBlock=some b->¬S b):fA w' v g' k l:=by
 obtain⟨ag,c,rfl,H,I,af⟩:=h;refine⟨ag,c,rfl,H,I,λah=> ?_⟩;obtain⟨b,off,rfl,aU,bC⟩:=af ah;exact⟨b,off,rfl,Nat.lt_of_lt_of_le aU T.size,λj a i u F aa=>T.cell (bC j a i u F aa) (av b aU rfl)⟩
end
end Go.Kin
namespace Go.Kin
open Go Go.RowKit
section
variable{ct:Type}{w:World}{v:Value}{g':ct->Array Value}{k:Nat}{ae:List ct}
theorem fA.CU(h:fA w v (λa=>(g' a).toList) k ae)(r:0<k)(hR:∀a∈ae,(g' a).size=k){i:Nat}{a:ct}(aa:ae[i]? =some a):∃b off c cs bl fr,v=.slice (some ⟨b,off,none⟩) ae.length c/\w.1[b]? =some (.cells cs bl fr)/\cs.extract (off+i*k) (off+i*k+k)=g' a/\off+i*k+k<=cs.size:=by
 obtain⟨ag,c,rfl,_,_,af⟩:=h;have aO:=(List.getElem?_eq_some_iff.1 aa).1;obtain⟨b,off,rfl,_,ap⟩:=af (by omega);have al:(g' a).toList.length=k:=by rw[Array.length_toList];exact hR a (List.mem_of_getElem? aa)
 obtain⟨rn,Nu⟩:∃u,(g' a).toList[0]? =some u:=⟨_,List.getElem?_eq_getElem (by omega)⟩;obtain⟨o,aB,OH⟩:=cells_of_cell (ap i a 0 rn aa Nu);have aB:w.1[b]? =some o:=aB;obtain⟨cs,bl,fr,rfl⟩:∃cs bl fr,o=.cells cs bl fr:=by
  cases o with
  |cells cs bl fr=>exact⟨_,_,_,rfl⟩
  |_=>cases OH
 have T:∀j,j<k->cs[off+i*k+j]? =(g' a).toList[j]? :=λj F=>by
  obtain⟨u,an⟩:∃u,(g' a).toList[j]? =some u:=⟨_,List.getElem?_eq_getElem (by omega)⟩;rw[an,<-ap i a j u aa an,aG aB]
 have cL:off+i*k+k<=cs.size:=by
  have wQ:=T (k - 1) (by omega);rw[List.getElem?_eq_getElem (show k - 1<(g' a).toList.length by omega)]at wQ;have:=(Array.getElem?_eq_some_iff.1 wQ).1;omega
 grind
theorem aAm(hR:∀a∈ae,(g' a).size=k){j:Nat}{a:ct}(F:ae[j]? =some a){i:Nat}{u:Value}(an:(g' a).toList[i]? =some u):(dv g' ae)[j*k+i]? =some u:=by
 have aO:=(List.getElem?_eq_some_iff.1 F).1;have H:=Jm hR (Nat.le_of_lt aO);rw[Ct F,List.getElem?_append_right (by omega),H,show j*k+i - j*k=i by omega,List.getElem?_append_left (List.getElem?_eq_some_iff.1 an).1];exact an
theorem fA.fp{e:Nat}(h:w.ownsRow 0 e k v ae.length (dv g' ae))(hR:∀a∈ae,(g' a).size=k):fA w v (λa=>(g' a).toList) k ae:=by
 obtain⟨ag,c,aS,H,I,_⟩:=bD.fp h;refine⟨ag,c,aS,H,I,λah=> ?_⟩;obtain⟨g,cap,di,rv,_,_,V,_,T⟩:=zb h ah;rw[aS]at rv;injection rv with hm;refine⟨g,0,hm,lt_of_block V,λj a i u F an=> ?_⟩;rw[Nat.zero_add];exact T _ _ (aAm hR F an)
theorem fA.Nh{S:Nat->Prop}{w w':World}{g':ct->List Value}{v:Value}(h:fA w v g' k ae)(T:D S w w')(av:∀b,v.ownBlock=some b->¬S b):fA w' v g' k ae:=h.ch T λb _ V=>av b V
end
end Go.Kin
namespace Go.Proofs.YtoohkhcpboldjaaGreatDoor
open Go.RowKit Go.Kin
theorem akT:Bg Tryz.prog 134 178 (.agg #[.int .u16 0,.slice none 0 0]) 2 32:=⟨Tryz.underlying134,by kernel_rfl,rfl,by decide⟩
section
variable{w:World}{d p n:Nat}{L:bR}{O bo:Nat->Prop}{z:oH}{cn:List (Nat×Value)}
theorem fQ.push(h:fQ w d p n L O z cn bo){ab w':World}{a:Nat}{b:cX}{u cv':Value}(am:a<n)(V:b.length=512)(T:D ak w ab)(an:ab.ownsRow 0 5 1 u 512 (bm b))(bU:fZ w.1.size u)
  (eT:w'.ownsRow 0 178 2 cv' (L.bB.length+1) (dv pP cn++[.int .u16 a,u]))(ki:D (λk=>z.dr.ownBlock=some k) ab w')(iB:cv'.ownBlock=z.dr.ownBlock\/fZ ab.1.size cv'):
  fQ (w'.setCell ⟨d,3,none⟩ cv') d p n {L with bB:=L.bB++[(a,b)]} (ax O w w') {z with dr:=cv'} (cn++[(a,u)]) (λk=>bo k\/u.ownBlock=some k):=by
 have H:=h.ch T λ_ _ e=>e;have aby:=oJ an;have aaB:=oJ eT;have Ir:∀j,O j->j<w.1.size:=h.gK;have aI4:=T.size;have aI5:=ki.size;have aAn:∀k,u.ownBlock=some k->¬z.dr.ownBlock=some k:=λk r e=>by have:=bU k r;have:=Ir k (h.EB k e).1;omega
 have Df:∀k,cv'.ownBlock=some k->k≠d/\¬bo k/\u.ownBlock≠some k/\(O k\/(w.1.size<=k/\k<w'.1.size)):=λk r=>by
  rcases iB with e|e
  ·obtain⟨cB,cb,cj⟩:=h.EB k (by rw[<-e];exact r)
   grind
  ·have oI:=e k r;have MM:=h.lt;refine⟨by omega,λar=> ?_,λaW=> ?_,.inr ⟨by omega,aaB k r⟩⟩
   ·have:=Ir k (h.CE k ar);omega
   ·have:=aby k aW;omega
 have pk:D (aj d) w' (w'.setCell ⟨d,3,none⟩ cv'):=(D.refl (aj d) w').setCell (p:=⟨d,3,none⟩) (.inl rfl) _;have cL:(w'.setCell ⟨d,3,none⟩ cv').1.size=w'.1.size:=by simp[World.setCell]
 have UO:D (λk=>k=d\/z.dr.ownBlock=some k) ab (w'.setCell ⟨d,3,none⟩ cv'):=(ki.mono λ_ _ e=>.inr e).bJ pk λj _ e=>.inl e;have Ep:=h.xr;have ML:∀k,bo k->¬(k=d\/z.dr.ownBlock=some k):=λk r e=>e.elim (Ep k r).2.1 λe=>h.sV k r (.inr (.inr (.inr (.inr e))));have ru:∀k,u.ownBlock=some k->¬(k=d\/z.dr.ownBlock=some k):=λk r e=>e.elim (λe=>by have:=bU k r;have:=h.lt;omega) (aAn k r);have sf:w'.1[d]? =some (.cells (yW n p z L) 138 (0,0)):=ki.ah H.blk λe=>(h.EA d e).1 rfl;refine H.own (D':={L with bB:=L.bB++[(a,b)]}) (z':={z with dr:=cv'}) (Y':=λk=>bo k\/u.ownBlock=some k) (O':=ax O w w') ?_ UO rfl rfl rfl ⟨rfl,rfl,rfl⟩ ⟨?_,?_,?_⟩ ?_ ⟨h.ok.m,?_⟩ ?_ (λ_=>.inl) (λ_=>.inl) ?_ ?_
 ·rw[eY,sf,gp];rfl
 ·rw[show(dv pP (cn++[(a,u)]))=dv pP cn++[.int .u16 a,u]by rw[xi,yE];rfl,List.length_append];exact ej eT pk λk r e=>by simp only[aj]at e;exact(Df k r).1 e
 ·simp[h.bB.len]
 ·intro i a2 cC aa;rcases Nat.lt_or_ge i L.bB.length with aO|nJ
  ·rw[List.getElem?_append_left aO]at aa;obtain⟨fw,aK,aW⟩:=H.bB.Jx i a2 cC aa;exact⟨fw,by grind,(aW.ch UO ML).mono λ_=>.inl⟩
  ·have pw:i=L.bB.length:=by
    have:=(List.getElem?_eq_some_iff.1 aa).1;simp at this;omega
   subst pw;simp at aa;obtain⟨rfl,rfl⟩:=aa;refine⟨u,by rw[<-h.bB.len];simp,?_,λk r=>⟨.inr r,?_⟩⟩
   ·rw[V];exact(bD.fp an).ch UO ru
   ·have:=aby k r;omega
 ·exact(H.fv.ch UO ML).mono λ_=>.inl
 ·intro e aV;simp only[List.mem_append,List.mem_singleton]at aV;rcases aV with aV|rfl
  ·exact h.ok.bB e aV
  ·exact⟨V,am⟩
 ·intro k r;obtain⟨cB,cb,cj,dw⟩:=Df k r;exact⟨dw,λe=>e.elim cb cj,cB⟩
 ·rintro k (r|r)
  ·exact⟨.inl (Ep k r).1,(Ep k r).2⟩
  ·have Lr:=bU k r;have lZ:=h.lt;have ey:=Ir _ (h.kX _ (.inr (.inl rfl)));have cZ:=Ir _ (h.kX _ (.inr (.inr (.inl rfl))));have iq:=Ir _ (h.kX _ (.inr (.inr (.inr (.inl rfl)))));have:=aby k r;exact⟨.inr ⟨Lr,by omega⟩,by omega,by omega,by omega,by omega⟩
 ·intro k r;rw[cL];exact ax.lt h.gK (by omega) k r
end
def wv:ajN->Int
 |.bS=>3
 |.arg=>1
 |.ok=>0
section
variable{w:World}{d p n:Nat}{L:bR}{O bo:Nat->Prop}{z:oH}{cn:List (Nat×Value)}
theorem fQ.grow(h:fQ w d p n L O z cn bo){w0:World}{Is:Nat->Prop}(eV:∀k,O k->ax Is w0 w k)(al:∀k,Is k->k<w0.1.size)(aw:w0.1.size<=w.1.size):Ez w d p n L (ax Is w0 w):=⟨z,cn,bo,h.mono eV (ax.lt al aw)⟩
def vt(w:World)(d p n:Nat)(L:bR)(O:Nat->Prop)(z:oH):Prop:=∃z' cn bo,fQ w d p n L O z' cn bo/\z'.hG=z.hG/\z'.bb=z.bb/\z'.na=z.na
theorem vt.at(h:vt w d p n L O z):Ez w d p n L O:=by
 obtain⟨z',cn,bo,h,_⟩:=h;exact⟨z',cn,bo,h⟩
theorem fQ.Gb(h:fQ w d p n L O z cn bo){w0:World}{Is:Nat->Prop}(eV:∀k,O k->ax Is w0 w k)(al:∀k,Is k->k<w0.1.size)(aw:w0.1.size<=w.1.size):vt w d p n L (ax Is w0 w) z:=⟨z,cn,bo,h.mono eV (ax.lt al aw),rfl,rfl,rfl⟩
theorem vt.ir{z':oH}(h:vt w d p n L O z)(e:z.hG=z'.hG/\z.bb=z'.bb/\z.na=z'.na):vt w d p n L O z':=by
 obtain⟨rB,cn,bo,h,a,b,c⟩:=h;exact⟨rB,cn,bo,h,a.trans e.1,b.trans e.2.1,c.trans e.2.2⟩
theorem ahF(a:Nat)(am:a<65536)(b:cX)(v:Value)(P:ek)(h:fQ w d p n L O z cn bo)(ah:rl w p P)(tu:¬O p)(tn:P.dq<=9223372036854775807)(ew:L.bB.length<=1000000)(Fp:∀x,L.fv=some x->x<65536)
  (aS:bD w v b.length (bm b))(hS:0<b.length->∀k,v.ownBlock=some k->¬O k/\k≠p):
  aP Tryz.prog 219 #[.pointer (some ⟨d,0,none⟩),.int .u16 a,v] w λW w'=>W=.int .i64 (wv (L.lG n P a b))/\vt w' d p n (L.ha n P a b) (ax O w w') z/\rl w' p (L.qP n P a b)/\D (λk=>O k\/k=p) w w'/\D (λk=>k=d\/k=p\/z.dr.ownBlock=some k) w w':=by
 refine bn Tryz.func219 Tryz.ntmps219 λaZ Z=> ?_;have cI:=aS.len Tryz.underlying101 3;have Ag:O d:=h.kX _ (.inl rfl);simp[go_sem];refine(Xa P h ah).mono ?_;rintro _ ab ⟨rfl,bH⟩;subst ab
 cases fE:L.fk P with
 |false=>
  rw[show sW L P=3 by simp[sW,fE]];simp[go_sem];exact Z _ _ ⟨by simp[bR.lG,fE,wv],by simpa[bR.ha,bR.lG,fE]using h.Gb (λ_=>.inl) h.gK (Nat.le_refl _),by simpa[bR.qP,fE]using ah,D.refl _ _,D.refl _ _⟩
 |true=>
  rw[show sW L P=0 by simp[sW,fE]];simp[go_sem];refine(MJ a am h).mono ?_;rintro _ ab ⟨rfl,bH⟩;subst ab;by_cases jZ:a<n
  case neg=>
   have tp:n<=a:=by omega
   simp[go_sem,jZ];exact Z _ _ ⟨by simp[bR.lG,fE,tp,wv],by simpa[bR.ha,bR.lG,fE,tp]using h.Gb (λ_=>.inl) h.gK (Nat.le_refl _),by simpa[bR.qP,fE,tp]using ah,D.refl _ _,D.refl _ _⟩
  have tp:¬n<=a:=by omega
  by_cases V:b.length=512
  case neg=>
   have sf:(((b.length:Nat):Int)==512)=false:=beq_false_of_ne (by omega);simp[go_sem,jZ,cI,bne,sf];exact Z _ _ ⟨by simp[bR.lG,fE,V,wv],by simpa[bR.ha,bR.lG,fE,V]using h.Gb (λ_=>.inl) h.gK (Nat.le_refl _),by simpa[bR.qP,fE,V]using ah,D.refl _ _,D.refl _ _⟩
  have aI:w.cell? ⟨d,1,none⟩=some (.pointer (some ⟨p,0,none⟩)):=aG h.blk 1;simp[go_sem,jZ,cI,V,aI];refine(WZ p P.off P.dq w ah tn).mono ?_;rintro _ ab ⟨rfl,fW,a',_⟩;simp only[W_]at fW⊢;have fW:rl ab p P.step:=fW;have K_:L.qP n P a b=P.step:=by simp[bR.qP,fE,tp,V]
  have H:=h.ch a' λk r e=>by simp only[aj]at e;subst e;exact tu r
  have BZ:D (λk=>O k\/k=p) w ab:=a'.mono λ_ _ e=>.inr e;have UP:D (λk=>k=d\/k=p\/z.dr.ownBlock=some k) w ab:=a'.mono λ_ _ e=>.inr (.inl e);have sF:=aS.ch a' λk r e=>by simp only[aj]at e;grind
  cases It:P.bI with
  |false=>
   simp[go_sem];exact Z _ _ ⟨by simp[bR.lG,fE,tp,V,It,wv],by simpa[bR.ha,bR.lG,fE,tp,V,It]using H.Gb (λ_=>.inl) h.gK a'.size,by rw[K_];exact fW,BZ,UP⟩
  |true=>
   have wb:L.lG n P a b=.ok:=by simp[bR.lG,fE,tp,V,It]
   have vP:L.ha n P a b=L.put n a b:=by simp[bR.ha,wb]
   rw[wb,vP,K_]at Z;have dz:ab.cell? ⟨d,7,none⟩=some (.bool L.tY):=aG H.blk 7;have cg:=dD H.blk 7
   cases DH:L.tY with
   |true=>
    rw[DH]at dz;simp[go_sem,dz,cg];have I:fQ (ab.setCell ⟨d,7,none⟩ (.bool false)) d p n {L with tY:=false} O z cn bo:=H.apl rfl rfl rfl rfl rfl rfl;refine Z _ _ ⟨rfl,?_,?_,BZ.setCell (.inl (.inl Ag)) _,UP.setCell (.inl (.inl rfl)) _⟩
    ·rw[show L.put n a b={L with tY:=false}by simp[bR.put,DH]];exact I.Gb (λ_=>.inl) h.gK (Nat.le_trans a'.size ((D.refl (aj d) ab).setCell (p:=⟨d,7,none⟩) (.inl rfl) _).size)
    ·exact fW.ch ((D.refl (aj d) ab).setCell (p:=⟨d,7,none⟩) (.inl rfl) (.bool false)) (λe=>by simp only[aj]at e;subst e;exact tu Ag)
   |false=>
    rw[DH]at dz;have ev:ab.cell? ⟨d,8,none⟩=some z.yV:=aG H.blk 8
    cases has:L.fv with
    |none=>
     have xy:=H.fv;rw[has]at xy;simp only[CD]at xy;rw[xy]at ev;simp[go_sem,dz,ev];refine(MJ a am H).mono ?_;rintro _ ai ⟨rfl,bH⟩;subst ai;simp[go_sem,jZ];obtain⟨wR,wS,iB⟩:∃ag c,z.dr=.slice ag L.bB.length c:=by
      rcases h.bB.own.2 with⟨aS,bf⟩|⟨g,cap,di,aS,_⟩
      ·grind
      ·exact⟨_,_,aS⟩
     have PQ:=H.ch (D.refl ak ab).drew λ_ _ e=>e;have ei:ab.drew.cell? ⟨d,3,none⟩=some (.slice wR L.bB.length wS):=by rw[<-iB];exact aG PQ.blk 3
     have abz:ab.cell? ⟨d,3,none⟩=some (.slice wR L.bB.length wS):=ei;refine cD [A 0,A 1,A 2,A 3,A 4,A 5,A 6,(7,some [0,1,2,3,4,5]),A 8,(9,some [0,1,2,3,4]),(10,some [0]),A 11,A 12,(13,some [])] ?_;simp[go_sem,abz];refine(ED v 512 b ab.drew (by omega) V (by rw[<-V];exact sF)).mono ?_;rintro u aC ⟨kC,DO,bV⟩;have af:=PQ.ch DO λ_ _ e=>e;have abA:aC.cell? ⟨d,3,none⟩=some (.slice wR L.bB.length wS):=by rw[<-iB];exact aG af.blk 3
     obtain⟨DP,aJ,an⟩:∃ag c,u=.slice ag 512 c:=by
      obtain⟨ag,c,e,_⟩:=bD.fp kC;exact⟨ag,c,e⟩
     subst an;have xW:=((D.refl ak aC).alloc (.cells #[.int .u16 a,.slice DP 512 aJ] 178)).ah af.blk id;have KP:(aC.alloc (.cells #[.int .u16 a,.slice DP 512 aJ] 178)).cell? ⟨d,3,none⟩=some (.slice wR L.bB.length wS):=by rw[<-iB];exact aG xW 3
     simp[go_sem,abA,KP];have PR:=af.bB.own;rw[show(z).dr=.slice wR L.bB.length wS from iB]at PR;refine va akT (us:=[.int .u16 a,.slice DP 512 aJ]) PR rfl (by simp[Value.oneCell']) (by show L.bB.length+1<=maxLen;unfold maxLen;omega) (by omega) λcv' be Bq nM FC=> ?_;obtain⟨fB,sE,OO,AR,_⟩:=zb Bq (by omega);have abB:=H.push (b:=b) (u:=.slice DP 512 aJ) (cv':=cv') jZ V (D.iy DO) kC bV Bq (by rw[show(z).dr=.slice wR L.bB.length wS from iB];exact nM) (by grind);have ci:=nM.ah af.blk (λe=>(h.EA d (by rw[iB];exact e)).1 rfl);have cW:=λi=>aG ci i;have z4:=λi=>dD ci i;subst AR;simp[go_sem,cW,z4,yW];have PS:D (λk=>O k\/k=p) w (be.setCell ⟨d,3,none⟩ (.slice (some ⟨fB,0,none⟩) (L.bB.length+1) sE)):=(((BZ.trans ((D.iy DO).mono λ_ _ e=>e.elim)).bJ nM λj _ e=>.inl (h.EB j (by rw[iB];exact e)).1)).setCell (.inl (.inl Ag)) _;have tA:D (λk=>k=d\/z.dr.ownBlock=some k) ab (be.setCell ⟨d,3,none⟩ (.slice (some ⟨fB,0,none⟩) (L.bB.length+1) sE)):=(((D.iy DO).mono λ_ _ e=>e.elim).bJ nM λj _ e=>.inr (by rw[iB];exact e)).setCell (p:=⟨d,3,none⟩) (.inl (.inl rfl)) _;refine Z _ _ ⟨rfl,?_,?_,PS,UP.trans (tA.mono λk _ e=>e.elim .inl λe=>.inr (.inr e))⟩
     ·rw[show L.put n a b={(L)with bB:=L.bB++[(a,b)]}by simp[bR.put,DH,has,jZ]];refine abB.Gb (λk r=> ?_) h.gK PS.size;rcases r with r|r
      ·exact .inl r
      ·exact .inr ⟨Nat.le_trans BZ.size r.1,Nat.lt_of_lt_of_le r.2 (by simp[World.setCell])⟩
     ·exact(fW.ch tA (λe=>e.elim (λe=>tu (e▸Ag)) λe=>tu (h.EB p e).1))
    |some x=>
     have xy:=H.fv;rw[has]at xy;obtain⟨g,xy,aF,akm⟩:=xy;rw[xy]at ev;have bF:=λi=>aG aF i;have bz:=dD H.blk 8;simp[go_sem,dz,ev,bF,bz];have M:=Fp x has;have cs:D (aj d) ab (ab.setCell ⟨d,8,none⟩ (.pointer none)):=(D.refl (aj d) ab).setCell (p:=⟨d,8,none⟩) (.inl rfl) _;have I:fQ (ab.setCell ⟨d,8,none⟩ (.pointer none)) d p n {L with fv:=none} O {z with yV:=.pointer none} cn bo:=by
      have tZ:∀k,bo k->¬aj d k:=λk r e=>by simp only[aj]at e;exact(h.xr k r).2.1 e
      refine H.own (D':={L with fv:=none}) (z':={z with yV:=.pointer none}) (Y':=bo) (O':=O) ?_ (cs.mono λ_ _ e=>.inl e) rfl rfl rfl ⟨rfl,rfl,rfl⟩ (H.bB.ch cs (λk r e=>by simp only[aj]at e;exact(h.EA k r).1 e) tZ) rfl ⟨h.ok.m,h.ok.bB⟩ h.EB (λ_=>id) (λ_=>id) h.xr (λk r=>Nat.lt_of_lt_of_le (H.gK k r) cs.size);rw[eY,H.blk,gp];rfl
     have nP:=fW.ch cs (λe=>by simp only[aj]at e;subst e;exact tu Ag);have p_:D (λk=>O k\/k=p) w (ab.setCell ⟨d,8,none⟩ (.pointer none)):=BZ.setCell (.inl (.inl Ag)) _;have UQ:D (λk=>k=d\/k=p\/z.dr.ownBlock=some k) w (ab.setCell ⟨d,8,none⟩ (.pointer none)):=UP.setCell (.inl (.inl rfl)) _;have rv:=sF.ch cs λk r e=>by simp only[aj]at e;grind
     revert cs I nP p_ UQ rv;generalize ab.setCell ⟨d,8,none⟩ (.pointer none)=ai;intro cs I nP p_ UQ rv;refine(MJ x M I).mono ?_;rintro _ aAo ⟨rfl,bH⟩;subst aAo;by_cases oS:x<n
     case neg=>
      simp[go_sem,oS];refine Z _ _ ⟨rfl,?_,nP,p_,UQ⟩;rw[show L.put n a b={L with fv:=none}by simp[bR.put,DH,has,oS]];exact(I.Gb (λ_=>.inl) h.gK p_.size).ir ⟨rfl,rfl,rfl⟩
     simp[go_sem,oS];obtain⟨wR,wS,iB⟩:∃ag c,z.dr=.slice ag L.bB.length c:=by
      rcases h.bB.own.2 with⟨aS,bf⟩|⟨g,cap,di,aS,_⟩
      ·grind
      ·exact⟨_,_,aS⟩
     have PQ:=I.ch (D.refl ak ai).drew λ_ _ e=>e;have ei:ai.drew.cell? ⟨d,3,none⟩=some (.slice wR L.bB.length wS):=by rw[<-iB];exact aG PQ.blk 3
     have abz:ai.cell? ⟨d,3,none⟩=some (.slice wR L.bB.length wS):=ei;refine cD [A 0,A 1,A 2,A 3,A 4,A 5,A 6,(7,some [0,1,2,3,4,5]),A 8,(9,some [0,1,2,3,4]),(10,some [0]),A 11,A 12,(13,some [])] ?_;simp[go_sem,abz];refine(ED v 512 b ai.drew (by omega) V (by rw[<-V];exact rv)).mono ?_;rintro u aC ⟨kC,DO,bV⟩;have af:=PQ.ch DO λ_ _ e=>e;have abA:aC.cell? ⟨d,3,none⟩=some (.slice wR L.bB.length wS):=by rw[<-iB];exact aG af.blk 3
     obtain⟨DP,aJ,an⟩:∃ag c,u=.slice ag 512 c:=by
      obtain⟨ag,c,e,_⟩:=bD.fp kC;exact⟨ag,c,e⟩
     subst an;have xW:=((D.refl ak aC).alloc (.cells #[.int .u16 x,.slice DP 512 aJ] 178)).ah af.blk id;have KP:(aC.alloc (.cells #[.int .u16 x,.slice DP 512 aJ] 178)).cell? ⟨d,3,none⟩=some (.slice wR L.bB.length wS):=by rw[<-iB];exact aG xW 3
     simp[go_sem,abA,KP];have PR:=af.bB.own;rw[show(({z with yV:=.pointer none}:oH)).dr=.slice wR L.bB.length wS from iB]at PR;refine va akT (us:=[.int .u16 x,.slice DP 512 aJ]) PR rfl (by simp[Value.oneCell']) (by show L.bB.length+1<=maxLen;unfold maxLen;omega) (by grind) λcv' be Bq nM FC=> ?_;obtain⟨fB,sE,OO,AR,_⟩:=zb Bq (by omega);have abB:=I.push (b:=b) (u:=.slice DP 512 aJ) (cv':=cv') oS V (D.iy DO) kC bV Bq (by rw[show(({z with yV:=.pointer none}:oH)).dr=.slice wR L.bB.length wS from iB];exact nM) (by grind);have ci:=nM.ah af.blk (λe=>(h.EA d (by rw[iB];exact e)).1 rfl);have cW:=λi=>aG ci i;have z4:=λi=>dD ci i;subst AR;simp[go_sem,cW,z4,yW];have PS:D (λk=>O k\/k=p) w (be.setCell ⟨d,3,none⟩ (.slice (some ⟨fB,0,none⟩) (L.bB.length+1) sE)):=(((p_.trans ((D.iy DO).mono λ_ _ e=>e.elim)).bJ nM λj _ e=>.inl (h.EB j (by rw[iB];exact e)).1)).setCell (.inl (.inl Ag)) _;have tA:D (λk=>k=d\/z.dr.ownBlock=some k) ai (be.setCell ⟨d,3,none⟩ (.slice (some ⟨fB,0,none⟩) (L.bB.length+1) sE)):=(((D.iy DO).mono λ_ _ e=>e.elim).bJ nM λj _ e=>.inr (by rw[iB];exact e)).setCell (p:=⟨d,3,none⟩) (.inl (.inl rfl)) _;refine Z _ _ ⟨rfl,?_,?_,PS,UQ.trans (tA.mono λk _ e=>e.elim .inl λe=>.inr (.inr e))⟩
     ·rw[show L.put n a b={({L with fv:=none})with bB:=L.bB++[(x,b)]}by simp[bR.put,DH,has,oS]];refine abB.Gb (λk r=> ?_) h.gK PS.size;rcases r with r|r
      ·exact .inl r
      ·exact .inr ⟨Nat.le_trans p_.size r.1,Nat.lt_of_lt_of_le r.2 (by simp[World.setCell])⟩
     ·exact(nP.ch tA (λe=>e.elim (λe=>tu (e▸Ag)) λe=>tu (h.EB p e).1))
end
end Go.Proofs.YtoohkhcpboldjaaGreatDoor
namespace Go.Kin
open Go Go.RowKit
def Cd(L:bR)(k:Nat):bR:=(L.bB.take k).foldl (λd e=>d.ob e 512) L
theorem aAp{L:bR}{k:Nat}{e:Nat×cX}(h:L.bB[k]? =some e):Cd L (k+1)=(Cd L k).ob e 512:=by
 unfold Cd;rw[List.take_add_one,h];simp
theorem aAq(l:List (Nat×cX))(L:bR):(l.foldl (λd e=>d.ob e 512) L).bB=L.bB:=by
 induction l generalizing L with
 |nil=>rfl
 |cons e l bG=>rw[List.foldl_cons,bG];rfl
theorem akU(L:bR)(k:Nat):(Cd L k).bB=L.bB:=aAq _ _
theorem aAr(L:bR):{Cd L L.bB.length with bB:=[]}=L.d_:=by
 unfold Cd bR.d_;rw[List.take_length]
theorem aAs(l:List (Nat×cX))(L:bR):(l.foldl (λd e=>d.ob e 512) L).fv=L.fv:=by
 induction l generalizing L with
 |nil=>rfl
 |cons e l bG=>rw[List.foldl_cons,bG];rfl
theorem aAt(L:bR):L.d_.fv=L.fv:=aAs _ _
end Go.Kin
namespace Go.Proofs.YtoohkhcpboldjaaGreatDoor
open Go.RowKit Go.Kin
section
variable{w:World}{d p n:Nat}{L:bR}{O bo:Nat->Prop}{z:oH}{cn:List (Nat×Value)}
theorem fQ.aAu(h:fQ w d p n L O z cn bo):∃ag c,z.dr=.slice ag L.bB.length c/\L.bB.length<=c/\c<=maxLen:=by
 rcases h.bB.own.2 with⟨aS,bf⟩|⟨g,cap,di,aS,_,_,H,I,_⟩
 ·grind
 grind
theorem fQ.entry(h:fQ w d p n L O z cn bo){i a:Nat}{b:cX}(aa:L.bB[i]? =some (a,b)):∃g cap ag c,z.dr=.slice (some ⟨g,0,none⟩) L.bB.length cap/\g<w.1.size/\i<L.bB.length/\w.cell? ⟨g,i*2,none⟩=some (.int .u16 a)/\w.cell? ⟨g,i*2+1,none⟩=some (.slice ag 512 c)/\bD w (.slice ag 512 c) 512 (bm b)/\b.length=512/\∀k,(Value.slice ag 512 c).ownBlock=some k->bo k/\k<w.1.size:=by
 obtain⟨u,H,I⟩:=h.bB.Jx i a b aa;have V:b.length=512:=(h.ok.bB _ (List.mem_of_getElem? aa)).1;obtain⟨g,cap,aS,_,_,af,aU,bC,cG⟩:=EE h.bB.own H;obtain⟨ag,c,an,ap⟩:=id I.1;rw[V]at an;subst an;exact⟨g,cap,ag,c,aS,af,aU,bC,cG,by have:=I.1;rwa[V]at this,V,I.2⟩
theorem at7(P:ek)(h:fQ w d p n L O z cn bo)(ah:rl w p P)(tu:¬O p)(tn:P.dq<=9223372036854775807)(ew:L.bB.length<=1000000):
  aP Tryz.prog 127 #[.pointer (some ⟨d,0,none⟩)] w λW w'=>W=.int .i64 (if L.fk P&&P.bI then 0 else 3)/\Ez w' d p n (if L.fk P&&P.bI then L.d_ else L) (ax O w w')/\rl w' p (if L.fk P then P.step else P)/\D (λk=>O k\/k=p) w w':=by
 refine bn Tryz.func127 Tryz.ntmps127 λaZ Z=> ?_;have Ag:O d:=h.kX _ (.inl rfl);simp[go_sem];refine(Xa P h ah).mono ?_;rintro _ ab ⟨rfl,bH⟩;subst ab
 cases fE:L.fk P with
 |false=>
  rw[show sW L P=3 by simp[sW,fE]];simp[go_sem];exact Z _ _ ⟨by simp[fE],by simpa[fE]using h.grow (λ_=>.inl) h.gK (Nat.le_refl _),by simpa[fE]using ah,D.refl _ _⟩
 |true=>
  rw[show sW L P=0 by simp[sW,fE]];have aI:w.cell? ⟨d,1,none⟩=some (.pointer (some ⟨p,0,none⟩)):=aG h.blk 1;simp[go_sem,aI];refine(WZ p P.off P.dq w ah tn).mono ?_;rintro _ ab ⟨rfl,fW,a',_⟩;simp only[W_]at fW⊢;have fW:rl ab p P.step:=fW;have H:=h.ch a' λk r e=>by simp only[aj]at e;subst e;exact tu r
  have BZ:D (λk=>O k\/k=p) w ab:=a'.mono λ_ _ e=>.inr e
  cases It:P.bI with
  |false=>
   simp[go_sem];exact Z _ _ ⟨by simp[fE,It],by simpa[fE,It]using H.grow (λ_=>.inl) h.gK a'.size,by simpa[fE]using fW,BZ⟩
  |true=>
   simp only[fE,It,Bool.and_self,if_true]at Z;obtain⟨ag,gl,iB,HB,agj⟩:=h.aAu;have ei:ab.cell? ⟨d,3,none⟩=some (.slice ag L.bB.length gl):=by rw[<-iB];exact aG H.blk 3
   simp[go_sem,ei];refine du (λJ f u=>∃k Ls,J=L.bB.length - k/\k<=L.bB.length/\f 0=.pointer (some ⟨d,0,none⟩)/\f 20=.slice ag L.bB.length gl/\f 21=.int .i64 L.bB.length/\f 22=.int .i64 k/\fQ u d p n (Cd L k) (ax O w u) z cn Ls/\(∀j,Ls j->bo j\/w.1.size<=j)/\rl u p P.step/\D (λk=>O k\/k=p) w u) L.bB.length
    ⟨0,bo,rfl,by omega,by simp,by simp,by simp,by simp,H.mono (λ_=>.inl) (ax.lt h.gK a'.size),λj=>.inl,fW,BZ⟩ ?_
   rintro cJ bK _ f u ⟨k,Ls,rfl,r,f0,f20,f21,f22,dS,aAv,akV,PT⟩;have HK:¬ax O w u p:=λe=>e.elim tu λe=>by have:=lt_of_block ah;omega
   by_cases aO:k<L.bB.length
   ·obtain⟨e,aV⟩:∃e,L.bB[k]? =some e:=⟨_,List.getElem?_eq_getElem aO⟩;obtain⟨a,b⟩:=e;obtain⟨g,cap,vh,aA,akW,iw,_,nC,mT,aw,V,GV⟩:=dS.entry (i:=k) (a:=a) (b:=b) (by rw[akU];exact aV);rw[iB,akU]at akW
    cases akW
    have ea:(k:Int)<L.bB.length:=by omega
    have eo:IntKind.i64.wrap ((k:Int)+1)=((k+1:Nat):Int):=by rw[IntKind.wrap_i64];omega
    have aY:=(D.refl ak u).alloc (.cells #[.int .u16 a,.slice vh 512 aA] 178);have fV:=λi=>aG (cl u (.cells #[.int .u16 a,.slice vh 512 aA] 178)) i;simp[go_sem,f0,f20,f21,f22,ea,aO,nC,mT,fV];refine(apt a _ b 512 V (by omega) (dS.ch aY λ_ _ e=>e) (aw.ch aY λ_ _ e=>e) (λj F=>Nat.lt_of_lt_of_le (GV j F).2 aY.size)).mono ?_;rintro _ fw ⟨rfl,⟨aAw,rN,aI6,aAx⟩,aX⟩;simp[go_sem,f22,eo];have p_:D (λj=>j=z.hG\/j=z.bb) u fw:=(aY.mono λ_ _ e=>e.elim).trans aX;have c':D (λk=>O k\/k=p) w fw:=PT.bJ p_ λj F e=>by
     rcases e with rfl|rfl
     ·exact .inl (h.kX _ (.inr (.inl rfl)))
     ·exact .inl (h.kX _ (.inr (.inr (.inl rfl))))
    refine cH.intro (L.bB.length -(k+1)) (by omega) (bK _ _ _ ⟨k+1,aAw,rfl,by omega,by simp[f0],by simp[f20],by simp[f21],by simp,?_,?_,?_,c'⟩)
    ·rw[aAp aV];refine rN.mono (λj F=> ?_) (ax.lt h.gK c'.size);have gE:=PT.size;have jg:=aY.size;rcases F with F|F
     ·rcases F with F|F
      ·exact .inl F
      ·exact .inr ⟨F.1,by have:=aX.size;omega⟩
     ·exact .inr ⟨by omega,F.2⟩
    ·intro j F;rcases aAx j F with F|F
     ·exact aAv j F
     ·have:=PT.size;have:=aY.size;exact .inr (by omega)
    ·exact akV.ch p_ (λe=>by
      rcases e with e|e
      ·exact HK (dS.kX _ (.inr (.inl e)))
      ·exact HK (dS.kX _ (.inr (.inr (.inl e)))))
   ·have:k=L.bB.length:=by omega
    subst this;have aAy:u.cell? ⟨d,3,none⟩=some z.dr:=aG dS.blk 3;have aAz:=dD dS.blk 3;have cs:D (aj d) u (u.setCell ⟨d,3,none⟩ (.slice none 0 0)):=(D.refl (aj d) u).setCell (p:=⟨d,3,none⟩) (.inl rfl) _;have tZ:∀k,Ls k->¬aj d k:=λk r e=>by simp only[aj]at e;exact(dS.xr k r).2.1 e
    simp[go_sem,f0,f21,f22,aAy,aAz];refine Z _ _ ⟨rfl,?_,by simpa[fE]using akV.ch cs (λe=>by simp only[aj]at e;subst e;exact tu Ag),PT.bJ cs λj _ e=>.inl (by simp only[aj]at e;subst e;exact Ag)⟩;rw[<-aAr];refine⟨{z with dr:=.slice none 0 0},[],Ls,?_⟩;refine dS.own (D':={Cd L L.bB.length with bB:=[]}) (z':={z with dr:=.slice none 0 0}) (Y':=Ls) (O':=ax O w _) ?_ (cs.mono λ_ _ e=>.inl e) rfl rfl rfl ⟨rfl,rfl,rfl⟩ (vY.nil _ _) (dS.fv.ch cs tZ) ⟨dS.ok.m,by simp⟩ (λk r=>by simp[Value.ownBlock]at r) (λj F=> ?_) (λ_=>id) (λj F=> ?_) (ax.lt h.gK (Nat.le_trans PT.size cs.size))
    ·rw[eY,dS.blk,gp];rfl
    ·exact F.imp id λe=>⟨e.1,Nat.lt_of_lt_of_le e.2 cs.size⟩
    ·obtain⟨cB,cb⟩:=dS.xr j F;exact⟨cB.imp id λe=>⟨e.1,Nat.lt_of_lt_of_le e.2 cs.size⟩,cb⟩
end
section
variable{w:World}{d p n:Nat}{L:bR}{O bo:Nat->Prop}{z:oH}{cn:List (Nat×Value)}
def akX:Array Value:=#[.int .i64 0,.pointer none,.map none,.slice none 0 0,.map none,.map none,.bool false,.bool false,.pointer none]
theorem aAA:ln Tryz.prog 138=akX:=by kernel_rfl
theorem aAB:(Tryz.prog.info? 138).map (λi=>i.zero.isSome)=some true:=by kernel_rfl
theorem aAC(a b c d e:Value)(am:a.cells=#[a])(V:b.cells=#[b])(T:c.cells=#[c])(bi:d.cells=#[d])(aV:e.cells=#[e]){w:World}{K:Value->World->Prop}:
  hX Tryz.prog 138 [(0,a),(1,b),(2,c),(4,d),(5,e)] w K=K (.agg #[a,b,c,.slice none 0 0,d,e,.bool false,.bool false,.pointer none]) w:=
 lp Tryz.underlying138 aAB (places:=#[(0,1),(1,1),(2,1),(3,1),(4,1),(5,1),(6,1),(7,1),(8,1)]) (by simp[go_sem]) (by simp[iH,aAA,am,V,T,bi,aV,akX,d'])
theorem at8(n p:Nat)(w:World)(H:1<=n)(I:n<=4096):aP Tryz.prog 54 #[.int .i64 n,.pointer (some ⟨p,0,none⟩)] w λW w'=>∃d,W=.tuple #[.pointer (some ⟨d,0,none⟩),.int .i64 0]/\Ez w' d p n bR.fh (λk=>w.1.size<=k/\k<w'.1.size)/\D ak w w':=by
 refine bn Tryz.func54 Tryz.ntmps54 λaZ Z=> ?_;have aK:¬(n:Int)<1:=by omega
 have aW:¬4096<(n:Int):=by omega
 have C':∀(t:TypeId) (w:World),(Instr.makeMap t none).run Tryz.prog w=.ok (.map (some w.1.size)) (w.alloc (.map #[] 0)):=λ_ _=>rfl;simp[go_sem,aK,aW,C'];have aY:=(((D.refl ak w).alloc (.map #[] 0)).alloc (.map #[] 0)).alloc (.map #[] 0);have y':=(((nz.bI w).ch ((D.refl ak _).alloc (.map #[] 0)) λe=>e).ch ((D.refl ak _).alloc (.map #[] 0)) λe=>e);have gv:=((nz.bI (w.alloc (.map #[] 0))).ch ((D.refl ak _).alloc (.map #[] 0)) λe=>e);have fl:=nz.bI ((w.alloc (.map #[] 0)).alloc (.map #[] 0));have gE:(w.alloc (.map #[] 0)).1.size=w.1.size+1:=by simp
 have jg:((w.alloc (.map #[] 0)).alloc (.map #[] 0)).1.size=w.1.size+1+1:=by simp
 have aw:(((w.alloc (.map #[] 0)).alloc (.map #[] 0)).alloc (.map #[] 0)).1.size=w.1.size+1+1+1:=by simp
 rw[gE]at gv;rw[jg]at fl;revert aY y' gv fl aw;generalize((w.alloc (.map #[] 0)).alloc (.map #[] 0)).alloc (.map #[] 0)=ab;generalize aq:w.1.size=q;intro aY y' gv fl aw;rw[aAC _ _ _ _ _ rfl rfl rfl rfl rfl];simp[go_sem];have fV:=cl ab (.cells (yW n p ⟨q,q+1,q+1+1,.slice none 0 0,.pointer none⟩ bR.fh) 138);have iS:=(D.refl ak ab).alloc (.cells (yW n p ⟨q,q+1,q+1+1,.slice none 0 0,.pointer none⟩ bR.fh) 138);have jg:(ab.alloc (.cells (yW n p ⟨q,q+1,q+1+1,.slice none 0 0,.pointer none⟩ bR.fh) 138)).1.size=q+1+1+1+1:=by simp[aw]
 refine Z _ _ ⟨ab.1.size,rfl,⟨⟨q,q+1,q+1+1,.slice none 0 0,.pointer none⟩,[],λ_=>False,?_⟩,aY.alloc _⟩;refine⟨fV,⟨_,y'.ch iS id,λa=>⟨λ_=>rfl,λb V=>by simp[bR.fh]at V⟩⟩,⟨_,gv.ch iS id,λa=>rfl⟩,⟨_,fl.ch iS id,λa=>rfl⟩,vY.nil _ _,rfl,?_,λ_ e=>e.elim,λ_ e=>e.elim,⟨by simp only;omega,by simp only;omega,by simp only;omega,by simp[Value.ownBlock]⟩,bR.nB.fh n,?_⟩
 ·rintro k (e|e|e|e|e)
  ·rw[e];exact⟨by omega,Nat.lt_of_lt_of_eq (show ab.1.size<q+1+1+1+1 by omega) jg.symm⟩
  ·simp only at e;rw[e];exact⟨by omega,Nat.lt_of_lt_of_eq (show q<q+1+1+1+1 by omega) jg.symm⟩
  ·simp_all
  ·simp only at e;rw[e];exact⟨by omega,Nat.lt_of_lt_of_eq (show q+1+1<q+1+1+1+1 by omega) jg.symm⟩
  ·simp[Value.ownBlock]at e
 ·exact λk e=>e.2
end
end Go.Proofs.YtoohkhcpboldjaaGreatDoor
namespace Go.Kin
open Go Go.RowKit Go.Sort Go.Proofs
section
variable{ct:Type}[Inhabited ct]{enc:ct->List Value}{k:Nat}{w:World}{b:Nat}
theorem D.azb(blk off n:Nat)(d:Array ct)(os:Array Obj):D (aj blk) w (sortWorldK enc k w blk off n d os):=by
 refine⟨rfl,rfl,rfl,?_,λj F av=> ?_⟩
 ·exact size_sortWorldK_c enc k w blk off n d os
 ·show((putRowK enc k (Sort.ahead w n) blk off d).1++os)[j]? =_;have aw:(putRowK enc k (Sort.ahead w n) blk off d).1.size=w.1.size:=size_putRowK _ _ _ _ _ _;rw[Array.getElem?_append_left (by rw[aw];exact F)];show(mapBlock (Sort.ahead w n) blk _).1[j]? =_;have da:¬blk=j:=λe=>av e.symm;simp[mapBlock,Sort.ahead,Array.getElem?_modify,da]
theorem azk{e n cap:Nat}{xs:List Value}(r:0<k)(al:∀x,(enc x).length=k)(d:Array ct)(h:w.ownsRow 0 e k (.slice (some ⟨b,0,none⟩) n cap) n xs)(M:xs=d.toList.flatMap enc)(av:n=d.size):HoldsK enc k w b 0 d:=by
 rcases h.2 with⟨aS,_⟩|⟨l_,UR,di,aS,_,V,H,I,af,aU⟩
 ·cases aS
 ·cases aS
  intro j F;rw[size_flatK]at F;refine⟨?_,dD V _⟩;rw[Nat.zero_add,aG V,get_flatK _ _ _ _ F];have ll:j / k<d.size:=Nat.div_lt_of_lt_mul (by rw[Nat.mul_comm];exact F);have abC:j%k<k:=Nat.mod_lt _ r;have key:∀(l:List ct) (j:Nat),j<l.length*k->(l.flatMap enc)[j]? =(l[j / k]?).bind λx=>(enc x)[j%k]? :=by
   intro l
   induction l with
   |nil=>intro j F;simp at F
   |cons x l bG=>
    intro j F;rw[List.flatMap_cons];by_cases aO:j<k
    ·rw[List.getElem?_append_left (by rw[al];exact aO),Nat.div_eq_of_lt aO,Nat.mod_eq_of_lt aO];rfl
    ·rw[List.getElem?_append_right (by rw[al];omega),al,bG (j - k) (by
      rw[List.length_cons,Nat.add_mul]at F;omega)]
     have aK:j / k=(j - k) / k+1:=by rw[Nat.div_eq_sub_div r (by omega)]
     have aW:j%k=(j - k)%k:=by rw[Nat.mod_eq_sub_mod (by omega)]
     grind
  have bC:=key d.toList j (by simpa using F)
  grind
theorem azm{n cap:Nat}(r:0<k)(al:∀x,(enc x).length=k){d:Array ct}(V:b<w.1.size)(h:HoldsK enc k w b 0 d)(av:n=d.size)(T:n<=cap)(aH:cap<=maxLen):fA w (.slice (some ⟨b,0,none⟩) n cap) enc k d.toList:=by
 subst av;refine⟨_,cap,by simp,by simpa using T,aH,λ_=>⟨b,0,rfl,V,λj a i u F aa=> ?_⟩⟩;have i':j<d.size:=by
  have:=(List.getElem?_eq_some_iff.1 F).1;simpa using this
 have US:i<k:=by
  have:=(List.getElem?_eq_some_iff.1 aa).1;rw[al]at this;exact this
 have aO:j*k+i<d.size*k:=by
  have:(j+1)*k<=d.size*k:=Nat.mul_le_mul_right _ i';rw[Nat.add_mul]at this;omega
 have H:=(h (j*k+i) (by rw[size_flatK];exact aO)).1;rw[get_flatK _ _ _ _ aO]at H;have aK:(j*k+i) / k=j:=by rw[Nat.add_comm,Nat.add_mul_div_right _ _ r,Nat.div_eq_of_lt US,Nat.zero_add]
 have aW:(j*k+i)%k=i:=by rw[Nat.add_comm,Nat.add_mul_mod_self_right,Nat.mod_eq_of_lt US]
 grind
end
end Go.Kin
