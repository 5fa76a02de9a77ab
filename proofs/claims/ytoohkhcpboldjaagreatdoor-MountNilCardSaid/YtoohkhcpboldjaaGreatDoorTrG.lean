/- Trees: groups of leaves, and a part of a slice of leaves. No condition. -/
import Derived.Test.YtoohkhcpboldjaaGreatDoorTrC
import Derived.Test.YtoohkhcpboldjaaGreatDoorSlK
set_option maxRecDepth 100000
set_option maxHeartbeats 8000000
set_option linter.unusedSimpArgs false
set_option linter.unusedVariables false
namespace Go.Proofs.YtoohkhcpboldjaaGreatDoor
open Go.RowKit Go.Kin
def qA(x:Nat×Pt):List Value:=.int .u32 x.1::(Y x.2).toList
def et(x:Nat×Pt):Array Value:=(qA x).toArray
structure mF(x:Nat×Pt):Prop where
 o:x.1<4294967296
 p:bN x.2
theorem ann{x:Nat×Pt}(ok:mF x):(qA x).length=42:=by simp[qA,bW ok.p]
theorem mC{x:Nat×Pt}(ok:mF x):(et x).size=42:=by simp[et,ann ok]
theorem Ni{x:Nat×Pt}(ok:mF x):(et x).extract 0 42=et x:=by rw[<-mC ok];simp
theorem Vo(x:Nat×Pt):(et x)[0]? =some (.int .u32 x.1):=by simp[et,qA]
theorem Sl{x:Nat×Pt}(ok:mF x):(et x).extract 1 42=Y x.2:=by
 apply Array.ext';rw[Array.toList_extract,List.extract_eq_take_drop];have h:=bW ok.p;simp only[et,qA,List.drop_succ_cons,List.drop_zero];rw[List.take_of_length_le (by simp[h])]
theorem ac5{w:World}{v:Value}{ae:List (Nat×Pt)}(h:fA w v qA 42 ae)(hR:∀a∈ae,mF a){i:Nat}{a:Nat×Pt}(aa:ae[i]? =some a):∃b off c cs bl fr,v=.slice (some ⟨b,off,none⟩) ae.length c/\w.1[b]? =some (.cells cs bl fr)/\cs.extract (off+i*42) (off+i*42+42)=et a/\off+i*42+42<=cs.size:=by
 obtain⟨ag,c,rfl,_,_,af⟩:=h;have aO:=(List.getElem?_eq_some_iff.1 aa).1;obtain⟨b,off,rfl,_,ap⟩:=af (by omega);have ok:=hR a (List.mem_of_getElem? aa);have al:=ann ok;obtain⟨o,aB,OH⟩:=cells_of_cell (ap i a 0 _ aa rfl);have aB:w.1[b]? =some o:=aB;obtain⟨cs,bl,fr,rfl⟩:∃cs bl fr,o=.cells cs bl fr:=by
  cases o with
  |cells cs bl fr=>exact⟨_,_,_,rfl⟩
  |_=>cases OH
 have T:∀j,j<42->cs[off+i*42+j]? =(qA a)[j]? :=λj F=>by
  obtain⟨u,an⟩:∃u,(qA a)[j]? =some u:=⟨_,List.getElem?_eq_getElem (by omega)⟩;rw[an,<-ap i a j u aa an,aG aB]
 have cL:off+i*42+42<=cs.size:=by
  have wQ:=T 41 (by omega);rw[List.getElem?_eq_getElem (show 41<(qA a).length by omega)]at wQ;have:=(Array.getElem?_eq_some_iff.1 wQ).1;omega
 refine⟨b,off,c,cs,bl,fr,rfl,aB,?_,cL⟩;apply Array.ext_getElem?;intro j;rw[Array.getElem?_extract];by_cases F:j<42
 ·rw[if_pos (by omega),T j F];simp[et]
 ·rw[if_neg (by omega),Array.getElem?_eq_none (by rw[mC ok];omega)]
@[simp] theorem SF(x:Nat×Pt):jT (et x)=true:=yC (by
 intro u an;simp only[qA,List.mem_cons]at an;rcases an with rfl|an
 ·rfl
 ·have:=sN x.2;unfold jT at this;exact Array.all_eq_true'.1 this u (by simpa using an))
theorem aEt(x:Nat×Pt)(h:0<(et x).size):(et x)[0]'h=.int .u32 x.1:=by simp[et,qA]
theorem Hf:(Tryz.prog.info? 229).map (λi=>i.zero.isSome)=some true:=by kernel_rfl
theorem Hg:ln Tryz.prog 229=et (0,ad):=by kernel_rfl
theorem ER:mF (0,ad):=⟨by decide,cE⟩
def qY{ay:Type}(bM:ay->Pt->ay)(t:ay×List Pt)(x:Nat×Pt):ay×List Pt:=
 (if t.2.getD (x.1%8) ad≠x.2/\t.2.getD (x.1%8) ad≠ad then bM t.1 (t.2.getD (x.1%8) ad)else t.1,t.2.set (x.1%8) x.2)
def nR{ay:Type}(rd:Src ay)(nw:ay->Pt->List UInt8->ay×Pt×Int)(bM:ay->Pt->ay)(obj:Nat)(s:ay)(p:Pt)(off:Nat)(l:List (Nat×Pt)):ay×Pt×Int:=
 if(cv rd s p).2.2≠0 then((cv rd s p).1,ad,(cv rd s p).2.2)else
  qZ nw bM (l.foldl (qY bM) ((cv rd s p).1,(cv rd s p).2.1)).1 p (cv rd s p).2.1 (l.foldl (qY bM) ((cv rd s p).1,(cv rd s p).2.1)).2 1 obj off
theorem aiT(w:World)(ag B C:Obj):∃N,((w.alloc ag).alloc B).alloc C=N/\N.1[w.1.size]? =some ag/\N.1[w.1.size+1]? =some B/\N.1[w.1.size+2]? =some C/\N.1.size=w.1.size+3/\D ak w N:=by
 refine⟨_,rfl,?_,?_,?_,by simp,(((D.refl ak w).alloc _).alloc _).alloc _⟩
 ·rw[pY _ _ _ (by simp<;>omega),pY _ _ _ (by simp<;>omega),cl]
 ·simp_all
 ·simp
section
variable{ay:Type}{bc:ay->h_}{m:ay->Nat}{rd:Src ay}{nw:ay->Pt->List UInt8->ay×Pt×Int}{bM:ay->Pt->ay}{dB:TypeId}{ca sv:Value}{s:ay}{w w':World}{O:Nat->Prop}
theorem aEu(aw:vb bc m rd nw bM sv)(t:ay×List Pt)(x:Nat×Pt):m t.1<=m (qY bM t x).1+16:=by
 have H:=aw.Sj t.1 (t.2.getD (x.1%8) ad);unfold qY;split<;>simp only<;>omega
theorem adg(aw:vb bc m rd nw bM sv):∀(ae:List (Nat×Pt)) (t:ay×List Pt),m t.1<=m (ae.foldl (qY bM) t).1+16*ae.length
 |[],t=>by simp
 |x::ae,t=>by
  have H:=aEu aw t x;have I:=adg aw ae (qY bM t x)
  grind
theorem ac3(aw:vb bc m rd nw bM sv)(s:ay)(p:Pt)(obj off:Nat)(ae:List (Nat×Pt)):m s<=m (nR rd nw bM obj s p off ae).1+16*(ae.length+3):=by
 have H:=AK aw.rd s p;have I:=adg aw ae ((cv rd s p).1,(cv rd s p).2.1);have af:=am3 aw (ae.foldl (qY bM) ((cv rd s p).1,(cv rd s p).2.1)).1 p (cv rd s p).2.1 (ae.foldl (qY bM) ((cv rd s p).1,(cv rd s p).2.1)).2 1 obj off;unfold nR
 grind
theorem anl(aw:vb bc m rd nw bM (.iface dB ca))(aN:∀s,kk (bc s))(h:bc s w O)(p:Pt)(ok:bN p)(obj off:Nat)(v:Value)(ae:List (Nat×Pt))(aH:16*(ae.length+3)<=m s)(bT:fA w v qA 42 ae)(Gm:∀a∈ae,mF a)(hS:∀j,v.ownBlock=some j->¬O j/\j<w.1.size)(ck:hj w)(aF:ik bc O)(vn:obj<65536)(acZ:off<4294967296):
  aP Tryz.prog 212 #[.agg #[.iface dB ca,.int .u16 obj],.agg (Y p),.int .u32 off,v] w λW w'=>W=.tuple #[.agg (Y (nR rd nw bM obj s p off ae).2.1),.int .i64 (nR rd nw bM obj s p off ae).2.2]/\bN (nR rd nw bM obj s p off ae).2.1/\bc (nR rd nw bM obj s p off ae).1 w' (ax O w w')/\D O w w':=by
 refine bn Tryz.func212 Tryz.ntmps212 λaZ Z=> ?_;have cU:=bW ok;have cT:=dW ok;have dN:=bW cE;have iz:=dW cE;have gc:=(aN s).lt h;have eO:∀j,w.1.size<=j->¬O j:=λj F e=>by have:=gc j e;omega
 obtain⟨W1,Ho,bj,ba,cC,gd,aY⟩:=aiT w (.cells #[.iface dB ca,.int .u16 obj] 362) (.cells (Y p) 44) (.cells (Y ad) 44);have FJ:W1.cell? ⟨w.1.size,0,none⟩=some (.iface dB ca):=aG bj 0;simp[go_sem,cU,cT,gm,gn];rw[Ho];have eJ:=ck.ch aY λ_ _ e=>e;have H:=(aN s).ch h aY λ_ _ e=>e;obtain⟨g,mG⟩:=az (w.1.size);rw[mG]at bj ba cC gd eO FJ⊢;have eG:∀k,O k->k<W1.1.size:=λk r=>by have:=gc k r;omega
 have bL:∀{N:World} {x:ay×Pt×Int},nR rd nw bM obj s p off ae=x->bN x.2.1->bc x.1 N (ax O W1 N)->D O W1 N->aZ (.tuple #[.agg (Y x.2.1),.int .i64 x.2.2]) (N.setRow (g+2) (Y x.2.1)):=λ{N x} e dh a c=>by
  subst e;have EZ:=c.size;have dg:D (aj (g+2)) N (N.setRow (g+2) (Y (nR rd nw bM obj s p off ae).2.1)):=(D.refl (aj (g+2)) N).setRow (.inl rfl) _;have AM:=dg.size;refine Z _ _ ⟨rfl,dh,(aN _).ex ((aN _).ch a dg λk r e=>by simp only[aj]at e;subst e;exact r.elim (eO _ (by omega)) λe=>by omega) (λk r=>r.imp id λe=>⟨by omega,by omega⟩) (ax.lt gc (by omega)),?_⟩;exact((aY.mono λ_ _ e=>e.elim).trans c).bJ dg λk r e=>by simp only[aj]at e;omega
 clear Z;have sb:=AK aw.rd s p;refine(RH aw.rd (by omega) aN H p ok eJ aF).mono ?_;rintro _ ai ⟨rfl,I,aA⟩;have ez:=Ex rd s p;have bd:nR rd nw bM obj s p off ae=if(cv rd s p).2.2≠0 then((cv rd s p).1,ad,(cv rd s p).2.2)else
  qZ nw bM (ae.foldl (qY bM) ((cv rd s p).1,(cv rd s p).2.1)).1 p (cv rd s p).2.1 (ae.foldl (qY bM) ((cv rd s p).1,(cv rd s p).2.1)).2 1 obj off:=rfl
 obtain⟨⟨cw,uI,aW⟩,aEv⟩:∃bl,cv rd s p=bl:=⟨_,rfl⟩;rw[aEv]at ez I bd sb⊢;simp only at ez I bd sb⊢;have kG:=kh ez;have mW:=qp ez;have jg:=aA.size;have jd:=aA.obj bj (eO _ (by omega));have i_:=aA.obj ba (eO _ (by omega));have Bv:=aA.obj cC (eO _ (by omega));have mX:=aF.ck eJ aA ⟨_,I⟩ λ_ _ e=>e;have aE:=(D.refl ak ai).alloc (.cells (bZ uI) 339);have cm:=cl ai (.cells (bZ uI) 339);have gL:(ai.alloc (.cells (bZ uI) 339)).1.size=ai.1.size+1:=by simp
 simp[go_sem,rW,rX,kG,mW,kh pL,bQ];obtain⟨LJ,UA⟩:=az (ai.1.size);rw[UA]at cm gL⊢;generalize ai.alloc (.cells (bZ uI) 339)=aC at*;have si:=aE.obj jd id;have iL:=aE.obj i_ id;have wh:=aE.obj Bv id;have ka:=mX.ch aE λ_ _ e=>e;have KZ:=aE.size;have af:bc cw aC (ax O W1 aC):=(aN _).ex ((aN _).ch I aE λ_ _ e=>e) (λk r=>r.imp id λe=>⟨e.1,by omega⟩) (ax.lt eG (by omega));have iU:D O W1 aC:=aA.trans (aE.mono λ_ _ e=>e.elim);obtain⟨aDP,aDQ,aDR,ac0,qD,AV⟩:=id ka.mx;by_cases aV:aW=0
 ·rw[if_neg (by omega)]at bd;subst aV;have bv:=(D.refl ak aC).alloc (.cells (bZ uI) 339);have ci:=cl aC (.cells (bZ uI) 339);have hv:(aC.alloc (.cells (bZ uI) 339)).1.size=aC.1.size+1:=by simp
  have cI:=bT.len Tryz.underlying223 3;simp[go_sem,cm,kG,mW,rW,rX,kh pL,bQ,cI];obtain⟨eu,nb⟩:=az (aC.1.size);rw[nb]at ci hv⊢;generalize aC.alloc (.cells (bZ uI) 339)=be at*;have aU:bc cw be (ax O W1 ai):=(aN _).ch ((aN _).ch I aE λ_ _ e=>e) bv λ_ _ e=>e;have ux:=ka.ch bv λ_ _ e=>e;have QE:∀j,v.ownBlock=some j->¬ax O W1 ai j:=λj F e=>e.elim (hS j F).1 λe=>by have:=(hS j F).2;omega
  have LL:ik bc (ax O W1 ai):=aF.cq eJ;have AZ:∀k,ax O W1 ai k->k<be.1.size:=λk r=>r.elim (λe=>by have:=eG k e;omega) λe=>by omega
  obtain⟨sM,Bl⟩:=az (ax O W1 ai);rw[Bl]at aU QE LL AZ;refine du (λJ f u=>∃k,J=ae.length - k/\k<=ae.length/\f 2=.int .u32 off/\f 4=.pointer (some ⟨g,0,none⟩)/\f 5=.pointer (some ⟨g+1,0,none⟩)/\f 8=.pointer (some ⟨g+2,0,none⟩)/\f 10=.pointer (some ⟨LJ,0,none⟩)/\f 12=.pointer (some ⟨eu,0,none⟩)/\f 29=v/\f 30=.int .i64 ae.length/\f 31=.int .i64 k
    /\hE ((ae.take k).foldl (qY bM) (cw,uI)).2/\u.1[eu]? =some (.cells (bZ ((ae.take k).foldl (qY bM) (cw,uI)).2) 339 (0,0))/\bc ((ae.take k).foldl (qY bM) (cw,uI)).1 u (ax sM be u)/\D (λk=>sM k\/k=eu) be u) ae.length
   ⟨0,rfl,Nat.zero_le _,by simp,by simp,by simp,by simp,by simp,by simp,by simp,by simp,by simp,ez,ci,(aN _).ex aU (λk r=>.inl r) (ax.lt AZ (Nat.le_refl _)),D.refl _ _⟩ ?_
  rintro cJ bK _ f u ⟨k,rfl,r,bh,cr,cN,bz,eE,dA,f29,DA,FG,nW,qR,an,aJ⟩;obtain⟨⟨LO,ni⟩,Lr⟩:∃bl,(ae.take k).foldl (qY bM) (cw,uI)=bl:=⟨_,rfl⟩;have sY:=adg aw (ae.take k) (cw,uI);rw[Lr]at nW qR an sY;simp only at nW qR an sY;have aJ2:32+16*(ae.length - k)<=m LO:=by
   rw[List.length_take,Nat.min_eq_left r]at sY;omega
  have oG:=kh nW;have LM:=qp nW;have A':=aJ.size;have LK:¬sM eu:=λe=>by rw[<-Bl]at e;exact e.elim (eO _ (by omega)) λe=>by omega
  have oi:∀j,g<=j->j<g+3->¬sM j:=λj H I e=>by rw[<-Bl]at e;exact e.elim (eO _ H) λe=>by omega
  have ac7:¬sM LJ:=λe=>by rw[<-Bl]at e;exact e.elim (eO _ (by omega)) λe=>by omega
  have wr:=aJ.obj (bv.obj si id) λe=>e.elim (oi _ (by omega) (by omega)) λe=>by omega
  have wj:=aJ.obj (bv.obj iL id) λe=>e.elim (oi _ (by omega) (by omega)) λe=>by omega
  have aEw:=aJ.obj (bv.obj wh id) λe=>e.elim (oi _ (by omega) (by omega)) λe=>by omega
  have aEx:=aJ.obj (bv.obj cm id) λe=>e.elim ac7 λe=>by omega
  have mH:=LL.ck ux aJ ⟨_,an⟩ λk r e=>e.elim id λe=>by
   have hl:=ka.lt k r;have e:k=eu:=e;rw[e,nb]at hl;exact(Nat.lt_irrefl _ hl).elim
  have qc:ik bc (ax sM be u):=LL.cq ux;have ano:D O W1 u:=(iU.trans (bv.mono λ_ _ e=>e.elim)).bJ aJ λk r e=>by
   rw[<-Bl]at e;rcases e with(e|e)|e
   ·exact e
   ·omega
   ·omega
  by_cases aO:k<ae.length
  ·have sP:(k:Int)<ae.length:=by omega
   have eo:IntKind.i64.wrap ((k:Int)+1)=((k+1:Nat):Int):=by
    obtain⟨ag,c,_,H,I,_⟩:=bT;unfold maxLen at I;rw[IntKind.wrap_i64];omega
   obtain⟨x,M⟩:∃x,ae[k]? =some x:=⟨_,List.getElem?_eq_getElem aO⟩;have dh:=Gm x (List.mem_of_getElem? M);obtain⟨b,nF,c,cs,bl,fr,Gn,ac4,nL,gu⟩:=ac5 bT Gm M;have aEy:¬O b/\b<g:=⟨(hS b (by rw[Gn];rfl)).1,by have:=(hS b (by rw[Gn];rfl)).2;omega⟩;have yi:=ano.obj (aY.obj ac4 id) aEy.1;have eU:=mC dh;have gs:=Ni dh;have mD:=Sl dh;have iT:=Vo x;have LN:((x.1:Int)).tmod 8=((x.1%8:Nat):Int):=by rw[Int.tmod_eq_emod_of_nonneg (by omega)];omega
   obtain⟨jL,pT⟩:=az (x.1%8);rw[pT]at LN;have IM:jL<8:=by omega
   have LI:(jL:Int)<8:=by omega
   have QA:jL*41+41<=328:=by omega
   have aEz:IntKind.u32.wrap (jL:Int)=jL:=by simp[IntKind.wrap,IntKind.bits,IntKind.signed];omega
   have aEA:IntKind.i64.wrap (jL:Int)=jL:=by rw[IntKind.wrap_i64];omega
   obtain⟨gz,nN⟩:∃q,ni[jL]? =some q:=⟨_,List.getElem?_eq_getElem (by rw[nW.len];exact IM)⟩;have Gq:=nW.all _ (List.mem_of_getElem? nN);have Dq:=bW Gq;have Ob:=dW Gq;have nJ:=Wy nW nN;have xD:ni.getD jL ad=gz:=by rw[List.getD_eq_getElem?_getD,nN];rfl
   have el:(ae.take (k+1)).foldl (qY bM) (cw,uI)=(if gz≠x.2/\gz≠ad then bM LO gz else LO,ni.set jL x.2):=by
    rw[List.take_add_one,M];simp only[Option.toList_some,List.foldl_append,List.foldl_cons,List.foldl_nil,Lr];unfold qY;simp only[pT,xD]
   subst Gn;simp[go_sem,f29,DA,FG,sP,aO,yi,nL,gu,Hf,Hg,eU,gs,mC ER,bQ,aEt,LN,aEz,aEA,pT];have bx:=(D.refl ak u).alloc (.cells (et x) 229);have dj:=cl u (.cells (et x) 229);have j_:(u.alloc (.cells (et x) 229)).1.size=u.1.size+1:=by simp
   obtain⟨vg,zv⟩:=az (u.1.size);rw[zv]at dj j_⊢;have VJ:=bx.obj qR id;have CY:=bx.obj wr id;have bC:=(aN _).ch an bx λ_ _ e=>e;have pu:=mH.ch bx λ_ _ e=>e;generalize u.alloc (.cells (et x) 229)=bw at*;have co:=(D.refl ak bw).alloc (.cells (Y gz) 44);have gx:=cl bw (.cells (Y gz) 44);have wi:=co.obj dj id;have adh:=co.obj VJ id;have Bx:=co.obj CY id;have wV:=pu.ch co λ_ _ e=>e;have cG:=(aN _).ch bC co λ_ _ e=>e;have oh:(bw.alloc (.cells (Y gz) 44)).1.size=bw.1.size+1:=by simp
   obtain⟨am_,am',ana,QB,Lf,VB⟩:=id wV.mx;have VK:∀aO,(bw.alloc (.cells (Y gz) 44)).1[2]'aO=.cells am_ am' ana:=λaO=>by
    have:=QB;rw[Array.getElem?_eq_getElem aO]at this;exact Option.some.inj this
   obtain⟨anc,ane,anf,HI,IN,LH⟩:=id pu.mx;have qb:∀w,(Op.equalIn 10000 44 (.agg (Y gz)) (.agg (Y x.2))).run Tryz.prog w=.ok (decide (gz=x.2)) w:=λw=>sO w Gq dh.p;have Qv:∀w,(Op.equalIn 10000 44 (.agg (Y gz)) (.agg (Y ad))).run Tryz.prog w=.ok (decide (gz=ad)) w:=λw=>sO w Gq cE;have Jy:(bw.alloc (.cells (Y gz) 44)).cell? ⟨g,0,none⟩=some (.iface dB ca):=aG Bx 0;have oD:∀k,ax sM be u k->k<(bw.alloc (.cells (Y gz) 44)).1.size:=λk r=>(aN _).lt cG k r;have zz:∀k,ax sM be u k->k<u.1.size:=λk r=>(aN _).lt an k r;have Gp:=bx.trans co;have anp:=Gp.size;have aif:=bx.size;have anq:=co.size;obtain⟨hn,yf⟩:=az ((if gz≠x.2/\gz≠ad then bM LO gz else LO));rw[yf]at el;have MU:(gz≠x.2/\gz≠ad)\/(gz=x.2)\/(gz≠x.2/\gz=ad):=by
    by_cases H:gz=x.2
    ·exact .inr (.inl H)
    ·by_cases I:gz=ad
     ·exact .inr (.inr ⟨H,I⟩)
     ·exact .inl ⟨H,I⟩
   rcases MU with T|T|T
   case' inl=>
    rw[if_pos T]at yf;simp[go_sem,dA,VJ,IM,LI,QA,oG,nJ,gm,gn,Dq,Ob,dN,bQ,wi,eU,mD,gs,qb,Qv,T.1,T.2,gx,QB,VK,Lf,VB,Jy,cr];clear VK;generalize bw.alloc (.cells (Y gz) 44)=cd at*;refine aw.bM LO cd (ax sM be u) gz _ (by omega) cG Gq wV qc λW cF eD dz=> ?_;rw[yf]at eD
   case' inr.inl=>
    rw[if_neg (λe=>e.1 T)]at yf;subst T;simp[go_sem,dA,VJ,IM,LI,QA,oG,nJ,gm,gn,Dq,Ob,dN,bQ,wi,eU,mD,gs,qb];obtain⟨cd,pr⟩:=az ((bw.alloc (.cells (Y x.2) 44)));rw[pr]at cG oD oh anq Gp anp wi adh Bx;obtain⟨cF,QJ,dz⟩:∃cF,cd=cF/\D (ax sM be u) cd cF:=⟨cd,rfl,D.refl _ _⟩;have uf:=pr.trans QJ;have eD:bc hn cF (ax (ax sM be u) cd cF):=by rw[<-yf,<-QJ];exact(aN _).ex cG (λk r=>.inl r) (ax.lt oD (Nat.le_refl _))
    rw[uf]
   case' inr.inr=>
    rw[if_neg (λe=>e.2 T.2)]at yf;obtain⟨fY,ki⟩:=T;subst ki;simp[go_sem,dA,VJ,IM,LI,QA,oG,nJ,gm,gn,Dq,Ob,dN,bQ,wi,eU,mD,gs,qb,Qv,fY,gx,QB,VK,Lf,VB];clear VK;obtain⟨cd,pr⟩:=az ((bw.alloc (.cells (Y ad) 44)));rw[pr]at cG oD oh anq Gp anp wi adh Bx;obtain⟨cF,QJ,dz⟩:∃cF,cd=cF/\D (ax sM be u) cd cF:=⟨cd,rfl,D.refl _ _⟩;have uf:=pr.trans QJ;have eD:bc hn cF (ax (ax sM be u) cd cF):=by rw[<-yf,<-QJ];exact(aN _).ex cG (λk r=>.inl r) (ax.lt oD (Nat.le_refl _))
    rw[uf]
   all_goals
    have Ti:=dz.size;have aEB:¬ax sM be u vg:=λe=>by have:=zz _ e;omega
    have anr:¬ax sM be u eu:=λe=>e.elim LK λe=>by omega
    have aEC:=dz.obj wi aEB;have VI:=dz.obj adh anr;simp[go_sem,dA,VI,oG,LM,aEC,eU,mD];refine(WA ni jL x.2 cF nW dh.p).mono ?_;rintro _ eA ⟨rfl,ev⟩;have Gs:=ev.obj VI id;rw[if_pos ⟨by omega,LI⟩];have adi:hE (ni.set jL x.2):=nW.set _ dh.p;have aED:=kh adi;have aJ3:=qp adi;have Nn:=ev.size;simp[go_sem,dA,Gs,oG,aED,bQ,FG,eo];have dX:D (aj eu) eA (eA.setRow eu (bZ (ni.set jL x.2))):=(D.refl (aj eu) eA).setRow (.inl rfl) _;have qE:=dX.size;have aJ4:eu<be.1.size:=by omega
    have hl:bc hn (eA.setRow eu (bZ (ni.set jL x.2))) (ax sM be (eA.setRow eu (bZ (ni.set jL x.2)))):=(aN _).ex ((aN _).ch ((aN _).ch eD ev λ_ _ e=>e) dX λk r e=>by
     simp only[aj]at e;subst e;exact r.elim anr λe=>by omega) (λk r=>by
      rcases r with(r|r)|r
      ·exact .inl r
      ·exact .inr ⟨r.1,by omega⟩
      ·exact .inr ⟨by omega,by omega⟩) (ax.lt AZ (by omega))
    have yl:D (λk=>sM k\/k=eu) be (eA.setRow eu (bZ (ni.set jL x.2))):=(((aJ.trans (Gp.mono λ_ _ e=>e.elim)).bJ dz λk r e=>.inl (e.resolve_right (by omega))).trans (ev.mono λ_ _ e=>e.elim)).trans (dX.mono λk _ e=>by simp only[aj]at e;exact .inr e);exact cH.intro (ae.length -(k+1)) (by omega) (bK _ _ _ ⟨k+1,rfl,by omega,by simp[bh],by simp[cr],by simp[cN],by simp[bz],by simp[eE],by simp[dA],by simp[f29],by simp[DA],by simp,by rw[el];exact adi,by rw[el,gk,Gs];rfl,by rw[el];exact hl,yl⟩)
  ·obtain rfl:k=ae.length:=by omega
   rw[List.take_length]at Lr;rw[Lr]at bd;have IQ:u.cell? ⟨g,0,none⟩=some (.iface dB ca):=aG wr 0;have vx:u.cell? ⟨g,1,none⟩=some (.int .u16 obj):=aG wr 1;simp[go_sem,bh,cr,cN,bz,eE,dA,f29,DA,FG,wj,cU,cT,aEx,kG,mW,qR,oG,LM,IQ,vx];refine(am4 aw (by omega) aN an p ok uI ni ez nW 1 obj off mH qc (by decide) vn acZ).mono ?_;rintro _ dC ⟨rfl,DZ,hl,dX⟩;simp only at bd;rw[<-bd]at hl DZ⊢;have ag_:=bW DZ;have qE:=dX.size;have To:=dX.obj aEw λe=>e.elim (oi _ (by omega) (by omega)) λe=>by omega
   simp[go_sem,bz,To,dN,ag_,dW DZ,bQ];refine bL rfl DZ ((aN _).ex hl (λk r=> ?_) (ax.lt eG (by omega))) (ano.bJ dX λk r e=> ?_)
   ·rcases r with(r|r)|r
    ·rw[<-Bl]at r;exact r.imp id λe=>⟨e.1,by omega⟩
    ·exact .inr ⟨by omega,by omega⟩
    ·exact .inr ⟨by omega,by omega⟩
   ·rcases e with e|e
    ·rw[<-Bl]at e;exact e.elim id λe=>by omega
    ·omega
 ·rw[if_pos aV]at bd;have mY:(aW==0)=false:=beq_false_of_ne aV;simp[go_sem,aV,mY,bne,ac0,qD,AV,wh,dN,iz,bQ];exact bL (x:=(cw,ad,aW)) bd cE af iU
end
theorem aD2(p:Pt)(w:World)(ok:bN p)(ck:hj w):aP Tryz.prog 211 #[.agg (Y p)] w λW w'=>W=.bool (fy p)/\D ak w w':=by
 refine bn Tryz.func211 Tryz.ntmps211 λaZ Z=> ?_;have cU:=bW ok;have cT:=dW ok;have aY:=(D.refl ak w).alloc (.cells (Y p) 44);have bj:=cl w (.cells (Y p) 44);have eJ:=ck.ch aY λ_ _ e=>e;obtain⟨cs,bl,fr,aD,M,hz⟩:=eJ.mx;have tW:∀aO,(w.alloc (.cells (Y p) 44)).1[2]'aO=.cells cs bl fr:=λaO=>by
  grind
 have gI:∀w,(Op.equalIn 10000 44 (.agg (Y p)) (.agg (Y ad))).run Tryz.prog w=.ok (decide (p=ad)) w:=λw=>sO w ok cE;by_cases ah:p=ad
 ·subst ah;simp[go_sem,bj,cU,cT,aD,tW,M,hz,gI];exact Z _ _ ⟨by simp[fy],aY⟩
 ·simp[go_sem,bj,cU,cT,aD,tW,M,hz,gI,ah];clear tW aD;obtain⟨g,aF⟩:=az (w.1.size);rw[aF]at bj⊢;revert aY bj eJ;generalize w.alloc (.cells (Y p) 44)=ab;intro aY eJ bj;refine(AB p ab ok eJ.qt).mono ?_;rintro _ ai ⟨rfl,aA⟩;simp[go_sem];exact Z _ _ ⟨by simp[fy,ah],aY.trans aA⟩
def tF:Option Nat->List (Nat×Pt)->Bool
 |_,[]=>true
 |b,x::l=>decide (x.1<64)&&(match b with|none=>true|some y=>decide (y<x.1))&&fy x.2&&tF (some x.1) l
def jB(g:Nat)(l:List (Nat×Pt)):List (Nat×Pt):=l.takeWhile λx=>x.1 / 8==g
def o_{ay:Type}(rd:Src ay)(nw:ay->Pt->List UInt8->ay×Pt×Int)(bM:ay->Pt->ay)(obj:Nat):Nat->ay->List Pt->List (Nat×Pt)->ay×List Pt×Int
 |0,s,n,_=>(s,n,0)
 |_+1,s,n,[]=>(s,n,0)
 |iF+1,s,n,x::l=>
  let J:=nR rd nw bM obj s (n.getD (x.1 / 8) ad) (x.1 / 8) (jB (x.1 / 8) (x::l))
  if J.2.2≠0 then(J.1,n,J.2.2)else o_ rd nw bM obj iF J.1 (n.set (x.1 / 8) J.2.1) ((x::l).drop (jB (x.1 / 8) (x::l)).length)
def pq{ay:Type}(rd:Src ay)(nw:ay->Pt->List UInt8->ay×Pt×Int)(bM:ay->Pt->ay)(obj:Nat)(s:ay)(bu:Pt)(l:List (Nat×Pt)):ay×Pt×Int:=
 if tF none l&&r' bu then
  if l=[]then(s,bu,0)else
  if(cv rd s bu).2.2≠0 then((cv rd s bu).1,ad,(cv rd s bu).2.2)else
  let J:=o_ rd nw bM obj l.length (cv rd s bu).1 (cv rd s bu).2.1 l
  if J.2.2≠0 then(J.1,ad,J.2.2)else qZ nw bM J.1 bu (cv rd s bu).2.1 J.2.1 2 obj 0
 else(s,ad,1)
theorem alW(b:Option Nat)(y:Nat×Pt)(l:List (Nat×Pt)):tF b (y::l)=(decide (y.1<64)&&(match b with|none=>true|some z=>decide (z<y.1))&&fy y.2&&tF (some y.1) l):=rfl
theorem aD':∀(l:List (Nat×Pt)) (b:Option Nat),tF b l=true->∀x∈l,x.1<64:=by
 intro l
 induction l with
 |nil=>intro b _ x M;cases M
 |cons y l bG=>
  intro b h x M;rw[alW]at h
  grind
theorem fA.part{ct:Type}{w:World}{b off c:Nat}{g':ct->List Value}{k:Nat}{l:List ct}(h:fA w (.slice (some ⟨b,off,none⟩) l.length c) g' k l)(a z:Nat)(am:a<=z)(hz:z<=l.length):fA w (.slice (some ⟨b,off+a*k,none⟩) (z - a) (z - a)) g' k ((l.take z).drop a):=by
 obtain⟨ag,dg,e,H,I,af⟩:=h;injection e with aK _ dt;subst aK dt;have cI:((l.take z).drop a).length=z - a:=by simp;omega
 refine⟨_,_,by rw[cI],by omega,by omega,λbf=> ?_⟩
 grind
theorem aEe(gG:Nat)(ae:List (Nat×Pt))(i j:Nat)(hF:i<=j)(F:j<=ae.length)(fq:∀m y,i<=m->m<j->ae[m]? =some y->y.1 / 8=gG)(aEE:j=ae.length\/∃y,ae[j]? =some y/\y.1 / 8≠gG):jB gG (ae.drop i)=(ae.take j).drop i:=by
 have e:ae.drop i=(ae.take j).drop i++ae.drop j:=by
  conv=>lhs;rw[<-List.take_append_drop j ae]
  grind
 have I:(ae.drop j).takeWhile (λx=>x.1 / 8==gG)=[]:=by
  rcases aEE with rfl|⟨y,ar,VE⟩
  ·simp
  ·have aO:=(List.getElem?_eq_some_iff.1 ar).1;rw[List.drop_eq_getElem_cons aO,(List.getElem?_eq_some_iff.1 ar).2,List.takeWhile_cons];simp[VE]
 unfold jB;rw[e,List.takeWhile_append_of_pos,I,List.append_nil];intro a am;obtain⟨m,aH⟩:=List.mem_iff_getElem?.1 am
 grind
theorem Nw:Bg Tryz.prog 223 229 (.agg (et (0,ad))) 42 64:=⟨Tryz.underlying223,by kernel_rfl,mC ER,by decide⟩
theorem aEc(b nF n c i j:Nat)(hF:i<j)(aEF:j<=c)(w:World):(Instr.sliceAt 223 (.slice (some ⟨b,nF,none⟩) n c) (some (.int .i64 i)) (some (.int .i64 j)) (some (.int .i64 j))).run Tryz.prog w=.ok (.slice (some ⟨b,nF+i*42,none⟩) (j - i) (j - i)) w:=by
 obtain⟨aoF,Wv,_,cL,_⟩:=info_parts Nw.vR;have H:¬c=i:=by omega
 have I:¬c<j:=by omega
 have af:¬j<i:=by omega
 simp[Instr.sliceAt,Instr.slice,Instr.sliceBounds,Instr.sliceBound,asIntOf,run_underlying Nw.nx,sizeOf,typeInfo,Wv,cL,Nat.le_of_lt hF,aEF,H,I,af,Addr.add]
 grind
end Go.Proofs.YtoohkhcpboldjaaGreatDoor
