/- Trees: all leaves and nodes, of any source. Conditions: the variables ptr.wide and tree.hole hold what the text lays. -/
import Derived.Test.YtoohkhcpboldjaaGreatDoorTrF
set_option maxRecDepth 100000
set_option maxHeartbeats 4000000
set_option linter.unusedSimpArgs false
set_option linter.unusedVariables false
namespace Go.Proofs.YtoohkhcpboldjaaGreatDoor
open Go.RowKit Go.Kin
def wY(i:Nat)(n:List Pt)(k:Nat):List (Nat×Pt):=(List.range k).filterMap λk=>if n.getD k ad=ad then none else some (8*i+k,n.getD k ad)
def qS(i:Nat)(n:List Pt):List (Nat×Pt):=(List.range 8).filterMap λk=>if n.getD k ad=ad then none else some (8*i+k,n.getD k ad)
theorem ans(i:Nat)(n:List Pt)(k:Nat):wY i n (k+1)=wY i n k++if n.getD k ad=ad then[]else[(8*i+k,n.getD k ad)]:=by
 unfold wY;rw[List.range_succ,List.filterMap_append]
 grind
def kw{ay:Type}(rd:Src ay)(top:List Pt):List Nat->ay->List (Nat×Pt)->List Pt->ay×List (Nat×Pt)×List Pt×Int
 |[],s,df,ce=>(s,df,ce,0)
 |i::ae,s,df,ce=>if top.getD i ad=ad then kw rd top ae s df ce else
   if(cv rd s (top.getD i ad)).2.2≠0 then((cv rd s (top.getD i ad)).1,df,ce++[top.getD i ad],(cv rd s (top.getD i ad)).2.2)
   else kw rd top ae (cv rd s (top.getD i ad)).1 (df++qS i (cv rd s (top.getD i ad)).2.1) (ce++[top.getD i ad])
def jP{ay:Type}(rd:Src ay)(s:ay)(bu:Pt):ay×List (Nat×Pt)×List Pt×Int:=
 if bu=ad then(s,[],[],0)else if(cv rd s bu).2.2≠0 then((cv rd s bu).1,[],[bu],(cv rd s bu).2.2)else kw rd (cv rd s bu).2.1 (List.range 8) (cv rd s bu).1 [] [bu]
def gU{ay:Type}(rd:Src ay)(s:ay)(bu:Pt):ay×List (Nat×Pt)×List Pt×Int:=
 if r' bu then(if(jP rd s bu).2.2.2≠0 then((jP rd s bu).1,[],[],(jP rd s bu).2.2.2)else jP rd s bu)else(s,[],[],1)
theorem aml:Bg Tryz.prog 87 44 (.agg (Y ad)) 41 56:=⟨Tryz.underlying87,by kernel_rfl,by rw[show(Value.agg (Y ad)).cells=Y ad from rfl];exact bW cE,by decide⟩
theorem ami{x:Pt}(ok:bN x)(w:World):(Instr.buildSlice 87 1 #[(0,.agg (Y x))]).run Tryz.prog w=.ok (.slice (some ⟨w.1.size,0,none⟩) 1 1) (w.alloc (.cells (Y x) 44)):=
 Rw (z:=.agg (Y ad)) Tryz.underlying87 Tryz.sizeOf44 (by kernel_rfl) (bW ok) (by decide) (by decide) w
theorem Yy{x:Nat×Pt}(ok:mF x)(w:World):(Instr.buildSlice 223 1 #[(0,.agg (et x))]).run Tryz.prog w=.ok (.slice (some ⟨w.1.size,0,none⟩) 1 1) (w.alloc (.cells (et x) 229)):=
 Rw (z:=.agg (et (0,ad))) Tryz.underlying223 Tryz.sizeOf229 (by kernel_rfl) (mC ok) (by decide) (by decide) w
abbrev adj(g:Nat)(ce:List Pt):h_:=mZ g 87 44 41 ce.length (dv Y ce)
abbrev adk(g:Nat)(df:List (Nat×Pt)):h_:=mZ g 223 229 42 df.length (dv et df)
theorem CP{a:Array Value}(h:jT a=true):∀u∈a.toList,u.oneCell'=true:=λu an=>by
 unfold jT at h;exact Array.all_eq_true'.1 h u (by simpa using an)
theorem aEG{g:Nat}{ce:List Pt}{w:World}{O:Nat->Prop}(h:adj g ce w O)(p:Pt)(ok:bN p)(al:ce.length<=1000000):
  aP Tryz.prog 151 #[.agg (Y p),.pointer (some ⟨g,0,none⟩)] w λW w'=>True/\adj g (ce++[p]) w' (ax O w w')/\D O w w':=by
 refine bn Tryz.func151 Tryz.ntmps151 λaZ Z=> ?_;obtain⟨v,V,own,IB,eV,hS,aO⟩:=h;have cU:=bW ok;have cT:=dW ok;have aY:=(D.refl ak w).alloc (.cells (Y p) 44);have bj:=cl w (.cells (Y p) 44);have ba:=aY.obj V id;have sF:=ej own aY λ_ _ e=>e;have bF:=aG ba 0;obtain⟨q,aq⟩:=az (w.1.size);simp[go_sem,cU,cT];rw[aq]at bj⊢;have gE:(w.alloc (.cells (Y p) 44)).1.size=q+1:=by simp[aq]
 generalize w.alloc (.cells (Y p) 44)=ab at*;have bF:ab.cell? ⟨g,0,none⟩=some v:=bF;simp[↓yK,go_sem,bF,bj,cU,cT];refine AH (ami ok _) ?_;simp[go_sem];refine va (us:=(Y p).toList) aml sF (by rw[Array.length_toList,cU]) (CP (sN p)) (by unfold maxLen;omega) (by omega) λkD cd rq rr xA=> ?_;have gx:=rr.obj ba λe=>Nat.lt_irrefl _ (IB _ e);have f6:=dD gx 0;have oD:∀k,kD.ownBlock=some k->k<cd.1.size:=vj rq;obtain⟨fB,sE,OO,xB,_⟩:=zb rq (by omega);subst xB;have zg:=mZ.Jw V IB eV hS aO (ej rq (D.refl ak cd) λ_ _ e=>e) ((aY.mono (S':=λk=>v.ownBlock=some k) λ_ _ e=>e.elim).trans rr) (xA.imp id λe=>e.mono aY.size) oD;have co:cd.cell? ⟨g,0,none⟩=some v:=aG gx 0;simp[go_sem,f6,co];have e:dv Y (ce++[p])=dv Y ce++(Y p).toList:=by rw[xi,yE]
 exact Z _ _ ⟨trivial,by grind,zg.2⟩
theorem agN{x:Nat×Pt}(ok:mF x){w:World}{K:Value->World->Prop}:hX Tryz.prog 229 [(0,.int .u32 x.1),(1,.agg (Y x.2))] w K=K (.agg (et x)) w:=by
 refine lp Tryz.underlying229 Hf (places:=#[(0,1),(1,41)]) (by simp[go_sem]) ?_;have aw:=bW ok.p;have hz:=bW cE;simp[iH,Hg,Value.cells,tI,mC ER,aw];unfold d';apply Array.ext';simp[et,qA,aw,hz]
theorem aEH{g:Nat}{df:List (Nat×Pt)}{w:World}{O:Nat->Prop}(h:adk g df w O)(x:Nat×Pt)(ok:mF x)(al:df.length<=1000000):
  aP Tryz.prog 152 #[.int .u32 x.1,.agg (Y x.2),.pointer (some ⟨g,0,none⟩)] w λW w'=>True/\adk g (df++[x]) w' (ax O w w')/\D O w w':=by
 refine bn Tryz.func152 Tryz.ntmps152 λaZ Z=> ?_;obtain⟨v,V,own,IB,eV,hS,aO⟩:=h;have cU:=bW ok.p;have cT:=dW ok.p;have aY:=(D.refl ak w).alloc (.cells (Y x.2) 44);have bj:=cl w (.cells (Y x.2) 44);have ba:=aY.obj V id;have sF:=ej own aY λ_ _ e=>e;have bF:=aG ba 0;obtain⟨q,aq⟩:=az (w.1.size);simp[go_sem,cU,cT];rw[aq]at bj⊢;generalize w.alloc (.cells (Y x.2) 44)=ab at*;have bF:ab.cell? ⟨g,0,none⟩=some v:=bF;simp[↓yK,go_sem,bF,bj,cU,cT,agN ok];refine AH (Yy ok _) ?_;simp[go_sem];refine va (us:=(et x).toList) Nw sF (by rw[Array.length_toList,mC ok]) (CP (SF x)) (by unfold maxLen;omega) (by omega) λkD cd rq rr xA=> ?_;have gx:=rr.obj ba λe=>Nat.lt_irrefl _ (IB _ e);have f6:=dD gx 0;have oD:∀k,kD.ownBlock=some k->k<cd.1.size:=vj rq;obtain⟨fB,sE,OO,xB,_⟩:=zb rq (by omega);subst xB;have zg:=mZ.Jw V IB eV hS aO (ej rq (D.refl ak cd) λ_ _ e=>e) ((aY.mono (S':=λk=>v.ownBlock=some k) λ_ _ e=>e.elim).trans rr) (xA.imp id λe=>e.mono aY.size) oD;have co:cd.cell? ⟨g,0,none⟩=some v:=aG gx 0;simp[go_sem,f6,co];have e:dv et (df++[x])=dv et df++(et x).toList:=by rw[xi,yE]
 exact Z _ _ ⟨trivial,by grind,zg.2⟩
theorem aEI{i:Nat}(h:i<8):(List.range 8).drop i=i::(List.range 8).drop (i+1):=by
 have:i=0\/i=1\/i=2\/i=3\/i=4\/i=5\/i=6\/i=7:=by omega
 rcases this with rfl|rfl|rfl|rfl|rfl|rfl|rfl|rfl<;>rfl
theorem ant(i:Nat)(n:List Pt)(k:Nat):(wY i n k).length<=k:=Nat.le_trans (List.length_filterMap_le _ _) (by simp)
section
variable{ay:Type}{bc:ay->h_}{m:ay->Nat}{rd:Src ay}{dB:TypeId}{ca sv:Value}{s:ay}{w w':World}{O:Nat->Prop}
def hD(bc:ay->h_)(eu dJ:Nat)(s:ay)(ce:List Pt)(df:List (Nat×Pt)):h_:=pO (bc s) (pO (adj eu ce) (adk dJ df))
theorem hD.ok(aN:∀s,kk (bc s))(eu dJ:Nat)(s:ay)(ce:List Pt)(df:List (Nat×Pt)):kk (hD bc eu dJ s ce df):=pO.ok (aN s) (pO.ok (mZ.ok _ _ _ _ _ _) (mZ.ok _ _ _ _ _ _))
abbrev VL(eu:Nat):Value:=.func (.func 151) #[] #[.pointer (some ⟨eu,0,none⟩)]
abbrev VM(dJ:Nat):Value:=.func (.func 152) #[] #[.pointer (some ⟨dJ,0,none⟩)]
theorem hD.anu{eu dJ:Nat}{ce:List Pt}{df:List (Nat×Pt)}(aN:∀s,kk (bc s))(h:hD bc eu dJ s ce df w O)(p:Pt)(ok:bN p)(al:ce.length<=1000000){K:Value->World->Prop}(eS:∀W w',hD bc eu dJ s (ce++[p]) df w' (ax O w w')->D O w w'->K W w'):
  tx Tryz.prog (VL eu) [.agg (Y p)] w K:=by
 have n':∀(x:List Value) (w:World),(callFunc 151 x.toArray).run Tryz.prog w=.ok (.enter 151 x.toArray) w:=λx w=>by simp[go_sem]
 rw[EK _ _ _ _ [.pointer (some ⟨eu,0,none⟩)] _ (n' _ _)];refine(pO.WR h (aN s) (pO.ok (mZ.ok _ _ _ _ _ _) (mZ.ok _ _ _ _ _ _)) λfP H _=>pO.aev (R:=λ_ _=>True) H (mZ.ok _ _ _ _ _ _) (mZ.ok _ _ _ _ _ _) (mZ.ok _ _ _ _ _ _) λiK I _=>aEG I p ok al).mono ?_;rintro W w' ⟨_,a,b⟩;exact eS W w' a b
theorem hD.aEJ{eu dJ:Nat}{ce:List Pt}{df:List (Nat×Pt)}(aN:∀s,kk (bc s))(h:hD bc eu dJ s ce df w O)(x:Nat×Pt)(ok:mF x)(al:df.length<=1000000){K:Value->World->Prop}(eS:∀W w',hD bc eu dJ s ce (df++[x]) w' (ax O w w')->D O w w'->K W w'):
  tx Tryz.prog (VM dJ) [.int .u32 x.1,.agg (Y x.2)] w K:=by
 have n':∀(x:List Value) (w:World),(callFunc 152 x.toArray).run Tryz.prog w=.ok (.enter 152 x.toArray) w:=λx w=>by simp[go_sem]
 rw[EK _ _ _ _ [.pointer (some ⟨dJ,0,none⟩)] _ (n' _ _)];refine(pO.WR h (aN s) (pO.ok (mZ.ok _ _ _ _ _ _) (mZ.ok _ _ _ _ _ _)) λfP H _=>pO.WR (R:=λ_ _=>True) H (mZ.ok _ _ _ _ _ _) (mZ.ok _ _ _ _ _ _) λiK I _=>aEH I x ok al).mono ?_;rintro W w' ⟨_,a,b⟩;exact eS W w' a b
theorem hD.LP{eu dJ:Nat}{ce:List Pt}{df:List (Nat×Pt)}(h:hD bc eu dJ s ce df w O):∃fP,bc s w fP:=by
 obtain⟨fP,_,H,_⟩:=h;exact⟨fP,H⟩
theorem hD.vo{eu dJ:Nat}{ce:List Pt}{df:List (Nat×Pt)}(aw:qu bc m rd (.iface dB ca))(aH:16<=m s)(aN:∀s,kk (bc s))(h:hD bc eu dJ s ce df w O)(p:Pt)(ok:bN p)(ck:hj w)(aF:ik bc O):
  aP Tryz.prog 198 #[.iface dB ca,.agg (Y p)] w λW w'=>W=.tuple #[.agg (bZ (cv rd s p).2.1),.int .i64 (cv rd s p).2.2]/\hD bc eu dJ (cv rd s p).1 ce df w' (ax O w w')/\D O w w':=
 pO.aev h (aN s) (pO.ok (mZ.ok _ _ _ _ _ _) (mZ.ok _ _ _ _ _ _)) (aN _) λfP H eV=>RH aw aH aN H p ok ck (aF.mono eV)
theorem aEK(aw:qu bc m rd (.iface dB ca))(aH:144<=m s)(aN:∀s,kk (bc s)){eu dJ:Nat}(h:hD bc eu dJ s [] [] w O)(p:Pt)(ok:bN p)(ck:hj w)(aF:ik bc O):
  aP Tryz.prog 150 #[.iface dB ca,.agg (Y p),VL eu,VM dJ] w λW w'=>W=.int .i64 (jP rd s p).2.2.2/\hD bc eu dJ (jP rd s p).1 (jP rd s p).2.2.1 (jP rd s p).2.1 w' (ax O w w')/\D O w w':=by
 refine bn Tryz.func150 Tryz.ntmps150 λaZ Z=> ?_;have cU:=bW ok;have cT:=dW ok;have gc:=(hD.ok aN eu dJ s [] []).lt h;have eO:∀j,w.1.size<=j->¬O j:=λj F e=>by have:=gc j e;omega
 have aY:=(D.refl ak w).alloc (.cells (Y p) 44);have bj:=cl w (.cells (Y p) 44);have eJ:=ck.ch aY λ_ _ e=>e;have H:=(hD.ok aN eu dJ s [] []).ch h aY λ_ _ e=>e;have gd:(w.alloc (.cells (Y p) 44)).1.size=w.1.size+1:=by simp
 have xl:∀w,(Op.equalIn 10000 44 (.agg (Y p)) (.agg (Y ad))).run Tryz.prog w=.ok (decide (p=ad)) w:=λw=>sO w ok cE;obtain⟨ab,de⟩:=az (w.alloc (.cells (Y p) 44));rw[de]at aY bj eJ H gd;simp[go_sem,cU,cT,de];obtain⟨g,mG⟩:=az (w.1.size);rw[mG]at bj gd eO⊢;clear de;obtain⟨cs,bl,fr,aD,M,hz⟩:=id eJ.mx;have bL:∀{N:World} {x:ay×List (Nat×Pt)×List Pt×Int},jP rd s p=x->hD bc eu dJ x.1 x.2.2.1 x.2.1 N (ax O ab N)->D O ab N->aZ (.int .i64 x.2.2.2) N:=λ{N x} e a c=>by
  subst e;have EZ:=c.size;exact Z _ _ ⟨rfl,(hD.ok aN _ _ _ _ _).ex a (λk r=>r.imp id λe=>⟨by omega,e.2⟩) (ax.lt gc (by omega)),(aY.mono λ_ _ e=>e.elim).trans c⟩
 clear Z;have eG:∀k,O k->k<ab.1.size:=λk r=>by have:=gc k r;omega
 by_cases ah:p=ad
 ·have bd:jP rd s p=(s,[],[],0):=by unfold jP;rw[if_pos ah]
  subst ah;simp[go_sem,bj,cU,cT,aD,M,hz,xl];exact bL bd ((hD.ok aN _ _ _ _ _).ex H (λk r=>.inl r) (ax.lt eG (Nat.le_refl _))) (D.refl _ _)
 ·have bd:jP rd s p=if(cv rd s p).2.2≠0 then((cv rd s p).1,[],[p],(cv rd s p).2.2)else kw rd (cv rd s p).2.1 (List.range 8) (cv rd s p).1 [] [p]:=by unfold jP;rw[if_neg ah]
  simp[go_sem,bj,cU,cT,aD,M,hz,xl,ah];refine hD.anu aN H p ok (by simp) λjf ai I aA=> ?_;have jg:=aA.size;have mX:=aF.ck eJ aA I.LP λ_ _ e=>e;have jd:=aA.obj bj (eO g (Nat.le_refl _));have oA:ik bc (ax O ab ai):=aF.cq eJ;have v':=AK aw s p;simp[go_sem,jd,cU,cT];refine(hD.vo aw (by omega) aN I p ok mX oA).mono ?_;rintro _ aC ⟨rfl,af,aE⟩;have lx:=Ex rd s p;obtain⟨⟨gL,Av,dt⟩,aEL⟩:∃bl,cv rd s p=bl:=⟨_,rfl⟩;rw[aEL]at lx af bd v'⊢;simp only at lx af bd v'⊢;have yR:=kh lx;have AN:=qp lx;have KZ:=aE.size;have ka:=oA.ck mX aE af.LP λ_ _ e=>e;have bv:=(D.refl ak aC).alloc (.cells (bZ Av) 339);have ci:=cl aC (.cells (bZ Av) 339);have ux:=ka.ch bv λ_ _ e=>e;have aU:=(hD.ok aN _ _ _ _ _).ch af bv λ_ _ e=>e;simp[go_sem,rW,rX,yR,AN,kh pL,bQ];obtain⟨dw,HC⟩:=az (aC.1.size);rw[HC]at ci⊢;have BT:=bv.size;have Dw:D O ab (aC.alloc (.cells (bZ Av) 339)):=(aA.bJ aE λk r e=>e.elim id λe=>by omega).trans (bv.mono λ_ _ e=>e.elim);generalize aC.alloc (.cells (bZ Av) 339)=be at*;have aU:hD bc eu dJ gL [p] [] be (ax O ab be):=(hD.ok aN _ _ _ _ _).ex aU (λk r=>by
   rcases r with(r|r)|r
   ·exact .inl r
   ·exact .inr ⟨r.1,by omega⟩
   ·exact .inr ⟨by omega,by omega⟩) (ax.lt eG (by omega))
  by_cases aV:dt=0
  ·subst aV;rw[if_neg (by simp)]at bd;simp[go_sem,ci,yR,AN];have R':ab.1.size<=be.1.size:=by omega
   refine du (λJ f u=>∃(i:Nat) (s':ay) (df:List (Nat×Pt)) (ce:List Pt),J=8 - i/\i<=8/\f 0=.iface dB ca/\f 2=VL eu/\f 3=VM dJ/\f 32=.agg (bZ Av)/\f 33=.int .i64 i/\kw rd Av (List.range 8) gL [] [p]=kw rd Av ((List.range 8).drop i) s' df ce
     /\ce.length<=i+1/\df.length<=8*i/\16*(8 - i)<=m s'/\hD bc eu dJ s' ce df u (ax O ab u)/\D O ab u/\be.1.size<=u.1.size) 8
    ⟨0,gL,[],[p],rfl,by omega,by simp,by simp,by simp,by simp,by simp,rfl,by simp,by simp,by omega,aU,Dw,Nat.le_refl _⟩ ?_
   rintro cJ bK _ f u ⟨i,s',df,ce,rfl,aa,f0,bh,bV,Au,Gt,wZ,kG,DH,uH,an,aJ,A'⟩;have mH:=aF.ck eJ aJ an.LP λ_ _ e=>e;have qc:ik bc (ax O ab u):=aF.cq eJ;by_cases aO:i<8
   ·have akJ:(i:Int)<8:=by omega
    obtain⟨q,aq⟩:∃q,Av[i]? =some q:=⟨_,List.getElem?_eq_getElem (by rw[lx.len];exact aO)⟩;have kV:=lx.all _ (List.mem_of_getElem? aq);have acY:Av.getD i ad=q:=by rw[List.getD_eq_getElem?_getD,aq];rfl
    have mu:=Wz lx aO aq;have uh:=bW kV;have uc:=dW kV;have gO:IntKind.i64.wrap ((i:Int)+1)=((i+1:Nat):Int):=by rw[IntKind.wrap_i64];omega
    rw[aEI aO,kw,acY]at wZ;have bx:=(D.refl ak u).alloc (.cells (Y q) 44);have dj:=cl u (.cells (Y q) 44);have pu:=mH.ch bx λ_ _ e=>e;have bC:=(hD.ok aN _ _ _ _ _).ch an bx λ_ _ e=>e;have anv:(u.alloc (.cells (Y q) 44)).1.size=u.1.size+1:=by simp
    obtain⟨bw,mz⟩:=az (u.alloc (.cells (Y q) 44));rw[mz]at bx dj pu bC anv;simp[go_sem,Gt,Au,akJ,mu,gm,gn,uh,uc,bW cE,bQ,mz];obtain⟨cu,Hi⟩:=az (u.1.size);rw[Hi]at dj anv⊢;clear mz;have anw:∀w,(Op.equalIn 10000 44 (.agg (Y q)) (.agg (Y ad))).run Tryz.prog w=.ok (decide (q=ad)) w:=λw=>sO w kV cE;obtain⟨anc,ane,anf,HI,IN,LH⟩:=id pu.mx;have IC:hD bc eu dJ s' ce df bw (ax O ab bw):=(hD.ok aN _ _ _ _ _).ex bC (λk r=>r.imp id λe=>⟨e.1,by omega⟩) (ax.lt eG (by omega));have IP:D O ab bw:=aJ.trans (bx.mono λ_ _ e=>e.elim);have Bc:¬ax O ab u cu:=λe=>e.elim (eO cu (by omega)) λe=>by omega
    by_cases Aq:q=ad
    ·rw[if_pos Aq]at wZ;subst Aq;simp[go_sem,dj,uh,uc,HI,IN,LH,anw,Gt,gO];exact cH.intro (8 -(i+1)) (by omega) (bK _ _ _ ⟨i+1,s',df,ce,rfl,by omega,by simp[f0],by simp[bh],by simp[bV],by simp[Au],by simp,wZ,by omega,by omega,by omega,IC,IP,by omega⟩)
    ·rw[if_neg Aq]at wZ;simp[go_sem,dj,uh,uc,HI,IN,LH,anw,Aq,bh];refine hD.anu aN bC q kV (by omega) λkD cd cG co=> ?_;have wl:=co.size;have gx:=co.obj dj Bc;have wV:=qc.ck pu co cG.LP λ_ _ e=>e;have tb:ik bc (ax (ax O ab u) bw cd):=qc.cq pu;have anx:=AK aw s' q;simp[go_sem,gx,uh,uc,f0];refine(hD.vo aw (by omega) aN cG q kV wV tb).mono ?_;rintro _ cF ⟨rfl,eD,dz⟩;have pG:=Ex rd s' q;obtain⟨⟨hn,q',hi⟩,QF⟩:∃bl,cv rd s' q=bl:=⟨_,rfl⟩;rw[QF]at pG eD wZ anx⊢;simp only at pG eD wZ anx⊢;have Gr:=kh pG;have IR:=qp pG;have yf:=dz.size;have adf:=tb.ck wV dz eD.LP λ_ _ e=>e;have ev:=(D.refl ak cF).alloc (.cells (bZ q') 339);have oj:=cl cF (.cells (bZ q') 339);have VH:=adf.ch ev λ_ _ e=>e;have eb:=(hD.ok aN _ _ _ _ _).ch eD ev λ_ _ e=>e;simp[go_sem,rW,rX,Gr,IR,kh pL,bQ];obtain⟨pi,acB⟩:=az (cF.1.size);rw[acB]at oj⊢;have NG:=ev.size;have aEM:D O ab cF:=(IP.bJ co λk r e=>e.elim id λe=>by omega).bJ dz λk r e=>e.elim (λe=>e.elim id λe=>by omega) λe=>by omega
     have anz:D O ab (cF.alloc (.cells (bZ q') 339)):=aEM.trans (ev.mono λ_ _ e=>e.elim);generalize cF.alloc (.cells (bZ q') 339)=eA at*;have eb:hD bc eu dJ hn (ce++[q]) df eA (ax O ab eA):=(hD.ok aN _ _ _ _ _).ex eb (λk r=>by
      rcases r with((r|r)|r)|r
      ·exact .inl r
      ·exact .inr ⟨r.1,by omega⟩
      ·exact .inr ⟨by omega,by omega⟩
      ·exact .inr ⟨by omega,by omega⟩) (ax.lt eG (by omega))
     by_cases px:hi=0
     ·subst px;rw[if_neg (by simp)]at wZ;simp[go_sem,oj,Gr,IR];refine du (λJ f u=>∃(k:Nat),J=8 - k/\k<=8/\f 0=.iface dB ca/\f 2=VL eu/\f 3=VM dJ/\f 32=.agg (bZ Av)/\f 33=.int .i64 i/\f 11=.int .i64 i/\f 52=.agg (bZ q')/\f 53=.int .i64 k
        /\hD bc eu dJ hn (ce++[q]) (df++wY i q' k) u (ax O ab u)/\D O ab u/\be.1.size<=u.1.size) 8
       ⟨0,rfl,by omega,by simp[f0],by simp[bh],by simp[bV],by simp[Au],by simp[Gt],by simp,by simp,by simp,by simpa[wY]using eb,anz,by omega⟩ ?_
      rintro CO pV _ f cS ⟨k,rfl,r,f0,bh,bV,Au,Gt,gD,G_,BO,uX,kr,aJ5⟩;by_cases iM:k<8
      ·have AU:(k:Int)<8:=by omega
       obtain⟨x,M⟩:∃x,q'[k]? =some x:=⟨_,List.getElem?_eq_getElem (by rw[pG.len];exact iM)⟩;have dh:=pG.all _ (List.mem_of_getElem? M);have rH:q'.getD k ad=x:=by rw[List.getD_eq_getElem?_getD,M];rfl
       have aEN:=Wz pG iM M;have eU:=bW dh;have gs:=dW dh;have eo:IntKind.i64.wrap ((k:Int)+1)=((k+1:Nat):Int):=by rw[IntKind.wrap_i64];omega
       have zk:IntKind.i64.wrap ((i:Int)*8)=((8*i:Nat):Int):=by rw[IntKind.wrap_i64];omega
       have rF:IntKind.i64.wrap (8*(i:Int)+k)=8*(i:Int)+k:=by rw[IntKind.wrap_i64];omega
       have Qf:IntKind.u32.wrap (8*(i:Int)+k)=8*(i:Int)+k:=by simp[IntKind.wrap,IntKind.bits,IntKind.signed];omega
       have anA:∀w,(Op.equalIn 10000 44 (.agg (Y x)) (.agg (Y ad))).run Tryz.prog w=.ok (decide (x=ad)) w:=λw=>sO w dh cE;have dX:=(D.refl ak cS).alloc (.cells (Y x) 44);have rG:=cl cS (.cells (Y x) 44);have LC:=(aF.ck eJ kr uX.LP λ_ _ e=>e).ch dX λ_ _ e=>e;have hl:=(hD.ok aN _ _ _ _ _).ch uX dX λ_ _ e=>e;have anB:(cS.alloc (.cells (Y x) 44)).1.size=cS.1.size+1:=by simp
       have Qz:D O ab (cS.alloc (.cells (Y x) 44)):=kr.trans (dX.mono λ_ _ e=>e.elim);obtain⟨dC,H_⟩:=az (cS.alloc (.cells (Y x) 44));rw[H_]at dX rG LC hl anB Qz;simp[go_sem,G_,BO,AU,aEN,gm,gn,eU,gs,bW cE,bQ,H_];obtain⟨EH,aEO⟩:=az (cS.1.size);rw[aEO]at rG anB⊢;clear H_;obtain⟨aJ6,am1,af5,anC,anD,anE⟩:=id LC.mx;have aEP:hD bc eu dJ hn (ce++[q]) (df++wY i q' k) dC (ax O ab dC):=(hD.ok aN _ _ _ _ _).ex hl (λk r=>r.imp id λe=>⟨e.1,by omega⟩) (ax.lt eG (by omega));by_cases Fv:x=ad
       ·have aK:wY i q' (k+1)=wY i q' k:=by rw[ans,rH,if_pos Fv,List.append_nil]
        subst Fv;simp[go_sem,rG,eU,gs,anC,anD,anE,anA,BO,eo];exact cH.intro (8 -(k+1)) (by omega) (pV _ _ _ ⟨k+1,rfl,by omega,by simp[f0],by simp[bh],by simp[bV],by simp[Au],by simp[Gt],by simp[gD],by simp[G_],by simp,by rw[aK];exact aEP,Qz,by omega⟩)
       ·have aK:df++wY i q' (k+1)=(df++wY i q' k)++[(8*i+k,x)]:=by rw[ans,rH,if_neg Fv,List.append_assoc]
        have AG:=ant i q' k;simp[go_sem,rG,eU,gs,anC,anD,anE,anA,Fv,bV,gD,BO,zk,rF,Qf];have XR:¬ax O ab cS EH:=λe=>e.elim (eO EH (by omega)) λe=>by omega
        have lr:mF (8*i+k,x):=⟨by show 8*i+k<_;omega,dh⟩;have aEQ:(8*(i:Int)+k)=((8*i+k:Nat):Int):=by omega
        rw[aEQ];refine hD.aEJ aN hl (8*i+k,x) lr (by grind) λaon mr jn lX=> ?_;have aDK:=lX.size;have Vz:D O ab mr:=Qz.bJ lX λk r e=>e.elim id λe=>by omega
        have aER:hD bc eu dJ hn (ce++[q]) (df++wY i q' (k+1)) mr (ax O ab mr):=by
         rw[aK];exact(hD.ok aN _ _ _ _ _).ex jn (λk r=>by
          rcases r with(r|r)|r
          ·exact .inl r
          ·exact .inr ⟨r.1,by omega⟩
          ·exact .inr ⟨by omega,by omega⟩) (ax.lt eG (by omega))
        simp[go_sem,BO,eo];exact cH.intro (8 -(k+1)) (by omega) (pV _ _ _ ⟨k+1,rfl,by omega,by simp[f0],by simp[bh],by simp[bV],by simp[Au],by simp[Gt],by simp[gD],by simp[G_],by simp,aER,Vz,by omega⟩)
      ·obtain rfl:k=8:=by omega
       simp[go_sem,BO,Gt,gO];exact cH.intro (8 -(i+1)) (by omega) (bK _ _ _ ⟨i+1,hn,df++qS i q',ce++[q],rfl,by omega,by simp[f0],by simp[bh],by simp[bV],by simp[Au],by simp,wZ,by simp;omega,by
        have:=ant i q' 8;rw[List.length_append,show qS i q'=wY i q' 8 from rfl];omega,by omega,uX,kr,by omega⟩)
     ·rw[if_pos px]at wZ;have QI:(hi==0)=false:=beq_false_of_ne px;simp[go_sem,px,QI,bne];exact bL (x:=(hn,df,ce++[q],hi)) (bd.trans wZ) eb anz
   ·obtain rfl:i=8:=by omega
    have wZ:kw rd Av (List.range 8) gL [] [p]=(s',df,ce,0):=wZ;simp[go_sem,Gt];exact bL (x:=(s',df,ce,0)) (bd.trans wZ) an aJ
  ·rw[if_pos aV]at bd;have mY:(dt==0)=false:=beq_false_of_ne aV;simp[go_sem,aV,mY,bne];exact bL bd aU Dw
def aiW(bc:ay->h_)(w:World)(O:Nat->Prop)(x:ay×List (Nat×Pt)×List Pt×Int)(W:Value)(w':World):Prop:=
 ∃gY hb O',W=.tuple #[gY,hb,.int .i64 x.2.2.2]/\w'.ownsRow 0 229 42 gY x.2.1.length (dv et x.2.1)/\w'.ownsRow 0 44 41 hb x.2.2.1.length (dv Y x.2.2.1)/\bc x.1 w' O'/\(∀k,O' k->ax O w w' k)/\
  (∀k,gY.ownBlock=some k->¬O' k/\w.1.size<=k)/\(∀k,hb.ownBlock=some k->¬O' k/\w.1.size<=k)/\D O w w'
theorem XX(aw:qu bc m rd (.iface dB ca))(aH:144<=m s)(aN:∀s,kk (bc s))(h:bc s w O)(p:Pt)(ok:bN p)(ck:hj w)(aF:ik bc O):
  aP Tryz.prog 98 #[.iface dB ca,.agg (Y p)] w (aiW bc w O (gU rd s p)):=by
 refine bn Tryz.func98 Tryz.ntmps98 λaZ Z=> ?_;have cU:=bW ok;have cT:=dW ok;have gc:=(aN s).lt h;have eO:∀j,w.1.size<=j->¬O j:=λj F e=>by have:=gc j e;omega
 have aY:=(D.refl ak w).alloc (.cells (Y p) 44);have bj:=cl w (.cells (Y p) 44);have eJ:=ck.ch aY λ_ _ e=>e;simp[go_sem,cU,cT];obtain⟨g,mG⟩:=az (w.1.size);rw[mG]at bj eO⊢;have gd:=aY.size;generalize w.alloc (.cells (Y p) 44)=ab at*;have anF:∀{N:World} {e:Int} {s':ay},gU rd s p=(s',[],[],e)->bc s' N (ax O w N)->D O w N->aZ (.tuple #[.slice none 0 0,.slice none 0 0,.int .i64 e]) N:=λ{N e s'} aK a c=>by
  refine Z _ _ ?_;rw[aK];exact⟨_,_,_,rfl,World.ownsRow_nil _ _ _ _,World.ownsRow_nil _ _ _ _,a,λk r=>r,λk r=>by simp[Value.ownBlock]at r,λk r=>by simp[Value.ownBlock]at r,c⟩
 refine(WS p ab ok eJ).mono ?_;rintro _ ai ⟨rfl,aA⟩;have eF:=aY.trans aA;have jd:=aA.obj bj id;have I:=(aN s).ch h eF λ_ _ e=>e;have jg:=eF.size
 cases Bd:r' p with
 |false=>
  simp[go_sem];exact anF (by unfold gU;rw[Bd];rfl) ((aN _).ex I (λk r=>.inl r) (ax.lt gc jg)) (eF.mono λ_ _ e=>e.elim)
 |true=>
  have bd:gU rd s p=if(jP rd s p).2.2.2≠0 then((jP rd s p).1,[],[],(jP rd s p).2.2.2)else jP rd s p:=by unfold gU;rw[Bd];rfl
  have bv:=((D.refl ak ai).alloc (.cells #[.slice none 0 0] 223)).alloc (.cells #[.slice none 0 0] 87);have ib:=oa ai (.cells #[.slice none 0 0] 223) (.cells #[.slice none 0 0] 87);have oj:=ny ai (.cells #[.slice none 0 0] 223) (.cells #[.slice none 0 0] 87);have aES:((ai.alloc (.cells #[.slice none 0 0] 223)).alloc (.cells #[.slice none 0 0] 87)).1.size=ai.1.size+2:=by simp
  have oQ:=bv.obj jd id;have aU:=(aN s).ch I bv λ_ _ e=>e;have ux:=(eJ.ch aA λ_ _ e=>e).ch bv λ_ _ e=>e;have Dw:=eF.trans bv;simp[go_sem,oQ,jd,cU,cT];obtain⟨kY,aET⟩:=az (ai.1.size);rw[aET]at ib oj aES⊢;generalize(ai.alloc (.cells #[.slice none 0 0] 223)).alloc (.cells #[.slice none 0 0] 87)=be at*;have AZ:∀k,(O k\/k=kY\/k=kY+1)->k<be.1.size:=λk r=>by
   grind
  have eR:hD bc (kY+1) kY s [] [] be (λk=>O k\/k=kY\/k=kY+1):=by
   refine⟨O,λk=>k=kY\/k=kY+1,aU,⟨aj (kY+1),aj kY,mZ.aeA oj rfl (λk r=>by simp only[aj]at r;omega),mZ.aeA ib rfl (λk r=>by simp only[aj]at r;omega),λk r e=>by simp only[aj]at r e;omega,λk r=>by simp only[aj]at r;omega,λk r=>AZ k (.inr r)⟩,λk r e=>eO k (by omega) r,λk r=>r,AZ⟩
  have aEU:ik bc (λk=>O k\/k=kY\/k=kY+1):=aF.imp (λaF k r e=>by
   rcases e with e|e
   ·exact aF k r e
   ·have:=ck.lt k r;omega) id
  refine(aEK aw aH aN eR p ok ux aEU).mono ?_;rintro _ bw ⟨rfl,bC,bx⟩;obtain⟨⟨j_,anG,anH,fD⟩,aEV⟩:∃bl,jP rd s p=bl:=⟨_,rfl⟩;rw[aEV]at bC bd⊢;have bC:hD bc (kY+1) kY j_ anH anG bw (ax (λk=>O k\/k=kY\/k=kY+1) be bw):=bC;have Bi:=bx.size;have lB:D O w bw:=(Dw.mono λ_ _ e=>e.elim).bJ bx λk r e=>by
   rcases e with e|e
   ·exact e
   ·omega
  obtain⟨fP,iK,a1,⟨mK,aJ7,a3,a4,KP,anI,_⟩,anJ,aEW,_⟩:=bC;have OZ:∀k,fP k->ax O w bw k:=λk r=>by
   rcases aEW k (.inl r)with(r|r)|r
   ·exact .inl r
   ·exact .inr ⟨by omega,by omega⟩
   ·exact .inr ⟨by omega,by omega⟩
  by_cases aV:fD=0
  ·subst aV;rw[if_neg (by simp)]at bd;obtain⟨hb,wI,Nf,pn,aJ8,aEX,_⟩:=a3;obtain⟨gY,fF,Nd,pK,xq,aEY,_⟩:=a4;obtain⟨vm,uS,aEZ,_⟩:=bD.fp Nf;obtain⟨aE0,iZ,aE1,_⟩:=bD.fp Nd;subst aEZ aE1;have lP:bw.cell? ⟨kY,0,none⟩=some (.slice aE0 anG.length iZ):=aG fF 0;have np:bw.cell? ⟨kY+1,0,none⟩=some (.slice vm anH.length uS):=aG wI 0;simp[go_sem];refine cD [A 0,A 1,A 2,A 3,A 4] ?_;simp[go_sem,lP,np];refine Z _ _ ?_;rw[bd];exact⟨_,_,fP,rfl,Nd,Nf,(aN _).ch a1 (D.refl ak bw).drew λ_ _ e=>e,OZ,λk r=>⟨λe=>anJ k e (anI k (.inr (aEY k r))),by have:=pK k r;omega⟩,λk r=>⟨λe=>anJ k e (anI k (.inl (aEX k r))),by have:=pn k r;omega⟩,lB.drew⟩
  ·rw[if_pos aV]at bd;have mY:(fD==0)=false:=beq_false_of_ne aV;simp[go_sem,aV,mY,bne];exact anF bd ((aN _).ex a1 OZ (ax.lt gc (by omega))) lB
end
end Go.Proofs.YtoohkhcpboldjaaGreatDoor
