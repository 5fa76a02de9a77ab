/- Trees: all leaves and nodes, of any source. Conditions: the variables ptr.wide and tree.hole hold what the text lays. -/
import Derived.Test.YtoohkhcpboldjaaGreatDoorTrF
set_option maxRecDepth 100000
set_option maxHeartbeats 4000000
set_option linter.unusedSimpArgs false
set_option linter.unusedVariables false
namespace Go.Proofs.YtoohkhcpboldjaaGreatDoor
open Go.RowKit Go.Kin Tryz
def Aq(i:Nat)(n:List Pt)(k:Nat):List (Nat×Pt):=(List.range k).filterMap λk=>if n.getD k ah=ah then none else some (8*i+k,n.getD k ah)
def xk(i:Nat)(n:List Pt):List (Nat×Pt):=(List.range 8).filterMap λk=>if n.getD k ah=ah then none else some (8*i+k,n.getD k ah)
theorem avh(i:Nat)(n:List Pt)(k:Nat):Aq i n (k+1)=Aq i n k++if n.getD k ah=ah then[]else[(8*i+k,n.getD k ah)]:=by
 unfold Aq;rw[IH,List.filterMap_append]
 grind
def mO{aF:Type}(rd:Src aF)(top:List Pt):List Nat->aF->List (Nat×Pt)->List Pt->aF×List (Nat×Pt)×List Pt×Int
 |[],s,dP,dZ=>(s,dP,dZ,0)
 |i::L,s,dP,dZ=>if top.getD i ah=ah then mO rd top L s dP dZ else
   if(cM rd s (top.getD i ah)).2.2≠0 then((cM rd s (top.getD i ah)).1,dP,dZ++[top.getD i ah],(cM rd s (top.getD i ah)).2.2)
   else mO rd top L (cM rd s (top.getD i ah)).1 (dP++xk i (cM rd s (top.getD i ah)).2.1) (dZ++[top.getD i ah])
def l_{aF:Type}(rd:Src aF)(s:aF)(bO:Pt):aF×List (Nat×Pt)×List Pt×Int:=
 if bO=ah then(s,[],[],0)else if(cM rd s bO).2.2≠0 then((cM rd s bO).1,[],[bO],(cM rd s bO).2.2)else mO rd (cM rd s bO).2.1 (List.range 8) (cM rd s bO).1 [] [bO]
def lS{aF:Type}(rd:Src aF)(s:aF)(bO:Pt):aF×List (Nat×Pt)×List Pt×Int:=
 if uu bO then(if(l_ rd s bO).2.2.2≠0 then((l_ rd s bO).1,[],[],(l_ rd s bO).2.2.2)else l_ rd s bO)else(s,[],[],1)
theorem aNK:Bc prog 87 44 (.agg (ae ah)) 41 56:=⟨underlying87,by kernel_rfl,by rw[show(Value.agg (ae ah)).cells=ae ah from rfl];exact cd cH,by decide⟩
theorem aNL{x:Pt}(ok:cc x)(w:M):(Instr.buildSlice 87 1 #[(0,.agg (ae x))]).run prog w=.ok (.slice (some ⟨w.1.size,0,none⟩) 1 1) (w.alloc (.cells (ae x) 44)):=
 SA (z:=.agg (ae ah)) underlying87 Tryz.sizeOf44 (by kernel_rfl) (cd ok) (by decide) (by decide) w
theorem afq{x:Nat×Pt}(ok:nU x)(w:M):(Instr.buildSlice 223 1 #[(0,.agg (ft x))]).run prog w=.ok (.slice (some ⟨w.1.size,0,none⟩) 1 1) (w.alloc (.cells (ft x) 229)):=
 SA (z:=.agg (ft (0,ah))) underlying223 Tryz.sizeOf229 (by kernel_rfl) (ra ok) (by decide) (by decide) w
abbrev aj6(g:Nat)(dZ:List Pt):jf:=oG g 87 44 41 dZ.length (ei ae dZ)
abbrev aj7(g:Nat)(dP:List (Nat×Pt)):jf:=oG g 223 229 42 dP.length (ei ft dP)
theorem GX{a:Array N}(h:jx a=true):∀u∈a.toList,u.oneCell'=true:=λu ap=>by
 unfold jx at h;exact AD.1 h u (by simpa using ap)
theorem aNM{g:Nat}{dZ:List Pt}{w:M}{O:Nat->Prop}(h:aj6 g dZ w O)(p:Pt)(ok:cc p)(ak:dZ.length<=1000000):
  bc prog 151 #[.agg (ae p),az g] w λv' w'=>True/\aj6 g (dZ++[p]) w' (aE O w w')/\H O w w':=by
 refine bz func151 ntmps151 λbk af=> ?_;obtain⟨v,ab,own,yn,eZ,g_,aO⟩:=h;have de:=cd ok;have da:=ef ok;have aU:=(H.refl al w).alloc (.cells (ae p) 44);have bu:=cr w (.cells (ae p) 44);have bt:=aU.obj ab id;have qh:=gu own aU λ_ _ e=>e;have cg:=aG bt 0;obtain⟨q,au⟩:=aD (w.1.size);simp[go_sem,de,da];rw[au]at bu⊢;have gF:(w.alloc (.cells (ae p) 44)).1.size=q+1:=by simp[au]
 generalize w.alloc (.cells (ae p) 44)=ai at*;have cg:ai.cell? (bl g 0)=some v:=cg;simp[↓Eh,go_sem,cg,bu,de,da];refine Ei (aNL ok _) ?_;simp[go_sem];refine wJ (us:=(ae p).toList) aNK qh (by rw[wi,de]) (GX (wc p)) (by unfold maxLen;omega) (by omega) λoy cD tF tG Bg=> ?_;have gj:=tG.obj bt λe=>FX _ (yn _ e);have f6:=dJ gj 0;have qg:∀k,oy.ownBlock=some k->k<cD.1.size:=Gv tF;obtain⟨gy,uw,Tu,Bh,_⟩:=A' tF (by omega);subst Bh;have CL:=oG.Pm ab yn eZ g_ aO (gu tF (H.refl al cD) λ_ _ e=>e) ((aU.mono (S':=λk=>v.ownBlock=some k) λ_ _ e=>e.elim).trans tG) (Bg.imp id λe=>e.mono aU.size) qg;have cF:cD.cell? (bl g 0)=some v:=aG gj 0;simp[go_sem,f6,cF];have e:ei ae (dZ++[p])=ei ae dZ++(ae p).toList:=by rw[AG,Cg]
 exact af _ _ ⟨trivial,by grind,CL.2⟩
theorem aoz{x:Nat×Pt}(ok:nU x){w:M}{K:N->M->Prop}:jb prog 229 [(0,.int .u32 x.1),(1,.agg (ae x.2))] w K=K (.agg (ft x)) w:=by
 refine ma underlying229 PL (places:=#[(0,1),(1,41)]) (by simp[go_sem]) ?_;have aA:=cd ok.p;have hz:=cd cH;simp[jw,PM,Value.cells,uf,ra Mz,aA];unfold dT;apply ip;simp[ft,sx,aA,hz]
theorem aNN{g:Nat}{dP:List (Nat×Pt)}{w:M}{O:Nat->Prop}(h:aj7 g dP w O)(x:Nat×Pt)(ok:nU x)(ak:dP.length<=1000000):
  bc prog 152 #[.int .u32 x.1,.agg (ae x.2),az g] w λv' w'=>True/\aj7 g (dP++[x]) w' (aE O w w')/\H O w w':=by
 refine bz func152 ntmps152 λbk af=> ?_;obtain⟨v,ab,own,yn,eZ,g_,aO⟩:=h;have de:=cd ok.p;have da:=ef ok.p;have aU:=(H.refl al w).alloc (.cells (ae x.2) 44);have bu:=cr w (.cells (ae x.2) 44);have bt:=aU.obj ab id;have qh:=gu own aU λ_ _ e=>e;have cg:=aG bt 0;obtain⟨q,au⟩:=aD (w.1.size);simp[go_sem,de,da];rw[au]at bu⊢;generalize w.alloc (.cells (ae x.2) 44)=ai at*;have cg:ai.cell? (bl g 0)=some v:=cg;simp[↓Eh,go_sem,cg,bu,de,da,aoz ok];refine Ei (afq ok _) ?_;simp[go_sem];refine wJ (us:=(ft x).toList) TT qh (by rw[wi,ra ok]) (GX (Zv x)) (by unfold maxLen;omega) (by omega) λoy cD tF tG Bg=> ?_;have gj:=tG.obj bt λe=>FX _ (yn _ e);have f6:=dJ gj 0;have qg:∀k,oy.ownBlock=some k->k<cD.1.size:=Gv tF;obtain⟨gy,uw,Tu,Bh,_⟩:=A' tF (by omega);subst Bh;have CL:=oG.Pm ab yn eZ g_ aO (gu tF (H.refl al cD) λ_ _ e=>e) ((aU.mono (S':=λk=>v.ownBlock=some k) λ_ _ e=>e.elim).trans tG) (Bg.imp id λe=>e.mono aU.size) qg;have cF:cD.cell? (bl g 0)=some v:=aG gj 0;simp[go_sem,f6,cF];have e:ei ft (dP++[x])=ei ft dP++(ft x).toList:=by rw[AG,Cg]
 exact af _ _ ⟨trivial,by grind,CL.2⟩
theorem aNO{i:Nat}(h:i<8):(List.range 8).drop i=i::(List.range 8).drop (i+1):=by
 have:i=0\/i=1\/i=2\/i=3\/i=4\/i=5\/i=6\/i=7:=by omega
 rcases this with rfl|rfl|rfl|rfl|rfl|rfl|rfl|rfl<;>rfl
theorem avi(i:Nat)(n:List Pt)(k:Nat):(Aq i n k).length<=k:=dK (acS _ _) (by simp)
section
variable {aF:Type}{ba:aF->jf}{m:aF->Nat}{rd:Src aF}{dy:TypeId}{ce sv:N}{s:aF}{w w':M}{O:Nat->Prop}
def iI(ba:aF->jf)(eR d':Nat)(s:aF)(dZ:List Pt)(dP:List (Nat×Pt)):jf:=rI (ba s) (rI (aj6 eR dZ) (aj7 d' dP))
theorem iI.ok(aT:∀s,kB (ba s))(eR d':Nat)(s:aF)(dZ:List Pt)(dP:List (Nat×Pt)):kB (iI ba eR d' s dZ dP):=rI.ok (aT s) (rI.ok (oG.ok _ _ _ _ _ _) (oG.ok _ _ _ _ _ _))
abbrev ab7(eR:Nat):N:=.func (.func 151) #[] #[az eR]
abbrev ab8(d':Nat):N:=.func (.func 152) #[] #[az d']
theorem iI.avj{eR d':Nat}{dZ:List Pt}{dP:List (Nat×Pt)}(aT:∀s,kB (ba s))(h:iI ba eR d' s dZ dP w O)(p:Pt)(ok:cc p)(ak:dZ.length<=1000000){K:N->M->Prop}(fW:∀v' w',iI ba eR d' s (dZ++[p]) dP w' (aE O w w')->H O w w'->K v' w'):
  An prog (ab7 eR) [.agg (ae p)] w K:=by
 have oC:∀(x:List N) (w:M),(callFunc 151 x.toArray).run prog w=.ok (.enter 151 x.toArray) w:=λx w=>by simp[go_sem]
 rw[EJ _ _ _ _ [az eR] _ (oC _ _)];refine(rI.ad0 h (aT s) (rI.ok (oG.ok _ _ _ _ _ _) (oG.ok _ _ _ _ _ _)) λgK J _=>rI.ama (R:=λ_ _=>True) J (oG.ok _ _ _ _ _ _) (oG.ok _ _ _ _ _ _) (oG.ok _ _ _ _ _ _) λka T _=>aNM T p ok ak).mono ?_;rintro v' w' ⟨_,a,b⟩;exact fW v' w' a b
theorem iI.agY{eR d':Nat}{dZ:List Pt}{dP:List (Nat×Pt)}(aT:∀s,kB (ba s))(h:iI ba eR d' s dZ dP w O)(x:Nat×Pt)(ok:nU x)(ak:dP.length<=1000000){K:N->M->Prop}(fW:∀v' w',iI ba eR d' s dZ (dP++[x]) w' (aE O w w')->H O w w'->K v' w'):
  An prog (ab8 d') [.int .u32 x.1,.agg (ae x.2)] w K:=by
 have oC:∀(x:List N) (w:M),(callFunc 152 x.toArray).run prog w=.ok (.enter 152 x.toArray) w:=λx w=>by simp[go_sem]
 rw[EJ _ _ _ _ [az d'] _ (oC _ _)];refine(rI.ad0 h (aT s) (rI.ok (oG.ok _ _ _ _ _ _) (oG.ok _ _ _ _ _ _)) λgK J _=>rI.ad0 (R:=λ_ _=>True) J (oG.ok _ _ _ _ _ _) (oG.ok _ _ _ _ _ _) λka T _=>aNN T x ok ak).mono ?_;rintro v' w' ⟨_,a,b⟩;exact fW v' w' a b
theorem iI.In{eR d':Nat}{dZ:List Pt}{dP:List (Nat×Pt)}(h:iI ba eR d' s dZ dP w O):∃gK,ba s w gK:=by
 obtain⟨gK,_,J,_⟩:=h;exact⟨gK,J⟩
theorem iI.xS{eR d':Nat}{dZ:List Pt}{dP:List (Nat×Pt)}(aA:pL ba m rd (.iface dy ce))(aC:16<=m s)(aT:∀s,kB (ba s))(h:iI ba eR d' s dZ dP w O)(p:Pt)(ok:cc p)(cv:hI w)(aH:iO ba O):
  bc prog 198 #[.iface dy ce,.agg (ae p)] w λv' w'=>v'=.tuple #[.agg (cn (cM rd s p).2.1),aa (cM rd s p).2.2]/\iI ba eR d' (cM rd s p).1 dZ dP w' (aE O w w')/\H O w w':=
 rI.ama h (aT s) (rI.ok (oG.ok _ _ _ _ _ _) (oG.ok _ _ _ _ _ _)) (aT _) λgK J eZ=>YA aA aC aT J p ok cv (aH.mono eZ)
theorem aNP(aA:pL ba m rd (.iface dy ce))(aC:144<=m s)(aT:∀s,kB (ba s)){eR d':Nat}(h:iI ba eR d' s [] [] w O)(p:Pt)(ok:cc p)(cv:hI w)(aH:iO ba O):
  bc prog 150 #[.iface dy ce,.agg (ae p),ab7 eR,ab8 d'] w λv' w'=>v'=aa (l_ rd s p).2.2.2/\iI ba eR d' (l_ rd s p).1 (l_ rd s p).2.2.1 (l_ rd s p).2.1 w' (aE O w w')/\H O w w':=by
 refine bz func150 ntmps150 λbk af=> ?_;have de:=cd ok;have da:=ef ok;have ga:=(iI.ok aT eR d' s [] []).lt h;have ff:∀j,w.1.size<=j->¬O j:=λj I e=>by have:=ga j e;omega
 have aU:=(H.refl al w).alloc (.cells (ae p) 44);have bu:=cr w (.cells (ae p) 44);have fq:=cv.ch aU λ_ _ e=>e;have J:=(iI.ok aT eR d' s [] []).ch h aU λ_ _ e=>e;have gZ:(w.alloc (.cells (ae p) 44)).1.size=w.1.size+1:=by simp
 have tk:∀w,(Op.equalIn 10000 44 (.agg (ae p)) (.agg (ae ah))).run prog w=.ok (decide (p=ah)) w:=λw=>tc w ok cH;obtain⟨ai,dx⟩:=aD (w.alloc (.cells (ae p) 44));rw[dx]at aU bu fq J gZ;simp[go_sem,de,da,dx];obtain⟨g,lp⟩:=aD (w.1.size);rw[lp]at bu gZ ff⊢;clear dx;obtain⟨cs,bv,fr,aN,W,hz⟩:=id fq.nO;have bU:∀{Y:M} {x:aF×List (Nat×Pt)×List Pt×Int},l_ rd s p=x->iI ba eR d' x.1 x.2.2.1 x.2.1 Y (aE O ai Y)->H O ai Y->bk (aa x.2.2.2) Y:=λ{Y x} e a c=>by
  subst e;have JP:=c.size;exact af _ _ ⟨rfl,(iI.ok aT _ _ _ _ _).eK a (λk r=>r.imp id λe=>⟨by omega,e.2⟩) (aE.lt ga (by omega)),(aU.mono λ_ _ e=>e.elim).trans c⟩
 clear af;have fb:∀k,O k->k<ai.1.size:=λk r=>by have:=ga k r;omega
 by_cases am:p=ah
 ·have bj:l_ rd s p=(s,[],[],0):=by unfold l_;rw[be am]
  subst am;simp[go_sem,bu,de,da,aN,W,hz,tk];exact bU bj ((iI.ok aT _ _ _ _ _).eK J (λk r=>.inl r) (aE.lt fb (c_ _))) (H.refl _ _)
 ·have bj:l_ rd s p=if(cM rd s p).2.2≠0 then((cM rd s p).1,[],[p],(cM rd s p).2.2)else mO rd (cM rd s p).2.1 (List.range 8) (cM rd s p).1 [] [p]:=by unfold l_;rw[aQ am]
  simp[go_sem,bu,de,da,aN,W,hz,tk,am];refine iI.avj aT J p ok (by simp) λhk an T aK=> ?_;have kg:=aK.size;have mj:=aH.cv fq aK T.In λ_ _ e=>e;have jU:=aK.obj bu (ff g (c_ _));have qN:iO ba (aE O ai an):=aH.cN fq;have zx:=ED aA s p;simp[go_sem,jU,de,da];refine(iI.xS aA (by omega) aT T p ok mj qN).mono ?_;rintro _ aJ ⟨rfl,ag,aI⟩;have mC:=Jl rd s p;obtain⟨⟨iC,DO,dB⟩,aNQ⟩:∃bv,cM rd s p=bv:=⟨_,rfl⟩;rw[aNQ]at mC ag bj zx⊢;simp only at mC ag bj zx⊢;have CA:=ll mC;have EF:=se mC;have VL:=aI.size;have kn:=qN.cv mj aI ag.In λ_ _ e=>e;have bo:=(H.refl al aJ).alloc (.cells (cn DO) 339);have cI:=cr aJ (.cells (cn DO) 339);have wV:=kn.ch bo λ_ _ e=>e;have aP:=(iI.ok aT _ _ _ _ _).ch ag bo λ_ _ e=>e;simp[go_sem,uh,ui,CA,EF,ll rA,bS];obtain⟨cy,zT⟩:=aD (aJ.1.size);rw[zT]at cI⊢;have Dp:=bo.size;have HJ:H O ai (aJ.alloc (.cells (cn DO) 339)):=(aK.bZ aI λk r e=>e.elim id λe=>by omega).trans (bo.mono λ_ _ e=>e.elim);generalize aJ.alloc (.cells (cn DO) 339)=bs at*;have aP:iI ba eR d' iC [p] [] bs (aE O ai bs):=(iI.ok aT _ _ _ _ _).eK aP (λk r=>by
   rcases r with(r|r)|r
   ·exact .inl r
   ·exact .inr ⟨r.1,by omega⟩
   ·exact .inr ⟨by omega,by omega⟩) (aE.lt fb (by omega))
  by_cases aV:dB=0
  ·subst aV;rw[aQ (by simp)]at bj;simp[go_sem,cI,CA,EF];have YW:ai.1.size<=bs.1.size:=by omega
   refine di (λV f u=>∃(i:Nat) (s':aF) (dP:List (Nat×Pt)) (dZ:List Pt),V=8 - i/\i<=8/\f 0=.iface dy ce/\f 2=ab7 eR/\f 3=ab8 d'/\f 32=.agg (cn DO)/\f 33=aa i/\mO rd DO (List.range 8) iC [] [p]=mO rd DO ((List.range 8).drop i) s' dP dZ
     /\dZ.length<=i+1/\dP.length<=8*i/\16*(8 - i)<=m s'/\iI ba eR d' s' dZ dP u (aE O ai u)/\H O ai u/\bs.1.size<=u.1.size) 8
    ⟨0,iC,[],[p],rfl,by omega,by simp,by simp,by simp,by simp,by simp,rfl,by simp,by simp,by omega,aP,HJ,c_ _⟩ ?_
   rintro cQ bJ _ f u ⟨i,s',dP,dZ,rfl,ad,f0,bg,bR,DN,Ll,Ar,o_,GS,xo,ap,aS,EP⟩;have pn:=aH.cv fq aS ap.In λ_ _ e=>e;have rX:iO ba (aE O ai u):=aH.cN fq;by_cases aO:i<8
   ·have asA:(i:Int)<8:=by omega
    obtain⟨q,au⟩:∃q,DO[i]? =some q:=⟨_,d_ (by rw[mC.len];exact aO)⟩;have ov:=mC.all _ (ib au);have ajS:DO.getD i ah=q:=by rw[lk,au];rfl
    have pB:=adh mC aO au;have Bk:=cd ov;have wK:=ef ov;have eQ:IntKind.i64.wrap ((i:Int)+1)=((i+1:Nat):Int):=by rw[cz];omega
    rw[aNO aO,mO,ajS]at Ar;have bE:=(H.refl al u).alloc (.cells (ae q) 44);have dG:=cr u (.cells (ae q) 44);have rf:=pn.ch bE λ_ _ e=>e;have bH:=(iI.ok aT _ _ _ _ _).ch ap bE λ_ _ e=>e;have avk:(u.alloc (.cells (ae q) 44)).1.size=u.1.size+1:=by simp
    obtain⟨bD,qq⟩:=aD (u.alloc (.cells (ae q) 44));rw[qq]at bE dG rf bH avk;simp[go_sem,Ll,DN,asA,pB,gO,gP,Bk,wK,cd cH,bS,qq];obtain⟨cO,ae8⟩:=aD (u.1.size);rw[ae8]at dG avk⊢;clear qq;have avl:∀w,(Op.equalIn 10000 44 (.agg (ae q)) (.agg (ae ah))).run prog w=.ok (decide (q=ah)) w:=λw=>tc w ov cH;obtain⟨Qz,asR,asS,MT,Ac,Kq⟩:=id rf.nO;have NR:iI ba eR d' s' dZ dP bD (aE O ai bD):=(iI.ok aT _ _ _ _ _).eK bH (λk r=>r.imp id λe=>⟨e.1,by omega⟩) (aE.lt fb (by omega));have HT:H O ai bD:=aS.trans (bE.mono λ_ _ e=>e.elim);have xY:¬aE O ai u cO:=λe=>e.elim (ff cO (by omega)) λe=>by omega
    by_cases DK:q=ah
    ·rw[be DK]at Ar;subst DK;simp[go_sem,dG,Bk,wK,MT,Ac,Kq,avl,Ll,eQ];exact ct.intro (8 -(i+1)) (by omega) (bJ _ _ _ ⟨i+1,s',dP,dZ,rfl,by omega,by simp[f0],by simp[bg],by simp[bR],by simp[DN],by simp,Ar,by omega,by omega,by omega,NR,HT,by omega⟩)
    ·rw[aQ DK]at Ar;simp[go_sem,dG,Bk,wK,MT,Ac,Kq,avl,DK,bg];refine iI.avj aT bH q ov (by omega) λoy cD cS cF=> ?_;have zM:=cF.size;have gj:=cF.obj dG xY;have Ak:=rX.cv rf cF cS.In λ_ _ e=>e;have vG:iO ba (aE (aE O ai u) bD cD):=rX.cN rf;have avm:=ED aA s' q;simp[go_sem,gj,Bk,wK,f0];refine(iI.xS aA (by omega) aT cS q ov Ak vG).mono ?_;rintro _ cE ⟨rfl,fi,dE⟩;have rq:=Jl rd s' q;obtain⟨⟨iy,s_,hX⟩,WA⟩:∃bv,cM rd s' q=bv:=⟨_,rfl⟩;rw[WA]at rq fi Ar avm⊢;simp only at rq fi Ar avm⊢;have Lk:=ll rq;have Ob:=se rq;have BF:=dE.size;have aj5:=vG.cv Ak dE fi.In λ_ _ e=>e;have ds:=(H.refl al cE).alloc (.cells (cn s_) 339);have jI:=cr cE (.cells (cn s_) 339);have ab6:=aj5.ch ds λ_ _ e=>e;have er:=(iI.ok aT _ _ _ _ _).ch fi ds λ_ _ e=>e;simp[go_sem,uh,ui,Lk,Ob,ll rA,bS];obtain⟨eG,vp⟩:=aD (cE.1.size);rw[vp]at jI⊢;have PT:=ds.size;have aNR:H O ai cE:=(HT.bZ cF λk r e=>e.elim id λe=>by omega).bZ dE λk r e=>e.elim (λe=>e.elim id λe=>by omega) λe=>by omega
     have avn:H O ai (cE.alloc (.cells (cn s_) 339)):=aNR.trans (ds.mono λ_ _ e=>e.elim);generalize cE.alloc (.cells (cn s_) 339)=ec at*;have er:iI ba eR d' iy (dZ++[q]) dP ec (aE O ai ec):=(iI.ok aT _ _ _ _ _).eK er (λk r=>by
      rcases r with((r|r)|r)|r
      ·exact .inl r
      ·exact .inr ⟨r.1,by omega⟩
      ·exact .inr ⟨by omega,by omega⟩
      ·exact .inr ⟨by omega,by omega⟩) (aE.lt fb (by omega))
     by_cases ri:hX=0
     ·subst ri;rw[aQ (by simp)]at Ar;simp[go_sem,jI,Lk,Ob];refine di (λV f u=>∃(k:Nat),V=8 - k/\k<=8/\f 0=.iface dy ce/\f 2=ab7 eR/\f 3=ab8 d'/\f 32=.agg (cn DO)/\f 33=aa i/\f 11=aa i/\f 52=.agg (cn s_)/\f 53=aa k
        /\iI ba eR d' iy (dZ++[q]) (dP++Aq i s_ k) u (aE O ai u)/\H O ai u/\bs.1.size<=u.1.size) 8
       ⟨0,rfl,by omega,by simp[f0],by simp[bg],by simp[bR],by simp[DN],by simp[Ll],by simp,by simp,by simp,by simpa[Aq]using er,avn,by omega⟩ ?_
      rintro vq jR _ f cq ⟨k,rfl,r,f0,bg,bR,DN,Ll,gC,Mr,Nl,vr,kJ,aTT⟩;by_cases jM:k<8
      ·have mT:(k:Int)<8:=by omega
       obtain⟨x,W⟩:∃x,s_[k]? =some x:=⟨_,d_ (by rw[rq.len];exact jM)⟩;have cG:=rq.all _ (ib W);have Kz:s_.getD k ah=x:=by rw[lk,W];rfl
       have aNS:=adh rq jM W;have eF:=cd cG;have fN:=ef cG;have ej:IntKind.i64.wrap ((k:Int)+1)=((k+1:Nat):Int):=by rw[cz];omega
       have CP:IntKind.i64.wrap ((i:Int)*8)=((8*i:Nat):Int):=by rw[cz];omega
       have j_:IntKind.i64.wrap (8*(i:Int)+k)=8*(i:Int)+k:=by rw[cz];omega
       have KB:IntKind.u32.wrap (8*(i:Int)+k)=8*(i:Int)+k:=by simp[IntKind.wrap,IntKind.bits,IntKind.signed];omega
       have avo:∀w,(Op.equalIn 10000 44 (.agg (ae x)) (.agg (ae ah))).run prog w=.ok (decide (x=ah)) w:=λw=>tc w cG cH;have dV:=(H.refl al cq).alloc (.cells (ae x) 44);have qj:=cr cq (.cells (ae x) 44);have Rw:=(aH.cv fq kJ vr.In λ_ _ e=>e).ch dV λ_ _ e=>e;have ir:=(iI.ok aT _ _ _ _ _).ch vr dV λ_ _ e=>e;have avp:(cq.alloc (.cells (ae x) 44)).1.size=cq.1.size+1:=by simp
       have Wx:H O ai (cq.alloc (.cells (ae x) 44)):=kJ.trans (dV.mono λ_ _ e=>e.elim);obtain⟨db,FO⟩:=aD (cq.alloc (.cells (ae x) 44));rw[FO]at dV qj Rw ir avp Wx;simp[go_sem,Mr,Nl,mT,aNS,gO,gP,eF,fN,cd cH,bS,FO];obtain⟨Jv,aNT⟩:=aD (cq.1.size);rw[aNT]at qj avp⊢;clear FO;obtain⟨aTU,au5,anS,avq,xI,avr⟩:=id Rw.nO;have aNU:iI ba eR d' iy (dZ++[q]) (dP++Aq i s_ k) db (aE O ai db):=(iI.ok aT _ _ _ _ _).eK ir (λk r=>r.imp id λe=>⟨e.1,by omega⟩) (aE.lt fb (by omega));by_cases Lg:x=ah
       ·have aL:Aq i s_ (k+1)=Aq i s_ k:=by rw[avh,Kz,be Lg,va]
        subst Lg;simp[go_sem,qj,eF,fN,avq,xI,avr,avo,Nl,ej];exact ct.intro (8 -(k+1)) (by omega) (jR _ _ _ ⟨k+1,rfl,by omega,by simp[f0],by simp[bg],by simp[bR],by simp[DN],by simp[Ll],by simp[gC],by simp[Mr],by simp,by rw[aL];exact aNU,Wx,by omega⟩)
       ·have aL:dP++Aq i s_ (k+1)=(dP++Aq i s_ k)++[(8*i+k,x)]:=by rw[avh,Kz,aQ Lg,nv]
        have ox:=avi i s_ k;simp[go_sem,qj,eF,fN,avq,xI,avr,avo,Lg,bR,gC,Nl,CP,j_,KB];have aeO:¬aE O ai cq Jv:=λe=>e.elim (ff Jv (by omega)) λe=>by omega
        have lj:nU (8*i+k,x):=⟨by show 8*i+k<_;omega,cG⟩;have aNV:(8*(i:Int)+k)=((8*i+k:Nat):Int):=by omega
        rw[aNV];refine iI.agY aT ir (8*i+k,x) lj (by grind) λawr nz ix nd=> ?_;have aM_:=nd.size;have ab0:H O ai nz:=Wx.bZ nd λk r e=>e.elim id λe=>by omega
        have SC:iI ba eR d' iy (dZ++[q]) (dP++Aq i s_ (k+1)) nz (aE O ai nz):=by
         rw[aL];exact(iI.ok aT _ _ _ _ _).eK ix (λk r=>by
          rcases r with(r|r)|r
          ·exact .inl r
          ·exact .inr ⟨r.1,by omega⟩
          ·exact .inr ⟨by omega,by omega⟩) (aE.lt fb (by omega))
        simp[go_sem,Nl,ej];exact ct.intro (8 -(k+1)) (by omega) (jR _ _ _ ⟨k+1,rfl,by omega,by simp[f0],by simp[bg],by simp[bR],by simp[DN],by simp[Ll],by simp[gC],by simp[Mr],by simp,SC,ab0,by omega⟩)
      ·obtain rfl:k=8:=by omega
       simp[go_sem,Nl,Ll,eQ];exact ct.intro (8 -(i+1)) (by omega) (bJ _ _ _ ⟨i+1,iy,dP++xk i s_,dZ++[q],rfl,by omega,by simp[f0],by simp[bg],by simp[bR],by simp[DN],by simp,Ar,by simp;omega,by
        have:=avi i s_ 8;rw[kR,show xk i s_=Aq i s_ 8 from rfl];omega,by omega,vr,kJ,by omega⟩)
     ·rw[be ri]at Ar;have WD:(hX==0)=false:=hv ri;simp[go_sem,ri,WD,bne];exact bU (x:=(iy,dP,dZ++[q],hX)) (bj.trans Ar) er avn
   ·obtain rfl:i=8:=by omega
    have Ar:mO rd DO (List.range 8) iC [] [p]=(s',dP,dZ,0):=Ar;simp[go_sem,Ll];exact bU (x:=(s',dP,dZ,0)) (bj.trans Ar) ap aS
  ·rw[be aV]at bj;have qW:(dB==0)=false:=hv aV;simp[go_sem,aV,qW,bne];exact bU bj aP HJ
def aNW(ba:aF->jf)(w:M)(O:Nat->Prop)(x:aF×List (Nat×Pt)×List Pt×Int)(v':N)(w':M):Prop:=
 ∃mc y_ O',v'=.tuple #[mc,y_,aa x.2.2.2]/\w'.ownsRow 0 229 42 mc x.2.1.length (ei ft x.2.1)/\w'.ownsRow 0 44 41 y_ x.2.2.1.length (ei ae x.2.2.1)/\ba x.1 w' O'/\(∀k,O' k->aE O w w' k)/\
  (∀k,mc.ownBlock=some k->¬O' k/\w.1.size<=k)/\(∀k,y_.ownBlock=some k->¬O' k/\w.1.size<=k)/\H O w w'
theorem aAH(aA:pL ba m rd (.iface dy ce))(aC:144<=m s)(aT:∀s,kB (ba s))(h:ba s w O)(p:Pt)(ok:cc p)(cv:hI w)(aH:iO ba O):
  bc prog 98 #[.iface dy ce,.agg (ae p)] w (aNW ba w O (lS rd s p)):=by
 refine bz func98 ntmps98 λbk af=> ?_;have de:=cd ok;have da:=ef ok;have ga:=(aT s).lt h;have ff:∀j,w.1.size<=j->¬O j:=λj I e=>by have:=ga j e;omega
 have aU:=(H.refl al w).alloc (.cells (ae p) 44);have bu:=cr w (.cells (ae p) 44);have fq:=cv.ch aU λ_ _ e=>e;simp[go_sem,de,da];obtain⟨g,lp⟩:=aD (w.1.size);rw[lp]at bu ff⊢;have gZ:=aU.size;generalize w.alloc (.cells (ae p) 44)=ai at*;have avs:∀{Y:M} {e:Int} {s':aF},lS rd s p=(s',[],[],e)->ba s' Y (aE O w Y)->H O w Y->bk (.tuple #[.slice none 0 0,.slice none 0 0,aa e]) Y:=λ{Y e s'} aL a c=>by
  refine af _ _ ?_;rw[aL];exact⟨_,_,_,rfl,pA _ _ _ _,pA _ _ _ _,a,λk r=>r,λk r=>by simp[Value.ownBlock]at r,λk r=>by simp[Value.ownBlock]at r,c⟩
 refine(ad2 p ai ok fq).mono ?_;rintro _ an ⟨rfl,aK⟩;have gx:=aU.trans aK;have jU:=aK.obj bu id;have T:=(aT s).ch h gx λ_ _ e=>e;have kg:=gx.size
 cases EQ:uu p with
 |false=>
  simp[go_sem];exact avs (by unfold lS;rw[EQ];rfl) ((aT _).eK T (λk r=>.inl r) (aE.lt ga kg)) (gx.mono λ_ _ e=>e.elim)
 |true=>
  have bj:lS rd s p=if(l_ rd s p).2.2.2≠0 then((l_ rd s p).1,[],[],(l_ rd s p).2.2.2)else l_ rd s p:=by unfold lS;rw[EQ];rfl
  have bo:=((H.refl al an).alloc (.cells #[.slice none 0 0] 223)).alloc (.cells #[.slice none 0 0] 87);have kk:=oF an (.cells #[.slice none 0 0] 223) (.cells #[.slice none 0 0] 87);have jI:=nM an (.cells #[.slice none 0 0] 223) (.cells #[.slice none 0 0] 87);have aNX:((an.alloc (.cells #[.slice none 0 0] 223)).alloc (.cells #[.slice none 0 0] 87)).1.size=an.1.size+2:=by simp
  have n_:=bo.obj jU id;have aP:=(aT s).ch T bo λ_ _ e=>e;have wV:=(fq.ch aK λ_ _ e=>e).ch bo λ_ _ e=>e;have HJ:=gx.trans bo;simp[go_sem,n_,jU,de,da];obtain⟨jp,aNY⟩:=aD (an.1.size);rw[aNY]at kk jI aNX⊢;generalize(an.alloc (.cells #[.slice none 0 0] 223)).alloc (.cells #[.slice none 0 0] 87)=bs at*;have EN:∀k,(O k\/k=jp\/k=jp+1)->k<bs.1.size:=λk r=>by
   grind
  have gY:iI ba (jp+1) jp s [] [] bs (λk=>O k\/k=jp\/k=jp+1):=by
   refine⟨O,λk=>k=jp\/k=jp+1,aP,⟨aj (jp+1),aj jp,oG.ame jI rfl (λk r=>by simp only[aj]at r;omega),oG.ame kk rfl (λk r=>by simp only[aj]at r;omega),λk r e=>by simp only[aj]at r e;omega,λk r=>by simp only[aj]at r;omega,λk r=>EN k (.inr r)⟩,λk r e=>ff k (by omega) r,λk r=>r,EN⟩
  have aNZ:iO ba (λk=>O k\/k=jp\/k=jp+1):=aH.imp (λaH k r e=>by
   rcases e with e|e
   ·exact aH k r e
   ·have:=cv.lt k r;omega) id
  refine(aNP aA aC aT gY p ok wV aNZ).mono ?_;rintro _ bD ⟨rfl,bH,bE⟩;obtain⟨⟨kV,avt,avu,gL⟩,aN0⟩:∃bv,l_ rd s p=bv:=⟨_,rfl⟩;rw[aN0]at bH bj⊢;have bH:iI ba (jp+1) jp kV avu avt bD (aE (λk=>O k\/k=jp\/k=jp+1) bs bD):=bH;have EU:=bE.size;have mH:H O w bD:=(HJ.mono λ_ _ e=>e.elim).bZ bE λk r e=>by
   rcases e with e|e
   ·exact e
   ·omega
  obtain⟨gK,ka,a1,⟨rh,avv,a3,a4,Pu,avw,_⟩,avx,alT,_⟩:=bH;have avy:∀k,gK k->aE O w bD k:=λk r=>by
   rcases alT k (.inl r)with(r|r)|r
   ·exact .inl r
   ·exact .inr ⟨by omega,by omega⟩
   ·exact .inr ⟨by omega,by omega⟩
  by_cases aV:gL=0
  ·subst aV;rw[aQ (by simp)]at bj;obtain⟨y_,Ag,TF,qR,aTV,aN1,_⟩:=a3;obtain⟨mc,eC,TE,td,AY,aN2,_⟩:=a4;obtain⟨yd,xH,aN3,_⟩:=bC.fF TF;obtain⟨aun,hB,aN4,_⟩:=bC.fF TE;subst aN3 aN4;have oU:bD.cell? (bl jp 0)=some (.slice aun avt.length hB):=aG eC 0;have pZ:bD.cell? ⟨jp+1,0,none⟩=some (.slice yd avu.length xH):=aG Ag 0;simp[go_sem];refine cT [F 0,F 1,F 2,F 3,F 4] ?_;simp[go_sem,oU,pZ];refine af _ _ ?_;rw[bj];exact⟨_,_,gK,rfl,TE,TF,(aT _).ch a1 (H.refl al bD).drew λ_ _ e=>e,avy,λk r=>⟨λe=>avx k e (avw k (.inr (aN2 k r))),by have:=td k r;omega⟩,λk r=>⟨λe=>avx k e (avw k (.inl (aN1 k r))),by have:=qR k r;omega⟩,mH.drew⟩
  ·rw[be aV]at bj;have qW:(gL==0)=false:=hv aV;simp[go_sem,aV,qW,bne];exact avs bj ((aT _).eK a1 avy (aE.lt ga (by omega))) mH
end
end Go.Proofs.YtoohkhcpboldjaaGreatDoor
