/- CommitTells answers true for every input. Condition: the listed package variables hold what the text lays. (Printed by genCtQ.py.) -/
import Derived.Test.YtoohkhcpboldjaaGreatDoorRows
import Derived.Test.YtoohkhcpboldjaaGreatDoorCards
import Derived.Test.YtoohkhcpboldjaaGreatDoorTie
import Derived.Test.YtoohkhcpboldjaaGreatDoorMeD
import Derived.ProofKit
import Derived.LaidSub
import Derived.LaidHandle
import Derived.SevenTiedAt
set_option maxRecDepth 1000000
set_option maxHeartbeats 100000000
set_option linter.unusedSimpArgs false
set_option linter.unusedVariables false
namespace Go.Proofs.YtoohkhcpboldjaaGreatDoor
open Go.ChangeShapes Go.WideShapes Go.ChangeAt Go.RowKit Go.Kin Go.Proofs.Tryz
theorem own:ownKnob prog.godebug=none:=by kernel_rfl
theorem aw4:laidOutB prog=true:=by kernel_rfl
theorem aw5:prog.globalNamed "kintsugi/ptr.wide"=some 0:=by kernel_rfl
theorem aw6:(prog.globals[(0:Nat)]?).map (·.type)=some 328:=by kernel_rfl
theorem aw7{P:Program}{ps:Array TypeId}(h:(ps.toList.all λt=> !P.wantsStandIn t)=true)(j:Nat)(t:TypeId)(bj:ps[j]? =some t):P.wantsStandIn t=false:=by
 grind
def XY:List Int:=[1116352408,1899447441,3049323471,3921009573,961987163,1508970993,2453635748,2870763221,3624381080,310598401,607225278,1426881987,1925078388,2162078206,2614888103,3248222580,3835390401,4022224774,264347078,604807628,770255983,1249150122,1555081692,1996064986,2554220882,2821834349,2952996808,3210313671,3336571891,3584528711,113926993,338241895,666307205,773529912,1294757372,1396182291,1695183700,1986661051,2177026350,2456956037,2730485921,2820302411,3259730800,3345764771,3516065817,3600352804,4094571909,275423344,430227734,506948616,659060556,883997877,958139571,1322822218,1537002063,1747873779,1955562222,2024104815,2227730452,2361852424,2428436474,2756734187,3204031479,3329325298]
theorem aw8:XY=LQ.map λn:Nat=>(n:Int):=by decide+kernel
theorem aw9:prog.globalNamed "kintsugi/sha.constants"=some 3:=by kernel_rfl
theorem aw_:(prog.globals[(3:Nat)]?).map (·.type)=some 407:=by kernel_rfl
theorem aw'{ba:Type}:(Rows.laid_kintsugi_sha_constants:DataW ba)=.agg (XY.map λz=>.lit (.int .u32 z)):=rfl
theorem axa:prog.globalNamed "kintsugi/inode.leaves"=some 1:=by kernel_rfl
theorem axb:(prog.globals[(1:Nat)]?).map (·.type)=some 336:=by kernel_rfl
section
variable {ba:Type}{enc:TypeId×N->ba}{P:Program}{Y:M}{base:Nat}{lG:Nat->Bool}{held:Bool}{eX:Nat}{cs:List N}{x:DataW ba×List MemPlace}
theorem OW{t:TypeId}{k:IntKind}(aV:P.underlying t=some (.int k))(h:DataW.trod enc P Y base lG held eX t cs=some x)(W:x.1=.lit (.int k 0)):cs=[.int k 0]:=by
 obtain⟨n,rfl,rfl,_⟩:=Xr aV h;simp at W;rw[W]
theorem alp{t e:TypeId}{n:Nat}{k:IntKind}(bj:P.underlying t=some (.array n e))(aV:P.underlying e=some (.int k))(Z:P.cellsOf e=1)(aq:P.cellsOf t=n)(h:DataW.trod enc P Y base lG held eX t cs=some x)(W:x.1=.agg (List.replicate n (.lit (.int k 0)))):cs=List.replicate n (.int k 0):=by
 obtain⟨xs,m,_,rfl,ak,lj,ad⟩:=DataW.trod_array bj h;simp at W;apply yM;intro i;by_cases fo:i<n
 ·have:=ad i fo;rw[Z,Sc,d_ (by omega)]at this;have aL:(xs[i]'(by omega)).1=.lit (.int k 0):=by
   have T:=yN (λl=>l[i]?) W;simp only[oo,DW,be fo]at T;rw[d_ (by omega)]at T;simpa using T
  have ag:=OW aV this aL;have aP:((cs.drop i).take 1)[0]? =some (.int k 0):=by rw[ag];rfl
  grind
 grind
end
theorem alq:prog.globalNamed "kintsugi/tree.hole"=some 2:=by kernel_rfl
theorem axc:(prog.globals[(2:Nat)]?).map (·.type)=some 44:=by kernel_rfl
theorem axd:(ae ah).toList=[.int .u8 0,.int .u8 0,.int .u16 0,.int .u32 0,.int .u64 0]++(List.replicate 32 (.int .u8 0)++List.replicate 4 (.int .u16 0)):=by rfl
section
variable {ba:Type}{enc:TypeId×N->ba}{Y:M}{base:Nat}{lG:Nat->Bool}{held:Bool}{eX:Nat}{cs:List N}{x:DataW ba×List MemPlace}
theorem axe(h:DataW.trod enc prog Y base lG held eX 44 cs=some x)(W:x.1=Rows.laid_kintsugi_tree_hole):cs=(ae ah).toList:=by
 obtain⟨xs,m,_,rfl,ak,lj,bP⟩:=Xs underlying44 h;have Z:prog.cellsOf 44=41:=by kernel_rfl
 rw[Z]at ak
 match xs,lj with
 |[tl,fh,fv,iY,oz,rB,IS],_=>
  have f0:=bP 0 _ rfl;have aW:=bP 1 _ rfl;have bg:=bP 2 _ rfl;have bR:=bP 3 _ rfl;have ck:=bP 4 _ rfl;have f5:=bP 5 _ rfl;have f6:=bP 6 _ rfl;unfold Rows.laid_kintsugi_tree_hole at W;simp only[oq,OF,DataW.agg.injEq,List.cons.injEq,and_true]at W;obtain⟨kx,es,cX,iq,vk,Ej,IT⟩:=W;have ds:prog.cellsOf 5=1:=by kernel_rfl
  have wp:prog.cellsOf 39=1:=by kernel_rfl
  have Ck:prog.cellsOf 40=1:=by kernel_rfl
  have SB:prog.cellsOf 38=1:=by kernel_rfl
  have gv:prog.cellsOf 41=32:=by kernel_rfl
  have Ek:prog.cellsOf 42=4:=by kernel_rfl
  have r:(cs.drop 0).take (prog.cellsOf 5)=_:=OW underlying5 f0 kx;have hU:(cs.drop 1).take (prog.cellsOf 5)=_:=OW underlying5 aW es;have av:(cs.drop 2).take (prog.cellsOf 39)=_:=OW underlying39 bg cX;have LR:(cs.drop 3).take (prog.cellsOf 40)=_:=OW underlying40 bR iq;have ab:(cs.drop 4).take (prog.cellsOf 38)=_:=OW underlying38 ck vk;have IU:(cs.drop 5).take (prog.cellsOf 41)=_:=alp underlying41 underlying5 ds gv f5 Ej;have mf:(cs.drop 37).take (prog.cellsOf 42)=_:=alp underlying42 underlying39 wp Ek f6 IT;rw[ds]at r hU;rw[wp]at av;rw[Ck]at LR;rw[SB]at ab;rw[gv]at IU;rw[Ek]at mf;have st:∀i j,(cs.drop i).take j++cs.drop (i+j)=cs.drop i:=λi j=>by rw[<-ru,FV]
  have aL:cs=(cs.drop 0).take 1++((cs.drop 1).take 1++((cs.drop 2).take 1++((cs.drop 3).take 1++((cs.drop 4).take 1++((cs.drop 5).take 32++(cs.drop 37).take 4))))):=by
   rw[mP (i:=4) (by simp;omega),st 5 32,st 4 1,st 3 1,st 2 1,st 1 1,st 0 1,Xt]
  rw[aL,r,hU,av,LR,ab,IU,mf,axd];rfl
end
theorem axf{w:M}(h:laidMet prog [("kintsugi/tree.hole",Rows.laid_kintsugi_tree_hole)] w):alr w:=by
 obtain⟨ps,⟨nE,eP,cs,eX,p,q,J,T,ag,aP,_⟩,_⟩:=h;rw[alq]at J;obtain rfl:=sb J;rw[axc]at T;obtain rfl:=sb T;have fd:=axe aP rfl;have ak:fC w (.slice (some ⟨2,0,none⟩) 1 1) (λp=>(ae p).toList) 41 [ah]:=by
  have mR:∀i u,(ae ah).toList[i]? =some u->w.cell? (bl 2 i)=some u:=λi u ap=>by
   rw[World.var?_cell alq ag i,<-ap,<-fd];simp
  refine⟨_,1,rfl,c_ _,by decide,λ_=>⟨_,_,rfl,xC w _ (mR 0 _ rfl),λj a i u I ap=> ?_⟩⟩
  cases j with
  |zero=>
   grind
  |succ j=>simp at I
 obtain⟨b,off,c,yU,bv,fr,e,ab,W,hz⟩:=ak.OX (by decide) (λq au=>by simp at au;subst au;exact cd cH) (i:=0) rfl;injection e with aL _ _;injection aL with aL;injection aL with aR dB;subst aR dB;exact⟨yU,bv,fr,ab,by simpa using W,by simpa using hz⟩
section
variable {ba:Type}{enc:TypeId×N->ba}{Y:M}{base:Nat}{lG:Nat->Bool}{held:Bool}{eX:Nat}{cs:List N}{x:DataW ba×List MemPlace}
theorem axg(h:DataW.trod enc prog Y base lG held eX 44 cs=some x):∃p,cc p/\cs=(ae p).toList:=by
 obtain⟨xs,m,_,_,ak,lj,bP⟩:=Xs underlying44 h;have Z:prog.cellsOf 44=41:=by kernel_rfl
 rw[Z]at ak
 match xs,lj with
 |[tl,fh,fv,iY,oz,rB,IS],_=>
  have f0:=bP 0 _ rfl;have aW:=bP 1 _ rfl;have bg:=bP 2 _ rfl;have bR:=bP 3 _ rfl;have ck:=bP 4 _ rfl;have f5:=bP 5 _ rfl;have f6:=bP 6 _ rfl;obtain⟨k,r,_,_,_,mT⟩:=yV underlying5 (.inr (.inr (.inr rfl))) f0;obtain⟨iw,hU,_,_,_,RV⟩:=yV underlying5 (.inr (.inr (.inr rfl))) aW;obtain⟨o,av,_,_,axh,_⟩:=yV underlying39 (.inr (.inr (.inl rfl))) bg;obtain⟨f,LR,_,axi,_,_⟩:=yV underlying40 (.inr (.inl rfl)) bR;obtain⟨b,ab,axj,_⟩:=yV underlying38 (.inl rfl) ck;obtain⟨l,yW,IU⟩:=axk underlying41 underlying5 (by kernel_rfl) (by kernel_rfl) f5;obtain⟨a,rC,mf,halt⟩:=axl underlying42 underlying39 (by kernel_rfl) (by kernel_rfl) f6;have ds:prog.cellsOf 5=1:=by kernel_rfl
  have wp:prog.cellsOf 39=1:=by kernel_rfl
  have Ck:prog.cellsOf 40=1:=by kernel_rfl
  have SB:prog.cellsOf 38=1:=by kernel_rfl
  have gv:prog.cellsOf 41=32:=by kernel_rfl
  have Ek:prog.cellsOf 42=4:=by kernel_rfl
  have r:(cs.drop 0).take (prog.cellsOf 5)=[.int .u8 k]:=r;have hU:(cs.drop 1).take (prog.cellsOf 5)=[.int .u8 iw]:=hU;have av:(cs.drop 2).take (prog.cellsOf 39)=[.int .u16 o]:=av;have LR:(cs.drop 3).take (prog.cellsOf 40)=[.int .u32 f]:=LR;have ab:(cs.drop 4).take (prog.cellsOf 38)=[.int .u64 b]:=ab;have IU:(cs.drop 5).take (prog.cellsOf 41)=br l:=IU;have mf:(cs.drop 37).take (prog.cellsOf 42)=hg a:=mf;rw[ds]at r hU;rw[wp]at av;rw[Ck]at LR;rw[SB]at ab;rw[gv]at IU;rw[Ek]at mf;refine⟨⟨k,iw,o,f,b,l,a⟩,⟨mT rfl,RV rfl,axh rfl,axi rfl,axj rfl,yW,rC,λx W=> ?_⟩,?_⟩
  ·obtain⟨i,ad⟩:=vf.1 W;exact halt i x ad
  have st:∀i j,(cs.drop i).take j++cs.drop (i+j)=cs.drop i:=λi j=>by rw[<-ru,FV]
  have aL:cs=(cs.drop 0).take 1++((cs.drop 1).take 1++((cs.drop 2).take 1++((cs.drop 3).take 1++((cs.drop 4).take 1++((cs.drop 5).take 32++(cs.drop 37).take 4))))):=by
   rw[mP (i:=4) (by simp;omega),st 5 32,st 4 1,st 3 1,st 2 1,st 1 1,st 0 1,Xt]
  rw[aL,r,hU,av,LR,ab,IU,mf];simp[ae]
theorem axm(h:DataW.trod enc prog Y base lG held eX 130 cs=some x):∃y,fu y/\cs=(aZ y).toList:=by
 obtain⟨xs,m,_,_,ak,lj,bP⟩:=Xs underlying130 h;have Z:prog.cellsOf 130=44:=by kernel_rfl
 rw[Z]at ak
 match xs,lj with
 |[tl,fh,fv,iY],_=>
  have f0:=bP 0 _ rfl;have aW:=bP 1 _ rfl;have bg:=bP 2 _ rfl;have bR:=bP 3 _ rfl;obtain⟨k,r,_,_,_,mT⟩:=yV underlying5 (.inr (.inr (.inr rfl))) f0;obtain⟨n,aq,_,_,adp,_⟩:=yV underlying39 (.inr (.inr (.inl rfl))) aW;obtain⟨s,aA,_,axn,_,_⟩:=yV underlying40 (.inr (.inl rfl)) bg;obtain⟨p,hS,am⟩:=axg bR;have ds:prog.cellsOf 5=1:=by kernel_rfl
  have wp:prog.cellsOf 39=1:=by kernel_rfl
  have Ck:prog.cellsOf 40=1:=by kernel_rfl
  have Cl:prog.cellsOf 44=41:=by kernel_rfl
  have r:(cs.drop 0).take (prog.cellsOf 5)=[.int .u8 k]:=r;have aq:(cs.drop 1).take (prog.cellsOf 39)=[.int .u16 n]:=aq;have aA:(cs.drop 2).take (prog.cellsOf 40)=[.int .u32 s]:=aA;have am:(cs.drop 3).take (prog.cellsOf 44)=(ae p).toList:=am;rw[ds]at r;rw[wp]at aq;rw[Ck]at aA;rw[Cl]at am;refine⟨⟨k,n,s,p⟩,⟨mT rfl,adp rfl,axn rfl,hS⟩,?_⟩;have st:∀i j,(cs.drop i).take j++cs.drop (i+j)=cs.drop i:=λi j=>by rw[<-ru,FV]
  have aL:cs=(cs.drop 0).take 1++((cs.drop 1).take 1++((cs.drop 2).take 1++(cs.drop 3).take 41)):=by
   grind
  rw[aL,r,aq,aA,am];simp[aZ]
theorem axo(h:DataW.trod enc prog Y base lG held eX 132 cs=some x):∃a:gR,a.fL/\cs=ln a:=by
 obtain⟨xs,m,_,_,ak,lj,bP⟩:=Xs underlying132 h;have Z:prog.cellsOf 132=49:=by kernel_rfl
 rw[Z]at ak
 match xs,lj with
 |[tl,fh,fv,iY,oz,rB],_=>
  have f0:=bP 0 _ rfl;have aW:=bP 1 _ rfl;have bg:=bP 2 _ rfl;have bR:=bP 3 _ rfl;have ck:=bP 4 _ rfl;have f5:=bP 5 _ rfl;obtain⟨d,bm,_,_,_,axp⟩:=yV underlying5 (.inr (.inr (.inr rfl))) f0;obtain⟨n,aq,_,_,adp,_⟩:=yV underlying39 (.inr (.inr (.inl rfl))) aW;obtain⟨o,av,_,axq,_,_⟩:=yV underlying40 (.inr (.inl rfl)) bg;obtain⟨i,axr,ad⟩:=axm bR;obtain⟨b,ab,_,_,adq,_⟩:=yV underlying39 (.inr (.inr (.inl rfl))) ck;obtain⟨c,wq,_,_,_,IV⟩:=yV underlying5 (.inr (.inr (.inr rfl))) f5;have ds:prog.cellsOf 5=1:=by kernel_rfl
  have wp:prog.cellsOf 39=1:=by kernel_rfl
  have Ck:prog.cellsOf 40=1:=by kernel_rfl
  have axs:prog.cellsOf 130=44:=by kernel_rfl
  have bm:(cs.drop 0).take (prog.cellsOf 5)=[.int .u8 d]:=bm;have aq:(cs.drop 1).take (prog.cellsOf 39)=[.int .u16 n]:=aq;have av:(cs.drop 2).take (prog.cellsOf 40)=[.int .u32 o]:=av;have ad:(cs.drop 3).take (prog.cellsOf 130)=(aZ i).toList:=ad;have ab:(cs.drop 47).take (prog.cellsOf 39)=[.int .u16 b]:=ab;have wq:(cs.drop 48).take (prog.cellsOf 5)=[.int .u8 c]:=wq;rw[ds]at bm wq;rw[wp]at aq ab;rw[Ck]at av;rw[axs]at ad;have Gs:(UInt8.ofNat c).toNat=c:=UInt8.toNat_ofNat_of_lt' (by grind);refine⟨⟨d,⟨n,adp rfl⟩,⟨o,axq rfl⟩,i,b,UInt8.ofNat c⟩,⟨axp rfl,adq rfl,axr⟩,?_⟩;have st:∀i j,(cs.drop i).take j++cs.drop (i+j)=cs.drop i:=λi j=>by rw[<-ru,FV]
  have aL:cs=(cs.drop 0).take 1++((cs.drop 1).take 1++((cs.drop 2).take 1++((cs.drop 3).take 44++((cs.drop 47).take 1++(cs.drop 48).take 1)))):=by
   rw[mP (i:=1) (l:=cs.drop 48) (by simp;omega),st 47 1,st 3 44,st 2 1,st 1 1,st 0 1,Xt]
  rw[aL,bm,aq,av,ad,ab,wq];simp[ln,Gs]
end
abbrev adr{ba:Type}:List (String×DataW ba):=[("kintsugi/sha.constants",Rows.laid_kintsugi_sha_constants),("kintsugi/ptr.wide",Rows.laid_kintsugi_ptr_wide),("kintsugi/inode.leaves",Rows.laid_kintsugi_inode_leaves),("kintsugi/tree.hole",Rows.laid_kintsugi_tree_hole)]
theorem ads{w:M}(h:laidMetH prog adr w):hI w/\jz w/\qO w:=by
 have h':laidMet prog adr w:=h;have bM:laidMet prog [("kintsugi/ptr.wide",.agg (([0,1,2,2,2,2]:List Int).map λz=>.lit (.int .i64 z)))] w:=h'.filter λx=>x.1== "kintsugi/ptr.wide";have r:laidMet prog [("kintsugi/sha.constants",Rows.laid_kintsugi_sha_constants)] w:=h'.filter λx=>x.1== "kintsugi/sha.constants";have ak:laidMet prog [("kintsugi/inode.leaves",.agg (([0,1,2,2]:List Int).map λz=>.lit (.int .u8 z)))] w:=h'.filter λx=>x.1== "kintsugi/inode.leaves";have aN:laidMet prog [("kintsugi/tree.hole",Rows.laid_kintsugi_tree_hole)] w:=h'.filter λx=>x.1== "kintsugi/tree.hole";refine⟨⟨adt aw5 aw6 underlying328 underlying3 (by kernel_rfl) (by kernel_rfl) rfl bM,axf aN⟩,λi ad=> ?_,adt axa axb underlying336 underlying5 (by kernel_rfl) (by kernel_rfl) rfl ak⟩;rw[aw']at r;have:=adt aw9 aw_ underlying407 underlying40 (by kernel_rfl) (by kernel_rfl) rfl r;have ak:LQ.length=64:=rfl;have e:XY[i]? =some ((LQ.getD i 0:Nat):Int):=by
  rw[aw8,oo,lk,d_ (by omega)];rfl
 exact this i _ e
noncomputable def als(os:Os):M:=
 let w0:=World.holding prog os ⟨#[],#[],[]⟩
 {w0 with heap:=((w0.1.modify 0 λ
   |.cells _ t frozen=>.cells #[aa 0,aa 1,aa 2,aa 2,aa 2,aa 2] t frozen
   |o=>o).modify 3 λ
   |.cells _ t frozen=>.cells (XY.map λz=>Value.int .u32 z).toArray t frozen
   |o=>o).modify 1 λ
   |.cells _ t frozen=>.cells #[.int .u8 0,.int .u8 1,.int .u8 2,.int .u8 2] t frozen
   |o=>o}
theorem axt(os:Os)(args:Array N):laidMetH prog adr ((als os).forCall (λ_ _=>0) ⟨#[],args,[]⟩).memory:=
 laidMetH_of_parts (laidMet_of_run' 8 (by kernel_rfl) (by kernel_rfl)) (by kernel_rfl)
theorem axu{ba:Type}{enc:TypeId×N->ba}{Y:M}{base:Nat}{lG:Nat->Bool}{held:Bool}{V:Reach}{bu:Nat}{v:N}{d:DataW ba}{p:List MemPlace}(aM:Value.okWide prog Y V bu 22 v)(h:DataW.Trod enc prog Y base lG held 22 v d p):
  ∃L:List (List gR),LS Y v L:=by
 obtain⟨l,aH,A,c,rfl,J,T,ag⟩:=axv (α:=N×List gR) (λy=>(∀a∈y.2,a.fL)/\fC Y y.1 ln 49 y.2) (λy=>[y.1]) (k:=1) (by decide) underlying22 (by kernel_rfl) aM h λcs eX x _ bj=>by
  obtain⟨v,l,aM,fo,b_⟩:=axw gR.fL ln (k:=49) (by decide) underlying23 (by kernel_rfl) bj λcs eX x _ bj=>axo bj;exact⟨(v,l),⟨fo,b_⟩,aM⟩
 refine⟨l.map (·.2),l.map (·.1),by simp,⟨A,c,by rw[oV],by grind,T,λam=> ?_⟩,λi AK hJ IW adu=> ?_⟩
 ·obtain⟨b,off,rfl,ab,ax⟩:=ag (by simpa using am);refine⟨⟨b,off,none⟩,rfl,λj u ap=> ?_⟩;rw[oo]at ap
  cases ar:l[j]? with
  |none=>rw[ar]at ap;cases ap
  |some y=>
   rw[ar]at ap;have:=ax j y 0 u ar (by simpa using ap);rw[Ge];simpa using this
 grind
section
variable {ba:Type}{enc:TypeId×N->ba}{P:Program}{Y:M}{base:Nat}{lG:Nat->Bool}{held:Bool}{t e:Nat}
theorem axx{k:IntKind}{V:Reach}{bu:Nat}{v:N}{d:DataW ba}{p:List MemPlace}(bj:P.underlying t=some (.slice e))(aV:P.underlying e=some (.int k))(Z:P.cellsOf e=1)(aM:Value.okWide P Y V bu t v)(h:DataW.Trod enc P Y base lG held t v d p):
  ∃l:List Int,bC Y v l.length (l.map (Value.int k))/\(∀z∈l,(Lit.int k z).wf=true)/\(∀j,v.ownBlock=some j->j<Y.1.size):=by
 have aO:=alt bj aM;obtain⟨eX,bP⟩:=h;obtain⟨a0,tb,gs,rfl⟩:=okWide_slice bj aM;obtain⟨v',l,J,T,ag,_⟩:=axy bj aV Z bP;simp[Value.cells]at J;subst J;exact⟨l,T,ag,aO⟩
theorem axz{V:Reach}{bu:Nat}{v:N}{d:DataW ba}{p:List MemPlace}(bj:P.underlying t=some (.slice e))(aV:P.underlying e=some (.int .u16))(Z:P.cellsOf e=1)(aM:Value.okWide P Y V bu t v)(h:DataW.Trod enc P Y base lG held t v d p):
  ∃l:List Nat,bC Y v l.length (hg l)/\(∀z∈l,z<65536)/\(∀j,v.ownBlock=some j->j<Y.1.size):=by
 obtain⟨l,J,T,ag⟩:=axx bj aV Z aM h;have XZ:∀z∈l,0<=z/\z<65536:=λz hz=>by
  have:=T z hz;simp[Lit.wf,IntKind.min,IntKind.max,IntKind.signed,IntKind.bits]at this;omega
 refine⟨l.map Int.toNat,?_,λz hz=> ?_,ag⟩
 ·rw[oV];have e:hg (l.map Int.toNat)=l.map (Value.int .u16):=by
   unfold hg;rw[OG];refine xE λz hz=> ?_;show Value.int .u16 ((z.toNat:Nat):Int)=_;rw[Int.toNat_of_nonneg (XZ z hz).1]
  rw[e];exact J
 ·obtain⟨y,ar,rfl⟩:=lF.1 hz;have:=XZ y ar;omega
end
end Go.Proofs.YtoohkhcpboldjaaGreatDoor
namespace Go.Proofs.YtoohkhcpboldjaaGreatDoor
open Go.RowKit Go.Kin Go.Maps Go.Proofs.Tryz
theorem axA{w:M}(h:qO w):El w:=⟨h 0 0 rfl,h 1 1 rfl,h 2 2 rfl,h 3 2 rfl⟩
theorem axB{p m cg:Nat}{z:fV}{st:et}(ok:gi st):(wr p m cg z st)[6]? =some (.int .u64 st.gen):=by
 have h:=yN (λa=>a[0]?) (adv (p:=p) (m:=m) (cg:=cg) (z:=z) ok);simp only[Sd,adw ok]at h;rw[X_]at h;simpa using h
theorem axC(v rD:N)(L:List (List gR))(LU:List Nat)(w:M)(cv:hI w)(fT:jz w)(gB:qO w)(b_:LS w v L)(alu:bC w rD LU.length (hg LU))(adx:∀y∈LU,y<65536)(IX:∀k,rD.ownBlock=some k->k<w.1.size):
  bc prog 5 #[v,rD] w λv' w'=>v'=.bool true/\H al w w':=by
 obtain⟨cL,dC⟩:=alv;refine bz func5 ntmps5 λbk af=> ?_;have cu:=b_.len;have alw:=alu.len underlying30 3;have ady:∀(u:M) {K:N->M->Prop},H al w u->(∀cq,H al w cq->K (.bool true) cq)->bc prog 10 #[] u K:=λu K Z fW=>(axD u (cv.ch Z λ_ _ e=>e) (fT.ch Z id) (gB.ch Z id)).mono λv w' aN=>by
  rw[aN.1];exact fW _ (Z.trans aN.2)
 simp[go_sem];refine(axE v L w b_).mono ?_;rintro _ ai ⟨rfl,aY⟩
 cases fD:(decide (L.length<=8)&&L.all λl=>decide (l.length<=30))with
 |false=>
  simp[go_sem];exact ady _ aY λu ap=>by
   simp[go_sem];exact af _ _ ⟨rfl,ap⟩
 |true=>
  rw[ot,qf,vg]at fD;obtain⟨aQk,axF⟩:=fD;by_cases ix:LU.length<=10
  ·have SC:¬(10:Int)<LU.length:=by omega
   simp[go_sem,alw,SC];refine(alx 1000 ai (by omega) (by omega)).mono ?_;rintro _ an ⟨x,p,m,cg,z,rfl,W,aT,axG,aK⟩;simp[go_sem];refine(axH an).mono ?_;rintro _ aJ ⟨fa,rfl,AL,SD,aI⟩;have bK:=aY.size;have cR:=aK.size;have lH:=(aT.aly (w0:=w) (λk r=>by omega) (aY.trans aK) cv fT gB).hp aI;have adz:=LV cv fT gB;have OY:∀k,w.1.size<=k->¬iK k:=λk r e=>by have:=adz k e;omega
   have hK:H al w aJ:=(aY.trans aK).trans aI;have axI:Gt w aJ (λk=>(k<an.1.size/\¬((ai.1.size<=k/\k<an.1.size)/\k≠x))\/oA an aJ k) x p m cg fa 1000 z ⟨ay.dv,qP⟩ dU co.dv rD LU (λ_=>false) 0:=
    ⟨lH,W.ch aI id,.inl ⟨lt_of_block W.blk,λe=>e.2 rfl⟩,by omega,AL,.inr ⟨SD,by obtain⟨_,e,_⟩:=AL;exact lt_of_block e⟩,alu.ch hK λ_ _ e=>e,λk r=>.inl ⟨by have:=IX k r;omega,λe=>by have:=IX k r;omega⟩,adx,ki.start (by omega),iL.start⟩
   simp[go_sem];refine di (λV f u=>∃i,V=L.length - i/\i<=L.length/\f 0=v/\f 5=az x/\f 8=aa i/\∃K q X st aw mz ys,f 6=az q/\f 7=mz/\Gt w u K x p m cg q 1000 z X st aw mz ys (λ_=>false) (4000*i)/\yX 1000 (30*i) X st aw/\ys.length<=10+40*i/\st.gen<=i) L.length
    ⟨0,rfl,by omega,by simp,by simp,by simp,⟨_,fa,_,_,_,_,_,by simp,by simp,axI,yX.start (by omega),by omega,by decide⟩⟩ ?_
   rintro cQ bJ _ f u ⟨i,rfl,ad,f0,f5,bB,K,q,um,st,aw,mz,ys,f6,bQ,Gu,axJ,Em,IY⟩;by_cases adA:i<L.length
   ·have adB:(i:Int)<L.length:=by omega
    have eQ:IntKind.i64.wrap ((i:Int)+1)=(i:Int)+1:=by rw[cz];omega
    obtain⟨hJ,adu⟩:∃l,L[i]? =some l:=⟨_,d_ adA⟩;have alz:hJ.length<=30:=by simpa using axF hJ (ib adu)
    have tm:=Gu.nF.ok;have nG:=lo tm;have mg:=un tm;have tn:(wr p m cg z st).size=89:=adw tm;have eS:(wr p m cg z st).extract 6 89=bN st:=adv tm;have yY:=Gu.nF;have alA:=yY.ch (H.refl al u).drew id;simp[go_sem,f0,bB,cu,adA,adB];refine cT [F 0,F 1,F 2,F 3,F 4,F 5,F 6,F 7,F 8,(9,some []),F 10,(11,some []),F 12,F 13,F 14,F 15,F 16] ?_;simp[go_sem,f5,yY.bo,alA.bo,yY.b,alA.b,tn,eS];refine(OZ _ _ st tm _ rfl).mono ?_;rintro _ jl ⟨axK,rfl,qh,ky,X',Cm⟩;simp[go_sem];refine(alB 53 (az axK) jl).mono ?_;rintro _ rE ⟨o,Cn,rfl,av,alC⟩;have O_:H al u jl:=H.hR Cm;have En:=O_.trans alC;have alD:=Gu.hp En;have axL:=O_.size;have aQl:=alC.size;have aQm:=Gu.uo.ch.size;have aQn:=lt_of_block Gu.nF.blk;have aQo:q<u.1.size:=by obtain⟨_,e,_⟩:=Gu.nH;exact lt_of_block e
    have yZ:∀k,(jl.1.size<=k/\k<rE.1.size)->¬iK k:=λk r=>OY k (by omega);obtain⟨a,AK,bn,bh,_,bA,ex⟩:=b_.at adu;have alE:=alD.uo.ch;have Ya:=alE.cell bh id;simp[go_sem,f0,f5,f6,bQ,bB,bn,Ya];refine(axM AK hJ rE (bA.ch alE λ_ _ _ e=>e) ex (by omega)).mono ?_;intro LW sg rF;have AM:∀a∈hJ.map qi,a.fL/\a.i.k<=1:=λa ao=>by
     obtain⟨y,ar,rfl⟩:=lF.1 ao;exact alF (ex y ar)
    have adC:fC sg LW ln 49 (hJ.map qi):=fC.fF (en:=iZ) (L:=hJ.map qi) (by rw[oV];exact rF.own) λa ao=>LX (AM a ao).1;have Yb:∀k,LW.ownBlock=some k->oA rE sg k:=λk r=>⟨rF.pF k r,Gv rF.own k r⟩;have alG:(hJ.map qi).length<=30:=by rw[oV];exact alz
    obtain⟨pG,axN⟩:=aD (hJ.map qi);rw[axN]at AM adC alG;have adD:=alD.hp rF.ch;have SE:=rF.ch.size;have SF:=av.ch rF.ch (λ_ _ e=>e) λ_ _ e=>e;simp[go_sem,f6];refine(axO SF adD.nH LW pG adC (λa ao=>(AM a ao).1) (by omega) (by decide) (cv.qQ.ch adD.uo.ch id) (λe=>yZ _ e (.inl (.inl rfl))) λk r e=>by have:=(Yb k r).1;omega).mono ?_;rintro _ tp ⟨eI,IZ,rfl,kO,aQp,Eo,ws,Co⟩;have adE:=Co.size;have axP:=adD.own Co (λk r=>⟨.inl (.inr ⟨by omega,r.2⟩),by omega⟩) (λe=>by omega) (λe=>by omega) λk r e=>by have:=Gu.uo.lt k (Gu.Yc k r);omega
    have axQ:=adC.ch Co λk _ r e=>by have:=(Yb k r).1;omega
    obtain⟨D,dX⟩:=aD (mU cV.dv pG);rw[dX]at Eo;have fX:=(sh.dv vl.start).adF pG (D:=cV.dv) AM;rw[dX]at fX;simp[go_sem];refine(adG Eo fX.ok (by omega)).mono ?_;rintro y_ pH ⟨xs,eF,qR,pI,_⟩;have axR:=qR.len underlying30 3;have SG:=axP.hp pI;have alH:=pI.size;obtain⟨y',alI⟩:=aD ((λk=>((((K k\/oA u rE k)\/oA rE sg k)\/oA sg tp k)\/oA tp pH k)):Nat->Prop);have tq:Gt w pH y' x p m cg q 1000 z um st aw mz ys (λ_=>false) (4000*i):=by rw[<-alI];exact SG
    have Yd:∀k,u.1.size<=k->k<pH.1.size->y' k:=λk J T=>by
     rw[<-alI];simp only[oA];omega
    clear SG;have lj:xs.length<=90:=dK (axS (l:=pG) (by rw[dX];exact eF)) (by omega);have alJ:st.gen+1<18446744073709551616:=by omega
    obtain⟨gJ,axT,axU,ig,cJ,pC,eT,AN,adH,alK⟩:=axJ.step (b':=4000*i) (by omega) alJ AM alG dX eF tq.Ye;have tr:640000<=gX cL ⟨um.s,[],[]⟩:=dK (by omega) (tq.dI.eX tq.Ye dC);have AO:=tq.dI.ok.2;have alL:=Eo.ch pI (λ_ _ e=>e) λ_ _ e=>e;have I_:∀j,(jl.1.size<=j/\j<rE.1.size)\/IZ j->y' j/\¬iK j:=λj I=>by
     have aQq:=alL.lt j I;rcases I with I|I
     ·exact⟨Yd j (by omega) (by omega),yZ j I⟩
     ·rcases ws j I with e|e
      ·exact e.elim
      ·exact⟨Yd j (by omega) (by omega),OY j (by omega)⟩
    have LY:∀{u:M} {K:Nat->Prop},eJ w u K m p 1000 cg z um->(∀k,y' k->K k)->H al pH u->bc prog 21 #[az m,.pointer (some ⟨z.c',0,none⟩),az cg,.agg (bN st),az o] u λv' w'=>(v'=.tuple #[.agg (bN cJ),aa 0]/\gi cJ)/\eJ w w' K m p 1000 cg z ig/\H (λk=>¬K k) u w':=λ{u K} r adI Z=>
     r.SH dC axT (by omega) tr tm AO axU alJ (alL.ch Z (λ_ _ e=>e) λ_ _ e=>e) (λj I=>⟨adI j (I_ j I).1,(I_ j I).2⟩) fX.ok (by omega) fX.qS eF lj pC
    have SI:=lo ts;have xI:=tq.nF;have Gw:=xI.ch (H.refl al pH).drew id;have alM:eJ w pH.drew y' m p 1000 cg z um:=(tq.uo.hp (H.refl al pH).drew).mV (λ_ e=>.inl e) tq.uo.d';obtain⟨E,hx⟩:=aD (((xs.length:Int)==0):Bool);simp[go_sem,axR];obtain⟨Yf,I'⟩:∃Yf:(Nat->N)->M->Prop,Yf=λf' cq=>f' 0=v/\f' 5=az x/\f' 7=mz/\f' 8=aa i/\f' 11=LW/\f' 12=az eI/\f' 13=.bool E/\f' 15=aa 0/\∃fM,f' 14=az fM/\cq.1[fM]? =some (.cells (bN cJ) 46 (0,0))/\pH.1.size<=fM/\gi cJ/\eJ w cq (λk=>y' k\/k=fM) m p 1000 cg z ig/\H (λk=>¬y' k) pH cq:=⟨_,rfl⟩;refine Ja Yf [[F 0,F 1,F 2,F 3,F 4,F 5,F 6,F 7,F 8,F 9,F 10,F 11,F 12,F 13,F 14,F 15,F 16,(17,some []),F 18,F 19,F 20,(21,some [18,19,20]),(22,some [20]),F 23],
     [F 0,F 1,F 2,F 3,F 4,F 5,F 6,F 7,F 8,F 9,F 10,F 11,F 12,F 13,F 14,F 15,F 16,(21,some [0,1,2,3,4,5,6,7,8,9,10,11,12,13,14,15,16]),(17,some []),F 18,F 19,F 20,(22,some [20]),F 23]] (by kernel_rfl) (by kernel_rfl) ?_ ?_
    ·intro mh mA;simp only[io,yD,or_false]at mA;rcases mA with rfl|rfl
     ·simp[go_sem,f5,xI.aK,xI.aI,xI.bo,xI.bE,Gw.aI,Gw.bo,Gw.bE,xI.b,Gw.b,tn,eS];refine(LY alM (λ_ e=>e) (H.refl al pH).drew).mono ?_;rintro _ v5 ⟨⟨rfl,vm⟩,xJ,bE⟩;have qT:=lo vm;have qU:=un vm;have gj:=cr v5 (.cells (bN cJ) 46);have cF:=(H.refl al v5).alloc (.cells (bN cJ) 46);have SE:pH.1.size<=v5.1.size:=bE.size;simp[go_sem,pJ,wt,wu,SI,qT,qU,mW,bS];rw[I'];exact⟨by simp[f0],by simp[f5],by simp[bQ],by simp[bB],by simp,by simp,by simp[hx],by simp,v5.1.size,by simp,gj,SE,vm,(xJ.hp cF).mV (λk r=>r.imp id λe=>by rw[e];exact⟨c_ _,lt_of_block gj⟩) λk r=>.inl (tq.uo.d' k r),(H.hR bE).trans (cF.mono λ_ _ e=>e.elim)⟩
     ·simp[go_sem,f5,xI.aK,xI.aI,xI.bo,xI.bE,Gw.aI,Gw.bo,Gw.bE,xI.b,Gw.b,tn,eS];rw[pJ (hz:=wt) (h:=by simp[go_sem]),wu];have Ep:=cr pH.drew (.cells (bN dU) 46);have kS:=(H.refl al pH.drew).alloc (.cells (bN dU) 46);obtain⟨fM,lp⟩:=aD (pH.drew.1.size);have aQr:pH.1.size=fM:=lp;rw[lp]at Ep⊢;obtain⟨wv,j_⟩:=aD (pH.drew.alloc (.cells (bN dU) 46));rw[j_]at Ep kS⊢;clear j_;have fN:=Gw.ch kS id;have Cp:=alM.hp kS;simp[go_sem,f5,fN.aI,fN.bo,fN.bE,fN.b,tn,eS];refine(LY Cp (λ_ e=>.inl e) ((H.refl al pH).drew.trans kS)).mono ?_;rintro _ v5 ⟨⟨rfl,vm⟩,xJ,bE⟩;have qT:=lo vm;have qU:=un vm;have iM:oA pH.drew wv fM:=⟨by omega,lt_of_block Ep⟩;have dG:=bE.obj Ep λe=>e (.inr iM);have rG:=tq.uo.ch.size;have cF:=(H.refl (aj fM) v5).setRow (g:=fM) (.inl rfl) (bN cJ);have nI:=xJ.own cF λk r=>⟨by simp only[aj]at r;rw[r];exact .inr iM,by simp only[aj]at r;omega⟩;have axV:H (λk=>¬y' k) pH v5:=((H.hR kS).mono (S':=λk=>¬y' k) λ_ _ e=>e.elim).trans (bE.mono λk _ e aR=>e (.inl aR));simp[go_sem,dG,SI,qT,qU,mW,bS];rw[I'];exact⟨by simp[f0],by simp[f5],by simp[bQ],by simp[bB],by simp,by simp,by simp[hx],by simp,fM,by simp,by rw[gh,dG];rfl,by omega,vm,nI.mV (λk r=>.inl (r.imp id λe=>by rw[e];exact iM)) λk r=>.inl (tq.uo.d' k r),axV.setRow (.inr (by omega)) _⟩
    rw[I'];clear I' Yf f0 f5 f6 bQ bB LY;rintro f Er ⟨f0,f5,bQ,bB,gC,dj,fw,f15,fM,f14,Yg,aQs,vm,axW,AP⟩;have aQt:=AP.size;have qT:=lo vm;have qU:=un vm;have alN:y' eI:=Yd eI (by omega) (by obtain⟨_,e,_⟩:=kO;have:=lt_of_block e;omega);have axX:∀k,LW.ownBlock=some k->y' k:=λk r=>Yd k (by have:=(Yb k r).1;omega) (by have:=(Yb k r).2;omega);have dH:H al Er Er.drew:=(H.refl al Er).drew;have Yh:=tq.nF.ch AP λe=>e tq.Es;have alO:=Yh.ch dH id;have axY:=((axQ.ch pI λ_ _ _ e=>e).ch AP λk _ r e=>e (axX k r)).ch dH λ_ _ _ e=>e;have axZ:=(tq.dR.ch AP λk r e=>e (tq.Yc k r)).ch dH λ_ _ e=>e;have ax0:=(kO.ch pI id).ch AP λe=>e alN;have alP:Er.drew.1[fM]? =some (.cells (bN cJ) 46 (0,0)):=Yg;have xK:∀{u:M},u.1[fM]? =some (.cells (bN cJ) 46 (0,0))->u.cell? (bl fM 0)=some (.int .u64 cJ.gen):=λh=>(aG h 0).trans X_;have IT:∀{u:M},nJ u x p m cg z st->u.cell? (bl x 6)=some (.int .u64 st.gen):=λh=>(aG h.b 6).trans (axB tm);have adJ:IntKind.u64.wrap ((st.gen:Int)+1)=(st.gen:Int)+1:=by rw[tg];omega
    have ax1:xs=[]↔xs.length=0:=List.length_eq_zero_iff.symm;simp[go_sem];obtain⟨Yi,Jb⟩:∃Yi:(Nat->N)->M->Prop,Yi=λf' cq=>f' 0=v/\f' 5=az x/\f' 7=mz/\f' 8=aa i/\f' 11=LW/\f' 12=az eI/\f' 14=az fM/\f' 120=.bool false/\cq=Er.drew:=⟨_,rfl⟩;refine Ja Yi [[F 0,F 1,F 2,F 3,F 4,F 5,F 6,F 7,F 8,F 9,F 10,F 11,F 12,F 13,F 14,F 15,F 16,F 17,F 18,F 19,F 20,F 21,F 22,F 23,F 24,F 25,F 26,F 27]] (by kernel_rfl) (by kernel_rfl) ?_ ?_
    ·intro mh mA;simp only[io,yD,or_false]at mA;subst mA;by_cases aV:xs=[]
     ·have Et:E=true:=by rw[<-hx,aV];rfl
      have ax2:=adH aV;have ho:∀w,(Op.equalIn 10000 46 (.agg (bN cJ)) (.agg (bN st))).run prog w=.ok true w:=λw=>by rw[adK w vm tm,ou ax2]
      simp[go_sem,f0,f5,bQ,bB,gC,dj,fw,f14,f15,Et,Yg,alP,qT,qU,Yh.b,alO.b,tn,eS,ho];rw[Jb];exact⟨by simp[f0],by simp[f5],by simp[bQ],by simp[bB],by simp[gC],by simp[dj],by simp[f14],by simp,rfl⟩
     ·have Et:E=false:=by rw[<-hx];exact hv λe=>aV (ax1.2 (by omega))
      have iM:=alK aV;have Pa:(cJ.gen:Int)=(st.gen:Int)+1:=by omega
      simp[go_sem,f0,f5,bQ,bB,gC,dj,fw,f14,f15,Et,xK Yg,xK alP,IT Yh,IT alO,adJ,Pa];rw[Jb];exact⟨by simp[f0],by simp[f5],by simp[bQ],by simp[bB],by simp[gC],by simp[dj],by simp[f14],by simp,rfl⟩
    rw[Jb];clear Jb Yi f0 f5 bQ bB gC dj fw f14 f15;rintro f _ ⟨f0,f5,bQ,bB,gC,dj,f14,ax3,rfl⟩;have lI:=AN.at;obtain⟨nB,SJ,_,_⟩:=lI.reads (by simp);have Eu:=lI.ok.2;have alQ:iL (4000*(i+1)) ig.s:=eT.mono (by omega);have LZ:96<=za cL ig:=dK (by omega) (lI.eX alQ dC);have ax4:cJ.gen<=i+1:=by
     by_cases aV:xs=[]
     ·rw[adH aV];omega
     ·rw[alK aV];omega
    simp[go_sem,bQ,gC,ax3];refine(ax5 LW mz pG ys Er.drew axY (λa ao=>(AM a ao).1) (by omega) axZ tq.IS (by omega)).mono ?_;rintro fe pK ⟨Jc,Pb,alR,aQu⟩;have SK:H al Er pK:=dH.trans Pb.ch;have aQv:=SK.size;obtain⟨vn,Yj⟩:∃vn:Nat->Prop,(λk=>(y' k\/k=fM)\/oA Er pK k)=vn:=⟨_,rfl⟩;have zb:eJ w pK vn m p 1000 cg z ig:=by rw[<-Yj];exact axW.hp SK
    have ww:∀k,y' k->vn k:=λk r=>by rw[<-Yj];exact .inl (.inl r)
    have alS:∀k,fe.ownBlock=some k->oA Er pK k:=λk r=>⟨Pb.pF k r,nK Pb.own k r⟩;have AQ:tt vn x p m cg z st eI (vo aw pG) fe Jc fM cJ pK:=⟨Yh.ch SK id,ax0.ch SK id,.fF Pb.own,SK.obj Yg id,ww x tq.Es,ww eI alN,λk r=>by rw[<-Yj];exact .inr (alS k r),by rw[<-Yj];exact .inl (.inr rfl)⟩;have aQw:=zb.ch.size;have Pc:=AQ.nF.ch (H.refl al pK).drew id;have adL:eJ w pK.drew vn m p 1000 cg z ig:=(zb.hp (H.refl al pK).drew).mV (λ_ e=>.inl e) zb.d';have Cq:∀{gw:M} {K:Nat->Prop},eJ w gw K m p 1000 cg z ig->bc prog 26 #[up m,.agg (wx ig.ea)] gw λv' w'=>(v'=.tuple #[.agg (bN cJ),aa 0]/\gi cJ)/\eJ w w' K m p 1000 cg z ig/\H (λk=>¬K k) gw w':=λ{gw K} r=>r.Cq dC LZ Eu SJ;have bU:∀{db:M} {eG:Nat} {K:Nat->Prop},db.1[eG]? =some (.cells (bN dU) 46 (0,0))->pK.1.size<=eG->tt vn x p m cg z st eI (vo aw pG) fe Jc fM cJ db->eJ w db K m p 1000 cg z ig->(∀k,vn k->K k)->K eG->
      (db.setRow eG (bN cJ)).1[eG]? =some (.cells (bN cJ) 46 (0,0))/\tt vn x p m cg z st eI (vo aw pG) fe Jc fM cJ (db.setRow eG (bN cJ))/\eJ w (db.setRow eG (bN cJ)) vn m p 1000 cg z ig:=λ{db eG K} a1 a2 a3 a5 SL L_=>by
     have c:=(H.refl (aj eG) db).setRow (g:=eG) (.inl rfl) (bN cJ);refine⟨by rw[gh,a1];rfl,a3.ch c λk r e=> ?_,(a5.own c λk r=> ?_).mV (λk r=>.inl (SL k r)) zb.d'⟩
     ·simp only[aj]at e;have:=zb.lt k r;omega
     ·simp only[aj]at r
      grind
    simp[go_sem];obtain⟨Gx,AR⟩:∃Gx:(Nat->N)->M->Prop,Gx=λf' cq=>f' 0=v/\f' 5=az x/\f' 7=fe/\f' 8=aa i/\f' 12=az eI/\f' 14=az fM/\f' 17=aa 0/\∃eG,f' 16=az eG/\cq.1[eG]? =some (.cells (bN cJ) 46 (0,0))/\tt vn x p m cg z st eI (vo aw pG) fe Jc fM cJ cq/\eJ w cq vn m p 1000 cg z ig:=⟨_,rfl⟩;refine Ja Gx [[F 0,F 1,F 2,F 3,F 4,F 5,F 6,F 7,F 8,(9,some [0,1,2,3,4]),(10,some []),F 11,F 12,F 13,(14,some [11,12,13]),(15,some [13]),F 16],
     [F 0,F 1,F 2,F 3,F 4,F 5,F 6,F 7,F 8,(9,some [0,1,2,3,4]),(14,some [0,1,2,3,4]),(10,some []),F 11,F 12,F 13,(15,some [13]),F 16],
     [F 0,F 1,F 2,F 3,F 4,F 5,F 6,F 7,F 8,(14,some [0,1,2,3,4,5,6,7,8]),(9,some [0,1,2,3,4]),(10,some []),F 11,F 12,F 13,(15,some [13]),F 16]] (by kernel_rfl) (by kernel_rfl) ?_ ?_
    ·intro mh mA;simp only[io,yD,or_false]at mA;rcases mA with rfl|rfl|rfl
     ·simp[go_sem,f5,AQ.nF.bo,AQ.nF.bE,Pc.bo,Pc.bE];refine(adL.load Eu).mono ?_;rintro _ cE ⟨rfl,dE⟩;have pI:H al pK cE:=H.hR dE;have L':=AQ.hp pI;simp[go_sem,f5,L'.nF.bo];refine(Cq (zb.hp pI)).mono ?_;rintro _ ec ⟨⟨rfl,_⟩,mT,ds⟩;have qj:=cr ec (.cells (bN cJ) 46);have dV:=(H.refl al ec).alloc (.cells (bN cJ) 46);simp[go_sem,pJ,wt,wu,SI,qT,qU,mW,bS];rw[AR];exact⟨by simp[f0],by simp[f5],by simp,by simp[bB],by simp[dj],by simp[f14],by simp,ec.1.size,by simp,qj,(L'.uo (λk r=>.inl r) ds).hp dV,(mT.hp dV).mV (λk r=>.inl (.inl r)) zb.d'⟩
     ·simp[go_sem,f5,AQ.nF.bo,AQ.nF.bE,Pc.bo,Pc.bE];refine(adL.load Eu).mono ?_;rintro _ cE ⟨rfl,dE⟩;have pI:H al pK cE:=H.hR dE;have L':=AQ.hp pI;simp[go_sem,f5,L'.nF.bo];rw[pJ (hz:=wt) (h:=by simp[go_sem]),wu];have dD:=cr cE (.cells (bN dU) 46);have aU:=(H.refl al cE).alloc (.cells (bN dU) 46);have alH:=pI.size;obtain⟨eG,vp⟩:=aD (cE.1.size);rw[vp]at dD⊢;obtain⟨wv,j_⟩:=aD (cE.alloc (.cells (bN dU) 46));rw[j_]at dD aU⊢;clear j_;have oB:=pI.trans aU;have SM:=AQ.hp oB;simp[go_sem,f5,SM.nF.bo];refine(Cq (zb.hp oB)).mono ?_;rintro _ ec ⟨⟨rfl,_⟩,mT,ds⟩;have iM:oA pK wv eG:=⟨by omega,lt_of_block dD⟩;have jI:=ds.obj dD λe=>e (.inr iM);simp[go_sem,jI,SI,qT,qU,mW,bS];rw[AR];exact⟨by simp[f0],by simp[f5],by simp,by simp[bB],by simp[dj],by simp[f14],by simp,eG,by simp,bU jI (by omega) (SM.uo (λk r=>.inl r) ds) mT (λ_ e=>.inl e) (.inr iM)⟩
     ·simp[go_sem,f5,AQ.nF.bo,AQ.nF.bE,Pc.bo,Pc.bE];rw[pJ (hz:=wt) (h:=by simp[go_sem]),wu];have dD:=cr pK.drew (.cells (bN dU) 46);have aU:=(H.refl al pK.drew).alloc (.cells (bN dU) 46);obtain⟨eG,vp⟩:=aD (pK.drew.1.size);have ax6:pK.1.size=eG:=vp;rw[vp]at dD⊢;obtain⟨wv,j_⟩:=aD (pK.drew.alloc (.cells (bN dU) 46));rw[j_]at dD aU⊢;clear j_;have Cr:H al pK wv:=H.hR aU;have SM:=AQ.hp Cr;simp[go_sem,f5,SM.nF.bo,SM.nF.bE];refine((zb.hp Cr).load Eu).mono ?_;rintro _ cE ⟨rfl,dE⟩;have oB:=Cr.trans dE;have L':=AQ.hp oB;simp[go_sem,f5,L'.nF.bo];refine(Cq (zb.hp oB)).mono ?_;rintro _ ec ⟨⟨rfl,_⟩,mT,ds⟩;have iy:=dE.size;have iM:oA pK cE eG:=⟨by omega,by have:=lt_of_block dD;omega⟩;have jI:=ds.obj (dE.obj dD id) λe=>e (.inr iM);simp[go_sem,jI,SI,qT,qU,mW,bS];rw[AR];exact⟨by simp[f0],by simp[f5],by simp,by simp[bB],by simp[dj],by simp[f14],by simp,eG,by simp,bU jI (by omega) (L'.uo (λk r=>.inl r) ds) mT (λ_ e=>.inl e) (.inr iM)⟩
    rw[AR];clear AR Gx f0 f5 bQ bB gC dj f14 Cq bU adL;rintro f alT ⟨f0,f5,bQ,bB,dj,f14,lJ,go,zc,ax7,Jd,ax8⟩;have adM:∀w,(Op.equalIn 10000 46 (.agg (bN cJ)) (.agg (bN cJ))).run prog w=.ok true w:=λw=>by rw[adK w vm vm,ou rfl]
    simp[go_sem,f5,bQ,dj,f14,zc,lJ,ax7,Jd.st,qT,qU,adM];refine(ax9 dC ax8 LZ Jd.nF Jd.Es Jd.nH Jd.Ma vm nB fe Jc Jd.dR Jd.Yk alR (by omega)).mono ?_;rintro _ Pd ⟨rfl,alU,hQ⟩;have alV:=Jd.uo (λ_ e=>e) hQ;simp[go_sem,dj];refine(ax_ eI _ Pd alV.nH).mono ?_;rintro Yl Je ⟨Mb,xL⟩;simp[go_sem];have wy:=AN.adN;have xM:(vo aw pG).Gy.length<=1000:=by rw[<-alW];exact dK (alX _ _) (by omega)
    refine(ax' Yl _ Je xM (λy ar=> ?_) Mb (axA (gB.ch (alU.ch.trans xL) id))).mono ?_
    ·obtain⟨k,_,rfl⟩:=lF.1 ar;exact dK (adO (vo aw pG) k 64) (by omega)
    rintro _ adP ⟨rfl,AS⟩;rw[aya λk bn bh bA=>by rw[wy k bn bh bA];omega];have alY:=xL.trans AS;have alZ:=alV.hp alY;have ayb:eJ w adP vn m p 1000 cg z ig:=(alU.hp alY).mV (λ_ e=>.inl e) zb.d';have ayc:=xK alZ.st;obtain⟨bd,dO⟩:∃bd:Nat,(if cJ.gen=0 then 0 else Gz (vo aw pG).iN)=bd:=⟨_,rfl⟩;simp[go_sem,f14,ayc];obtain⟨GA,AT⟩:∃GA:(Nat->N)->M->Prop,GA=λf' cq=>f' 0=v/\f' 5=az x/\f' 7=fe/\f' 8=aa i/\f' 12=az eI/\f' 14=az fM/\f' 18=aa bd/\adP=cq:=⟨_,rfl⟩;refine Jf GA ?_ ?_
    ·by_cases bi:cJ.gen=0
     ·rw[be bi]at dO;simp[go_sem,bi];rw[AT];exact⟨by simp[f0],by simp[f5],by simp[bQ],by simp[bB],by simp[dj],by simp[f14],by simp[<-dO],rfl⟩
     ·rw[aQ bi]at dO;have SN:((cJ.gen:Int)==0)=false:=hv (by omega);simp[go_sem,bi,SN];rw[AT];exact⟨by simp[f0],by simp[f5],by simp[bQ],by simp[bB],by simp[dj],by simp[f14],by simp[<-dO],rfl⟩
    rw[AT];clear AT GA f0 f5 bQ bB dj f14;rintro f _ ⟨f0,f5,bQ,bB,dj,f14,oZ,rfl⟩;simp[go_sem];refine di (λV f' cq=>∃d,V=2 - d/\d<=2/\f' 0=v/\f' 5=az x/\f' 7=fe/\f' 8=aa i/\f' 12=az eI/\f' 14=az fM/\f' 18=aa bd/\f' 19=aa d/\H al adP cq) 2
     ⟨0,rfl,by omega,by simp[f0],by simp[f5],by simp[bQ],by simp[bB],by simp[dj],by simp[f14],by simp[oZ],by simp,H.refl _ _⟩ ?_
    clear f0 f5 bQ bB dj f14 oZ;rintro vq jR _ f u16 ⟨d,rfl,bm,f0,f5,bQ,bB,dj,f14,oZ,Ev,wp⟩;have Ew:=alZ.hp wp;have al0:eJ w u16 vn m p 1000 cg z ig:=(ayb.hp wp).mV (λ_ e=>.inl e) zb.d';by_cases GB:d<2
    ·have Ex:(d:Int)<2:=by omega
     have lq:IntKind.i64.wrap ((d:Int)+1)=(d:Int)+1:=by rw[cz];omega
     obtain⟨uq,vr⟩:=AN.hL GB;rw[dO]at uq;simp[go_sem,f5,Ev,GB,Ex,Ew.nF.aI];refine(al0.count GB (by decide) (lI.use GB)).mono ?_;rintro _ fY ⟨rfl,aL⟩;unfold SO;rw[uq,vr];simp[go_sem,oZ,Ev,lq];exact ct.intro (2 -(d+1)) (by omega) (jR _ _ _ ⟨d+1,rfl,by omega,by simp[f0],by simp[f5],by simp[bQ],by simp[bB],by simp[dj],by simp[f14],by simp[oZ],by simp,(wp.trans aL).alloc _⟩)
    ·have Ex:¬(d:Int)<2:=by omega
     have adQ:nJ (u16.setRow x (wr p m cg z cJ)) x p m cg z cJ/\eJ w (u16.setRow x (wr p m cg z cJ)) vn m p 1000 cg z ig/\tu (u16.setRow x (wr p m cg z cJ)) eI (vo aw pG)/\bC (u16.setRow x (wr p m cg z cJ)) fe Jc.length (hg Jc):=by
      have c:=(H.refl (aj x) u16).setRow (g:=x) (.inl rfl) (wr p m cg z cJ);refine⟨⟨by rw[gh,Ew.nF.b];rfl,vm⟩,(al0.own c λk r=> ?_).mV (λk r=>.inl r) zb.d',Ew.nH.ch c λe=> ?_,Ew.dR.ch c λk r e=> ?_⟩
      ·simp only[aj]at r;rw[r];exact⟨Ew.Es,tq.Ym⟩
      ·simp only[aj]at e;omega
      ·simp only[aj]at e;have:=(alS k r).1;omega
     obtain⟨GC,Pe,Yn,Pf⟩:=adQ;have ayd:dT (wr p m cg z st) 6 (bN cJ)=wr p m cg z cJ:=aye tm vm;simp[go_sem,f0,f5,bQ,bB,dj,f14,oZ,Ev,Ex,Ew.st,qT,qU,Ew.nF.b,tn,eS,mW,ayd,eQ];exact ct.intro (L.length -(i+1)) (by omega) (bJ _ _ _ ⟨i+1,rfl,by omega,by simp[f0],by simp[f5],by simp,vn,eI,ig,cJ,vo aw pG,fe,Jc,by simp,by simp[bQ],⟨Pe,GC,Ew.Es,tq.Ym,Yn,Ew.Ma,Pf,Ew.Yk,alR,lI,alQ⟩,AN,by omega,ax4⟩)
   ·have adB:¬(i:Int)<L.length:=by omega
    simp[go_sem,f0,bB,cu,adA,adB];exact ady _ Gu.uo.ch λu ap=>by
     simp[go_sem];exact af _ _ ⟨rfl,ap⟩
  ·have SC:(10:Int)<LU.length:=by omega
   simp[go_sem,alw,SC];exact ady _ aY λu ap=>by
    simp[go_sem];exact af _ _ ⟨rfl,ap⟩
end Go.Proofs.YtoohkhcpboldjaaGreatDoor
namespace Go.Proofs.YtoohkhcpboldjaaGreatDoor
open Go.ChangeShapes Go.WideShapes Go.ChangeAt Go.RowKit Go.Kin Go.Proofs.Tryz
theorem ayf:joinedFacts Tryz.pinned.checked.prog 5 Tryz.f5 Rows.commitTellsSpec Rows.commitTellsRow=true:=by
 simp only[joinedFacts,ot]
 repeat' apply And.intro
 all_goals(as_aux_lemma=>kernel_rfl)
theorem ayg(os:Os)(adR:os.Started)(ba:Type)(enc:TypeId×N->ba):
  ReturnsInHanded {} Tryz.checked os 5 .any (λw args=>(Rows.commitTellsSpec.pre enc prog Tryz.f5 [] false w args/\laidMetH prog Rows.commitTellsRow.laid w)/\sizedMet enc prog Tryz.f5 (OpenSpec.ofChange Rows.commitTellsSpec) false w args)
   (Rows.commitTellsSpec.post enc prog Tryz.f5 false true false false):=by
 refine returnsInHanded_of_change_and (C:=Tryz.checked) (X:=λw _=>laidMetH prog Rows.commitTellsRow.laid w) (λ_ _ _ aN h=>h.of_heap aN) own adR (by kernel_rfl) func5
  (ChangeSpec.witness_at (enc:=enc) (C:=Tryz.checked) (os:=os) (X:=λw _=>laidMetH prog Rows.commitTellsRow.laid w) false (als os) #[.slice none 0 0,.slice none 0 0] 8 rfl (by kernel_rfl) (by kernel_rfl) (by kernel_rfl) (by kernel_rfl) (by kernel_rfl) (axt os _)) ?_
 intro Y base args qk fM before ayh fX _ _ b_ _;have Pg:∀(j:Nat) t v,Tryz.f5.params[j]? =some t->args[j]? =some v->Value.okWide prog Y .any base t v:=ayh;have ayi:=fX;obtain⟨p,q,AU,Mc,rfl,kP,kz⟩:=fX;have fp:DataW.TrodAll enc prog Y 0 (λ_=>true) true Tryz.f5.params.toList args.toList qk p:=AU;have ayj:=fp;rw[Tryz.params5]at fp Pg;obtain⟨v0,aQy,gW,aQz,mQ,fa,Yo,rfl,rfl,bi,fp⟩:=trodAll_cons fp;obtain⟨fY,aQA,dc,aQB,oY,hf,rfl,rfl,rfl,J,fp⟩:=trodAll_cons fp;obtain⟨rfl,rfl,rfl⟩:=trodAll_nil fp;obtain rfl:args=#[v0,fY]:=ip Yo;obtain⟨rfl,rfl⟩:=trodVars_none Mc;have tv:=Pg 0 22 v0 rfl rfl;have nL:=Pg 1 30 fY rfl rfl;obtain⟨eg,GD⟩:=axu tv bi;obtain⟨mx,gF,fb,cZ⟩:=axz underlying30 underlying39 (by kernel_rfl) nL J;refine(axC v0 fY eg mx Y (ads b_).1 (ads b_).2.1 (ads b_).2.2 GD gF fb cZ).calls.mono λe bG ⟨v,aV,aM,Z⟩=> ?_;subst aV;subst aM;exact⟨_,rfl,ayk aw4 ayi ayj rfl (by kernel_rfl) (by kernel_rfl) underlying4 rfl rfl Z.below⟩
theorem ayl:Rows.CommitTellsSaid:=
 OpenClaim.holds_of_wide 5 Tryz.f5 rfl rfl rfl rfl rfl rfl rfl ⟨rfl,rfl,rfl,rfl,rfl⟩ rfl rfl rfl rfl rfl (by kernel_rfl) func5 ayf
  (Xp (by kernel_rfl)) (by unfold Func.isWrapper;first|(rw[be (by decide+kernel)];kernel_rfl)|(rw[aQ (by decide+kernel)];exact⟨rfl,rfl⟩))
  (λos adR ba enc _=>ayg os adR ba enc)
theorem commitTells_holds:Rows.CommitTellsCardSaid:=
 Claim7.holds_tied_plain_at .later [] [.data,.data,.data,.data] true (true,"3611cedb9bffc3fca312311d615c33394a6cbe8a527f62451bcbb1803d81a56c") true
  ayl (λ_ h=>by cases h) (by kernel_rfl) (λ_ h=>by cases h) commitTells_row_tie rfl ⟨rfl,rfl⟩ (by kernel_rfl) rfl
  (λf fn bP oC=>by
   obtain rfl:f=5:=sb ((show prog.funcNamed "kintsugi/kintsugilaw17.CommitTells"=some 5 by kernel_rfl).symm.trans bP)|>.symm;obtain rfl:fn=Tryz.f5:=(sb (func5.symm.trans oC)).symm;exact⟨by kernel_rfl,λj t bj=>aw7 (by kernel_rfl) j t bj⟩)
  (by kernel_rfl)
#print axioms commitTells_holds
end Go.Proofs.YtoohkhcpboldjaaGreatDoor
