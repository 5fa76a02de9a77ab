/- A file system that is new, in plain Lean: the first commit, and what it leaves. They speak of no memory. No condition. -/
import Derived.Test.YtoohkhcpboldjaaGreatDoorMtL
import Derived.Test.YtoohkhcpboldjaaGreatDoorRows
import Derived.Test.YtoohkhcpboldjaaGreatDoorCards
import Derived.Test.YtoohkhcpboldjaaGreatDoorTie
import Derived.ProofKit
import Derived.LaidSub
import Derived.LaidHandle
import Derived.SevenTiedAt
set_option maxRecDepth 100000
set_option linter.unusedSimpArgs false
set_option linter.unusedVariables false
namespace Go.Proofs.YtoohkhcpboldjaaGreatDoor
open Go.RowKit Go.Kin
section
variable{n:Nat}{bS:Nat->Bool}{x:hK}{st:e'}{v:List br}{lf:Nat->Nat->Option (List UInt8)}{c:hT}{dp aD:List Pt}{O:lh}{t:dy}{p:Pt}
theorem axJ(ok:bN p)(aw:wz p)(aH:iX p=true):(pa p).length<=fm p.k:=by
 obtain⟨a,b,e,am,fE⟩:=aw;have bH:=axK ok aH;rw[Fs e am];rw[Kz e rfl]at aH;simp only[Bool.and_eq_true,Bool.not_eq_true',BC,Bool.or_eq_false_iff,Bool.and_eq_false_iff]at aH
 grind
theorem ajt:∀l:List Pt,(∀p∈l,bN p/\wz p/\iX p=true)->(bp l).length<=fU l
 |[],_=>Nat.le_refl _
 |p::l,h=>by
  have H:=ajt l λq aq=>h q (by simp[aq]);obtain⟨o,s,m⟩:=h p (by simp);have I:=axJ o s m;have e:bp (p::l)=pa p++bp l:=rfl;have aW:fU (p::l)=fm p.k+fU l:=by unfold fU;rfl
  grind
theorem aju:∀l:List Pt,(∀p∈l,(pa p).length=fm p.k)->(bp l).length=fU l
 |[],_=>rfl
 |p::l,h=>by
  have H:=aju l λq aq=>h q (by simp[aq]);have I:=h p (by simp);have e:bp (p::l)=pa p++bp l:=rfl;have aW:fU (p::l)=fm p.k+fU l:=by unfold fU;rfl
  grind
theorem lI.Pm(h:lI c t){b:Nat}(bH:fU t.bI<=b)(ap:(bp c.dP).length+b+1<c.n):¬Ty c t:=λbU=>by
 have H:=Ul (List.range' 1 (c.n - 1)) (bp (c.dP++t.bI)) List.nodup_range' λa am=>by
  rw[List.mem_range'_1]at am;exact bU a am.1 (by omega)
 have I:=ajt t.bI λp ah=>h.vr p (List.mem_append.2 (.inr ah));rw[wB,List.length_append,List.length_range']at H;omega
theorem iV.hf(h:iV n bS x st v lf c dp aD O){i:Nat}(aa:i<2):x.s.eN i 1 n=(bp c.dP).length:=by
 have jK:(bp c.dP).Nodup:=by have:=h.ok.bL.bZ;rwa[List.append_nil]at this
 have axL:∀a∈bp c.dP,1<=a/\a<n:=λa am=>by have:=h.ok.bL.su a (by grind);rw[h.n]at this;exact this
 unfold ao.eN;rw[List.countP_eq_length_filter];have aH:∀a,a∈(List.range n).filter (λa=>decide (1<=a)&&decide (x.s.use i a=1))↔a∈bp c.dP:=λa=>by
  rw[List.mem_filter,List.mem_range,Bool.and_eq_true,decide_eq_true_eq,decide_eq_true_eq];constructor
  ·rintro⟨H,I,af⟩;rw[h.ajf aa I H]at af
   grind
  ·intro e;have ap:=axL a e;exact⟨ap.2,ap.1,by rw[h.ajf aa ap.1 ap.2,if_pos e]⟩
 exact Nat.le_antisymm (Ul _ _ (List.nodup_range.filter _) λa am=>(aH a).1 am) (Ul _ _ jK λa am=>(aH a).2 am)
end
open Go.Maps
section
variable{N w w':World}{K S:Nat->Prop}{x m p n bF:Nat}{z:fe}{X ow:hK}{st:e'}
theorem ty.ch(h:ty w x p m bF z st)(T:D S w w')(M:¬S x):ty w' x p m bF z st:=⟨T.obj h.blk M,h.ok⟩
theorem ty.aI(h:ty w x p m bF z st):w.cell? ⟨x,1,none⟩=some (.pointer (some ⟨z.d 0,0,none⟩)):=(aG h.blk 1).trans axi
theorem ty.aA(h:ty w x p m bF z st):w.cell? ⟨x,2,none⟩=some (.pointer (some ⟨z.d 1,0,none⟩)):=(aG h.blk 2).trans axj
theorem ty.bx(h:ty w x p m bF z st):w.cell? ⟨x,5,none⟩=some (.pointer (some ⟨bF,0,none⟩)):=(aG h.blk 5).trans axk
theorem lc.aaS{w0:World}{O:Nat->Prop}(h:lc m p n bF z X w O)(eV:∀k,O k->w0.1.size<=k)(T:D ak w0 w)(ck:hj w0)(fd:ja w0)(fo:qs w0):eI w0 w (λk=>k<w.1.size/\¬O k) m p n bF z X:=
 ⟨⟨O,h,eV,λ_ r=>r.2⟩,λ_ r=>r.1,ck,fd,fo,λk r=>⟨Nat.lt_of_lt_of_le (Fh ck fd fo k r) T.size,λe=>by have:=eV k e;have:=Fh ck fd fo k r;omega⟩,T⟩
end
theorem axM{x:e'}:(cz x)[0]? =some (.int .u64 x.gen):=by simp[cz,Array.getElem?_append]
end Go.Proofs.YtoohkhcpboldjaaGreatDoor
namespace Go.Proofs.YtoohkhcpboldjaaGreatDoor
open Go.ChangeShapes Go.WideShapes Go.ChangeAt Go.RowKit Go.Kin
theorem own:ownKnob Tryz.prog.godebug=none:=by kernel_rfl
theorem axN:laidOutB Tryz.prog=true:=by kernel_rfl
theorem axO:Tryz.prog.globalNamed "kintsugi/ptr.wide"=some 0:=by kernel_rfl
theorem axP:(Tryz.prog.globals[(0:Nat)]?).map (·.type)=some 328:=by kernel_rfl
theorem axQ{P:Program}{ps:Array TypeId}(h:(ps.toList.all λt=> !P.wantsStandIn t)=true)(j:Nat)(t:TypeId)(bd:ps[j]? =some t):P.wantsStandIn t=false:=by
 grind
def Un:List Int:=[1116352408,1899447441,3049323471,3921009573,961987163,1508970993,2453635748,2870763221,3624381080,310598401,607225278,1426881987,1925078388,2162078206,2614888103,3248222580,3835390401,4022224774,264347078,604807628,770255983,1249150122,1555081692,1996064986,2554220882,2821834349,2952996808,3210313671,3336571891,3584528711,113926993,338241895,666307205,773529912,1294757372,1396182291,1695183700,1986661051,2177026350,2456956037,2730485921,2820302411,3259730800,3345764771,3516065817,3600352804,4094571909,275423344,430227734,506948616,659060556,883997877,958139571,1322822218,1537002063,1747873779,1955562222,2024104815,2227730452,2361852424,2428436474,2756734187,3204031479,3329325298]
theorem axR:Un=zW.map λn:Nat=>(n:Int):=by decide+kernel
theorem axS:Tryz.prog.globalNamed "kintsugi/sha.constants"=some 3:=by kernel_rfl
theorem axT:(Tryz.prog.globals[(3:Nat)]?).map (·.type)=some 407:=by kernel_rfl
theorem axU{bc:Type}:(Rows.laid_kintsugi_sha_constants:DataW bc)=.agg (Un.map λz=>.lit (.int .u32 z)):=rfl
theorem axV:Tryz.prog.globalNamed "kintsugi/inode.leaves"=some 1:=by kernel_rfl
theorem axW:(Tryz.prog.globals[(1:Nat)]?).map (·.type)=some 336:=by kernel_rfl
section
variable{bc:Type}{enc:TypeId×Value->bc}{P:Program}{N:World}{base:Nat}{FL:Nat->Bool}{held:Bool}{iF:Nat}{cs:List Value}{x:DataW bc×List MemPlace}
theorem La{t:TypeId}{k:IntKind}(aV:P.underlying t=some (.int k))(h:DataW.trod enc P N base FL held iF t cs=some x)(M:x.1=.lit (.int k 0)):cs=[.int k 0]:=by
 obtain⟨n,rfl,rfl,_⟩:=DataW.trod_int aV h;simp at M;rw[M]
theorem ajv{t e:TypeId}{n:Nat}{k:IntKind}(bd:P.underlying t=some (.array n e))(aV:P.underlying e=some (.int k))(T:P.cellsOf e=1)(av:P.cellsOf t=n)(h:DataW.trod enc P N base FL held iF t cs=some x)(M:x.1=.agg (List.replicate n (.lit (.int k 0)))):cs=List.replicate n (.int k 0):=by
 obtain⟨xs,m,_,rfl,al,lr,aa⟩:=DataW.trod_array bd h;simp at M;apply List.ext_getElem?;intro i;by_cases hR:i<n
 ·have:=aa i hR;rw[T,Nat.mul_one,List.getElem?_eq_getElem (by omega)]at this;have aK:(xs[i]'(by omega)).1=.lit (.int k 0):=by
   have I:=congrArg (λl=>l[i]?) M;simp only[List.getElem?_map,List.getElem?_replicate,if_pos hR]at I;rw[List.getElem?_eq_getElem (by omega)]at I;simpa using I
  have af:=La aV this aK;have aU:((cs.drop i).take 1)[0]? =some (.int k 0):=by rw[af];rfl
  grind
 grind
end
theorem ajw:Tryz.prog.globalNamed "kintsugi/tree.hole"=some 2:=by kernel_rfl
theorem axX:(Tryz.prog.globals[(2:Nat)]?).map (·.type)=some 44:=by kernel_rfl
theorem axY:(Y ad).toList=[.int .u8 0,.int .u8 0,.int .u16 0,.int .u32 0,.int .u64 0]++(List.replicate 32 (.int .u8 0)++List.replicate 4 (.int .u16 0)):=by rfl
section
variable{bc:Type}{enc:TypeId×Value->bc}{N:World}{base:Nat}{FL:Nat->Bool}{held:Bool}{iF:Nat}{cs:List Value}{x:DataW bc×List MemPlace}
theorem axZ(h:DataW.trod enc Tryz.prog N base FL held iF 44 cs=some x)(M:x.1=Rows.laid_kintsugi_tree_hole):cs=(Y ad).toList:=by
 obtain⟨xs,m,_,rfl,al,lr,bU⟩:=DataW.trod_struct Tryz.underlying44 h;have T:Tryz.prog.cellsOf 44=41:=by kernel_rfl
 rw[T]at al
 match xs,lr with
 |[zl,gM,gN,iO,pj,uY,aad],_=>
  have f0:=bU 0 _ rfl;have a_:=bU 1 _ rfl;have bh:=bU 2 _ rfl;have bV:=bU 3 _ rfl;have cr:=bU 4 _ rfl;have cN:=bU 5 _ rfl;have f6:=bU 6 _ rfl;unfold Rows.laid_kintsugi_tree_hole at M;simp only[List.map_cons,List.map_nil,DataW.agg.injEq,List.cons.injEq,and_true]at M;obtain⟨lZ,ey,cZ,iq,jk,BM,OF⟩:=M;have ev:Tryz.prog.cellsOf 5=1:=by kernel_rfl
  have Pn:Tryz.prog.cellsOf 39=1:=by kernel_rfl
  have ax0:Tryz.prog.cellsOf 40=1:=by kernel_rfl
  have aaf:Tryz.prog.cellsOf 38=1:=by kernel_rfl
  have fK:Tryz.prog.cellsOf 41=32:=by kernel_rfl
  have EV:Tryz.prog.cellsOf 42=4:=by kernel_rfl
  have r:(cs.drop 0).take (Tryz.prog.cellsOf 5)=_:=La Tryz.underlying5 f0 lZ;have ij:(cs.drop 1).take (Tryz.prog.cellsOf 5)=_:=La Tryz.underlying5 a_ ey;have aB:(cs.drop 2).take (Tryz.prog.cellsOf 39)=_:=La Tryz.underlying39 bh cZ;have TY:(cs.drop 3).take (Tryz.prog.cellsOf 40)=_:=La Tryz.underlying40 bV iq;have V:(cs.drop 4).take (Tryz.prog.cellsOf 38)=_:=La Tryz.underlying38 cr jk;have ajx:(cs.drop 5).take (Tryz.prog.cellsOf 41)=_:=ajv Tryz.underlying41 Tryz.underlying5 ev fK cN BM;have rk:(cs.drop 37).take (Tryz.prog.cellsOf 42)=_:=ajv Tryz.underlying42 Tryz.underlying39 Pn EV f6 OF;rw[ev]at r ij;rw[Pn]at aB;rw[ax0]at TY;rw[aaf]at V;rw[fK]at ajx;rw[EV]at rk;have st:∀i j,(cs.drop i).take j++cs.drop (i+j)=cs.drop i:=λi j=>by rw[<-List.drop_drop,List.take_append_drop]
  have aK:cs=(cs.drop 0).take 1++((cs.drop 1).take 1++((cs.drop 2).take 1++((cs.drop 3).take 1++((cs.drop 4).take 1++((cs.drop 5).take 32++(cs.drop 37).take 4))))):=by
   rw[List.take_of_length_le (i:=4) (by simp;omega),st 5 32,st 4 1,st 3 1,st 2 1,st 1 1,st 0 1,List.drop_zero]
  rw[aK,r,ij,aB,TY,V,ajx,rk,axY];rfl
end
theorem ax1{w:World}(h:laidMet Tryz.prog [("kintsugi/tree.hole",Rows.laid_kintsugi_tree_hole)] w):aew w:=by
 obtain⟨ps,⟨l_,er,cs,iF,p,q,H,I,af,aU,_⟩,_⟩:=h;rw[ajw]at H;obtain rfl:=Option.some.inj H;rw[axX]at I;obtain rfl:=Option.some.inj I;have gu:=axZ aU rfl;have al:fA w (.slice (some ⟨2,0,none⟩) 1 1) (λp=>(Y p).toList) 41 [ad]:=by
  have kz:∀i u,(Y ad).toList[i]? =some u->w.cell? ⟨2,i,none⟩=some u:=λi u an=>by
   rw[World.var?_cell ajw af i,<-an,<-gu];simp
  refine⟨_,1,rfl,Nat.le_refl _,by decide,λ_=>⟨_,_,rfl,World.block_lt_of_cell? w _ (kz 0 _ rfl),λj a i u F an=> ?_⟩⟩
  cases j with
  |zero=>
   grind
  |succ j=>simp at F
 obtain⟨b,off,c,Po,bl,fr,e,V,M,hz⟩:=al.CU (by decide) (λq aq=>by simp at aq;subst aq;exact bW cE) (i:=0) rfl;injection e with aK _ _;injection aK with aK;injection aK with aW dt;subst aW dt;exact⟨Po,bl,fr,V,by simpa using M,by simpa using hz⟩
section
variable{bc:Type}{enc:TypeId×Value->bc}{N:World}{base:Nat}{FL:Nat->Bool}{held:Bool}{iF:Nat}{cs:List Value}{x:DataW bc×List MemPlace}
end
abbrev aaT{bc:Type}:List (String×DataW bc):=[("kintsugi/sha.constants",Rows.laid_kintsugi_sha_constants),("kintsugi/ptr.wide",Rows.laid_kintsugi_ptr_wide),("kintsugi/inode.leaves",Rows.laid_kintsugi_inode_leaves),("kintsugi/tree.hole",Rows.laid_kintsugi_tree_hole)]
theorem aaU{w:World}(h:laidMetH Tryz.prog aaT w):hj w/\ja w/\qs w:=by
 have h':laidMet Tryz.prog aaT w:=h;have bH:laidMet Tryz.prog [("kintsugi/ptr.wide",.agg (([0,1,2,2,2,2]:List Int).map λz=>.lit (.int .i64 z)))] w:=h'.filter λx=>x.1== "kintsugi/ptr.wide";have r:laidMet Tryz.prog [("kintsugi/sha.constants",Rows.laid_kintsugi_sha_constants)] w:=h'.filter λx=>x.1== "kintsugi/sha.constants";have al:laidMet Tryz.prog [("kintsugi/inode.leaves",.agg (([0,1,2,2]:List Int).map λz=>.lit (.int .u8 z)))] w:=h'.filter λx=>x.1== "kintsugi/inode.leaves";have aD:laidMet Tryz.prog [("kintsugi/tree.hole",Rows.laid_kintsugi_tree_hole)] w:=h'.filter λx=>x.1== "kintsugi/tree.hole";refine⟨⟨aaV axO axP Tryz.underlying328 Tryz.underlying3 (by kernel_rfl) (by kernel_rfl) rfl bH,ax1 aD⟩,λi aa=> ?_,aaV axV axW Tryz.underlying336 Tryz.underlying5 (by kernel_rfl) (by kernel_rfl) rfl al⟩;rw[axU]at r;have:=aaV axS axT Tryz.underlying407 Tryz.underlying40 (by kernel_rfl) (by kernel_rfl) rfl r;have al:zW.length=64:=rfl;have e:Un[i]? =some ((zW.getD i 0:Nat):Int):=by
  rw[axR,List.getElem?_map,List.getD_eq_getElem?_getD,List.getElem?_eq_getElem (by omega)];rfl
 exact this i _ e
noncomputable def ajy(os:Os):World:=
 let w0:=World.holding Tryz.prog os ⟨#[],#[],[]⟩
 {w0 with heap:=((w0.1.modify 0 λ
   |.cells _ t frozen=>.cells #[.int .i64 0,.int .i64 1,.int .i64 2,.int .i64 2,.int .i64 2,.int .i64 2] t frozen
   |o=>o).modify 3 λ
   |.cells _ t frozen=>.cells (Un.map λz=>Value.int .u32 z).toArray t frozen
   |o=>o).modify 1 λ
   |.cells _ t frozen=>.cells #[.int .u8 0,.int .u8 1,.int .u8 2,.int .u8 2] t frozen
   |o=>o}
theorem ax2(os:Os)(args:Array Value):laidMetH Tryz.prog aaT ((ajy os).forCall (λ_ _=>0) ⟨#[],args,[]⟩).memory:=
 laidMetH_of_parts (laidMet_of_run' 8 (by kernel_rfl) (by kernel_rfl)) (by kernel_rfl)
end Go.Proofs.YtoohkhcpboldjaaGreatDoor
namespace Go.Proofs.YtoohkhcpboldjaaGreatDoor
open Go.RowKit Go.Kin
def jx:br:=⟨2,2,0,ad⟩
theorem HZ:gR jx:=⟨by decide,by decide,by decide,cE⟩
theorem ajd:fI jx=true:=by decide
def oX:fM:=fM.fh.BS 1 jx
theorem ajz(k:Nat)(r:k<=255):oX.bk (Fin.ofNat _ k)=if k=1 then some jx else none:=by
 have e:oX={fM.fh with bk:=λa=>if a=1 then some jx else fM.fh.bk a}:=by
  unfold oX fM.BS;rfl
 rw[e];simp only;by_cases h:k=1
 ·subst h;rfl
 ·rw[if_neg h,if_neg λe=>h (by have:=congrArg Fin.val e;grind)];rfl
theorem Uk:oX={fM.fh with bk:=λa=>if a=1 then some jx else none}:=by
 rfl
theorem axb:oX.nB:=by
 rw[Uk];refine⟨λa x h=> ?_,λa o x h=>(by cases h),λa h=>(by cases h)⟩;simp only at h;split at h
 ·rename_i e;rw[e];decide
 ·cases h
theorem axc:Hv oX [1]:=by
 refine⟨by simp,λa=> ?_⟩;rw[Uk,List.mem_singleton];unfold fM.any;simp only[fM.fh]
 grind
theorem Pp(k:Nat):(hJ oX).ch k=[]:=by
 rfl
theorem ajA:ZV (hJ oX) zX ([(1:em)].map (·.val)):=by
 have own:∀k x,(hJ oX).own k=some x->x=jx:=λk x h=>by
  have h:oX.bk _=some x:=h;rw[Uk]at h
  grind
 refine⟨⟨λk x h=>by rw[own k x h];exact⟨HZ,ajd⟩,λk gl h=>(by rw[Pp]at h;cases h),λk=>(by rw[Pp];exact List.Pairwise.nil)⟩,λk bH hz ap=>absurd (by rw[aaC];rfl) ap,by simp,λk r=> ?_,λk H I r=>⟨?_,?_,Pp k⟩⟩
 ·grind
 ·show oX.bk (Fin.ofNat _ k)=none;rw[ajz k I,if_neg λe=>r (by rw[e];simp)]
 rfl
section
variable{n:Nat}{bS:Nat->Bool}{x:hK}{st:e'}{v:List br}{lf:Nat->Nat->Option (List UInt8)}{c:hT}{dp aD:List Pt}{O:lh}{has:Pt->List UInt8->Prop}
theorem mL.none{y:br}{top h:List Pt}{l:Nat->Option (List UInt8)}(b:mL has y top h l)(al:∀o,o<64->l o=none):y.J=ad/\∀p,p≠ad->mM y.J top h p=0:=by
 have hz:∀o,o<64->h.getD o ad=ad:=λo aB=>by
  rcases b.jO o aB with⟨e,_⟩|⟨_,_,z,_,e⟩
  ·exact e
  ·rw[al o aB]at e;cases e
 have ap:h=List.replicate 64 ad:=by
  refine List.ext_getElem (by rw[b.oq.al,List.length_replicate]) λo H I=> ?_;have:=hz o (by rw[b.oq.al]at H;exact H);rw[List.getD_eq_getElem?_getD,List.getElem?_eq_getElem H]at this;rw[List.getElem_replicate];exact this
 have bd:top=dY:=by
  have aF:∀g,g<8->top.getD g ad=ad:=λg aF=>by
   have:=b.oq.zN aF;rw[ah6]at this;refine Classical.byContradiction λe=>(this.2 e) ?_;rw[ap];unfold it
   grind
  rw[TC b.oq.ho.ez.len];unfold dY;rw[List.map_congr_left λg ax3=>aF g (List.mem_range.1 ax3)];rfl
 have ar:=b.oq.ho.iff.2 bd;refine⟨ar,λp ah=> ?_⟩;unfold mM;have a':List.count p dY=0:=List.count_eq_zero.2 λe=>ah (List.mem_replicate.1 e).2;have aX:List.count p (List.replicate 64 ad)=0:=List.count_eq_zero.2 λe=>ah (List.mem_replicate.1 e).2;rw[ar,bd,ap,if_neg λe=>ah e.symm,a',aX]
theorem iV.perm(h:iV n bS x st v lf c dp aD O)(al:∀k,1<=k->k<=255->∀o,o<64->lf k o=none)(bd:st.top≠ad):c.dP.Perm (st.top::(pD st.cO dp++(nQ aD 64).map (·.2))):=by
 have nU:ad∉st.top::(pD st.cO dp++(nQ aD 64).map (·.2)):=by
  rw[List.mem_cons,List.mem_append,List.mem_map];rintro(e|e|⟨y,ar,e⟩)
  ·exact bd e.symm
  ·unfold pD at e
   grind
  ·obtain⟨o,_,aW⟩:=List.mem_filterMap.1 ar
   grind
 rw[List.perm_iff_count];intro y;by_cases ar:y=ad
 ·rw[ar,List.count_eq_zero.2 h.nU,List.count_eq_zero.2 nU]
 ·rw[h.eN y ar,List.count_cons,List.count_append,<-Nat.add_comm (List.count y ((nQ aD 64).map (·.2))),<-List.count_append,h.uy.kT.lK.count ar];unfold uv;have aw:∀l:List Nat,(∀k∈l,k∈lJ)->hN l (O.eN y)=0:=by
   intro l
   induction l with
   |nil=>intro _;rfl
   |cons k l bG=>
    intro r;obtain⟨a',aX⟩:=Fu.1 (r k (by simp));rw[vs,bG λj F=>r j (by simp[F])];exact(mL.none (h.uy.nK k a' aX) (al k a' aX)).2 y ar
  rw[aw lJ λ_ h=>h];by_cases e:st.top=y
  ·simp[e];omega
  ·simp[e]
end
theorem ax4{n:Nat}(H:24<=n)(I:n<=65536):∃aI:hT,aI.n=n/\aI.aT=1/\∃iC fT c dp aD O v lf,rz aI ⟨ao.fh,oT⟩ dO oX [1]=(iC,fT,0)/\fT.gen=1/\iV n (λ_=>false) iC fT v lf c dp aD O/\c.ip=false/\
  wL v 256=[(1,jx)]/\v.getD 1 bA=jx/\(∀k,1<=k->k<=255->∀o,lf k o=none)/\(bp c.dP).length=8/\hP (4*n) iC.s/\fT.top.k=5/\iC.cy≠oT:=by
 have bf:=iV.start I;refine⟨{FJ n with aT:=dO.gen+1},rfl,rfl,?_⟩;have aq:=bf.ax5 rfl (by decide) (by decide) ajA rfl hP.start;have ajB:hN ([(1:em)].map (·.val)) ((hJ oX).zQ zX)+2*(([(1:em)].map (·.val)).length+10)=22:=by
  have:∀k,(hJ oX).zQ zX k=0:=λk=>by unfold no.zQ;rw[Pp];simp
  simp[hN,this]
 rcases bf.ZX rfl (by decide) I ajA (by simp) rfl with⟨iC,fT,W,wF,qn,O',dg,aK,aW,dt,cW,fD,hw,hi,t1,a_,bh,bV⟩|⟨iC,e,t1,aK,aW,dt,cW,fD,hw,hi,bh⟩
 ·rw[ajB]at bh;have aaW:=a_.Pm bh (by show 0+22+1<n;omega);rw[aK,Nat.zero_add]at aq;have lF:=hi 1 (by simp);have ax6:(hJ oX).nj zX 1=jx:=by
   show(oX.bk (Fin.ofNat _ 1)).getD _=jx;rw[ajz 1 (by decide),if_pos rfl];rfl
  rw[ax6,if_neg (by decide)]at lF;have zP:fT.gen=1:=by rw[aW];rfl
  have sw:0<fT.gen/\fT.top.k=5/\fT.top∈dg.dP/\ku iC.s fT.top (nH (fT.gen,fT.cO))/\fT.top=pA iC.cy/\iC.cy.1=fT.gen:=by
   rcases cW.top with⟨k,_,_⟩|k
   ·rw[k]at zP;exact absurd zP (by decide)
   ·exact k
  have al:∀k o,OB (hJ oX) zX (λ_ _=>none) ([(1:em)].map (·.val)) k o=none:=λk o=>by
   unfold OB;split
   ·unfold no.lf Lb;rw[Pp];split
    ·rfl
    ·have:Pq [] o=none:=rfl;rw[this];simp
   ·rfl
  have Uo:W.getD 1 bA=jx:=by
   have ap:=(mL.none (cW.uy.nK 1 (by decide) (by decide)) λo _=>al 1 o).1;rw[cW.uy.x 1 (by decide) (by decide)]at ap;rw[lF,ap];rfl
  have hz:∀k,k≠1->k<=255->W.getD k bA=bA:=λk r jX=>by
   by_cases bf:k=0
   ·subst bf;exact cW.uy.kT.v0
   ·have:=hw k (by omega) jX (by simpa using r);rw[this,aaC]
  have Ns:∀k,k<=254->wL W (2+k)=[(1,jx)]:=by
   intro k
   induction k with
   |zero=>
    intro _;rw[Up,Up,hz 0 (by decide) (by decide),if_pos rfl,Uo,if_neg (by decide)];rfl
   |succ k bG=>
    intro r;rw[<-Nat.add_assoc,Up,hz (2+k) (by omega) (by omega),if_pos rfl,bG (by omega)];rfl
  refine⟨iC,fT,dg,wF,qn,O',W,_,aK,zP,cW,dt,Ns 254 (Nat.le_refl _),Uo,λk _ _ o=>al k o,?_,aq,sw.2.1,λe=>by
   have k:=sw.2.2.2.2.2;rw[e,zP]at k;exact absurd k (by decide)⟩
  have bH:∀p∈dg.dP,(pa p).length=fm p.k:=λp ah=>by
   rcases bV p ah with k|k
   ·cases k
   ·exact(a_.wide.resolve_right aaW) p k
  rw[aju _ bH,cW.uy.KD (λe=>by have:=sw.2.1;rw[e]at this;cases this) sw.2.1 cW.nU cW.eN];have bU:lJ.filter (λk=>decide (W.getD k bA≠bA))=[1]:=by
   rw[List.filter_congr (q:=λk=>decide (k=1)) λk r=> ?_]
   ·decide
   ·have r:=Fu.1 r;by_cases H:k=1
    ·subst H;rw[Uo];decide
    ·rw[hz k H r.2];simp[H]
  have ax7:wD W (OB (hJ oX) zX (λ_ _=>none) ([(1:em)].map (·.val)))=[(1,2,List.replicate 64 false)]:=by
   unfold wD;rw[bU];simp only[List.map_cons,List.map_nil];rw[Uo];have eG:∀o,OB (hJ oX) zX (λ_ _=>none) [(1:em).val] 1 o=none:=al 1;simp only[eG];rfl
  rw[ax7];decide
 ·exfalso;rw[ajB]at bh;have aaW:=fD.Pm bh (by show 0+22+1<n;omega);rcases hi with⟨_,k,_⟩|⟨_,k,_⟩
  ·cases k
  ·exact aaW k
def hK.iE(X:hK):hK:=⟨{ao.fh with au:=X.s.au,P:=X.s.P},X.cy⟩
section
variable{n b:Nat}{bS:Nat->Bool}{x y:hK}{st:e'}{v:List br}{lf:Nat->Nat->Option (List UInt8)}{c:hT}{dp aD:List Pt}{O:lh}
theorem iV.ajC(h:iV n bS x st v lf c dp aD O)(am:p' x.s)(bi:y.s.au=x.s.au)(dZ:y.s.P=x.s.P):∀p b,(p∈c.dP/\ku x.s p b)->kU n y p=(y,b,0):=by
 rintro p b ⟨ah,V⟩;obtain⟨ok,⟨a,ih,e,M,vd⟩,aH⟩:=h.ok.bL.vr p (List.mem_append.2 (.inl ah));have mD:a∈pa p:=by rw[Fs e M];split<;>simp
 have oS:=(h.ok.bL.su a (Bz.2 ⟨p,List.mem_append.2 (.inl ah),mD⟩)).2;rw[h.n]at oS;have:=Tw (n:=n) (s:=y.s) aH e M (by rw[bi];exact h.ok.bL.wA) (by rw[dZ];exact am.1) (by rw[bi];exact am.2) oS V.1 (by rw[bi];exact λi aa Bo=>V.2 am i aa Bo a mD);unfold kU;rw[this]
theorem iV.ax8(h:iV n bS x st v lf c dp aD O)(am:p' x.s)(bi:y.s.au=x.s.au)(dZ:y.s.P=x.s.P):uw (kU n) y x.cy=(y,st,0)\/st=dO:=by
 rcases h.top with⟨aK,aW,_⟩|⟨H,I,af,aU,bC,cG⟩
 ·exact .inr aK
 ·left;unfold uw;have da:x.cy≠oT:=λe=>by rw[e]at cG;have:(0:Nat)=st.gen:=cG;omega
  have aH:=(h.ok.bL.vr st.top (List.mem_append.2 (.inl af))).2.2;rw[if_neg da,<-bC,if_neg (by rw[aH];simp)];simp only;rw[h.ajC am bi dZ _ _ ⟨af,aU⟩];simp only[ne_eq,not_true_eq_false,if_false];have Pr:xV (st.gen,st.cO):=⟨h.pB.gen,h.pB.cO⟩;have bd:=ax9 Pr;have aF:H' st.cO=true:=by
   unfold H';rcases h.uy.kT.lK.ho.dn with⟨e,_⟩|⟨_,_,k,_⟩
   ·rw[e];decide
   ·rw[(h.ok.bL.vr st.cO (List.mem_append.2 (.inl k.1))).2.2];simp
  rw[aF]at bd;rw[bd];simp[cG]
structure ax_(n b:Nat)(x:hK)(st:e')(v:List br)(lf:Nat->Nat->Option (List UInt8))(c:hT)(dp aD:List Pt)(O:lh)(ps:List Pt):Prop where
 op:uw (kU n) x.iE x.cy=(x.iE,st,0)
 all:vv (kU n) x.iE st.cO=(x.iE,wL v 256,ps,0)
 ok:∀q∈ps,bN q
 len:ps.length<=1000
 ax':tv n x.iE.s (st.top::ps)
 dn:iV n (λ_=>false) ⟨x.iE.s.iJ n (st.top::ps),x.cy⟩ st v lf c dp aD O
 ajD:hP b (x.iE.s.iJ n (st.top::ps))
 zM:hP b x.iE.s
theorem iV.aya(h:iV n (λ_=>false) x st v lf c dp aD O)(jS:c.ip=false)(al:∀k,1<=k->k<=255->∀o,lf k o=none)(r:st.top.k=5)(Q:hP b x.s):ax_ n b x st v lf c dp aD O (pD st.cO dp++(nQ aD 64).map (·.2)):=by
 have am:=h.aaX jS (by decide);have bd:st.top≠ad:=λe=>by rw[e]at r;cases r
 have ah:=h.perm (λk a' aX o _=>al k a' aX o) bd;obtain⟨ps,cU⟩:=az (pD st.cO dp++(nQ aD 64).map (·.2));have fq:=h.uy.kT.aaO (h.ajC (y:=x.iE) am rfl rfl);rw[cU]at ah fq⊢;have ajE:∀q∈st.top::ps,bN q/\wz q/\iX q=true:=λq aq=>h.ok.bL.vr q (List.mem_append.2 (.inl (ah.mem_iff.2 aq)));have Uq:(bp c.dP).Perm (bp (st.top::ps)):=ah.flatMap_right pa;have ajF:=λq aq=>(ajE q aq).2.1;have OA:tv n x.iE.s (st.top::ps):=by
  refine⟨ajF,?_,λa am=> ?_,λi _ a _=>rfl⟩
  ·have:=h.ok.bL.bZ;rw[List.append_nil]at this;exact Uq.nodup_iff.1 this
  ·have:=h.ok.bL.su a (by rw[List.append_nil];exact Uq.mem_iff.2 am);rw[h.n]at this;exact this
 obtain⟨S,an⟩:=aaQ (n:=n) (st.top::ps) x.iE.s ajF;have zM:hP b x.iE.s:=⟨λ_=>rfl,λ_=>rfl,rfl,Q.bB⟩;refine⟨(h.ax8 (y:=x.iE) am rfl rfl).resolve_right λe=>by rw[e]at bd;exact bd rfl,fq,λq aq=>(ajE q (by simp[aq])).1,?_,OA,h.axH (y:=⟨x.iE.s.iJ n (st.top::ps),x.cy⟩) S.au S.P rfl (λi _ a=>by rw[show(ao.iJ n (st.top::ps) x.iE.s).dV=x.iE.s.dV from S.dV];rfl) λi aa a a1 a2=> ?_,⟨?_,?_,?_,?_⟩,zM⟩
 ·rw[<-cU,List.length_append,List.length_map];have a':(pD st.cO dp).length<=9:=by
   unfold pD;split
   ·simp
   ·have:=List.length_filter_le (λp=>decide (p≠ad)) dp;have:=h.uy.kT.lK.ho.ez.len;simp only[List.length_cons];omega
  have aX:(nQ aD 64).length<=64:=Nat.le_trans (List.length_filterMap_le _ _) (by simp);omega
 ·rw[an i aa a a1 a2];have pd:x.iE.s.use i a=0:=rfl;rw[pd];by_cases e:a∈bp c.dP
  ·rw[if_pos ⟨Uq.mem_iff.1 e,rfl⟩,if_pos e]
  ·rw[if_neg λaW=>e (Uq.mem_iff.2 aW.1),if_neg e]
 ·rw[S.ep];exact zM.ep
 ·rw[S.e_];exact zM.e_
 ·rw[S.dx];exact zM.dx
 ·rw[S.au];exact zM.bB
theorem ayb{s:ao}(dZ:s.P=ek.on)(T:∀i,tq (s.au i))(Q:hP b s){cp:dy->Nat}(ds:jM cp):700000 - b<=f_ cp ⟨s,[],[]⟩:=by
 have gJ:=Q.kI dZ T;have Ps:dy.Fn ⟨s,[],[]⟩ b:=⟨gJ,Nat.zero_le _⟩;unfold f_;rcases ds ⟨s,[],[]⟩with k|k
 ·have:=k.2 _ Ps;omega
 ·exact absurd Ps (k.1 _)
end
end Go.Proofs.YtoohkhcpboldjaaGreatDoor
