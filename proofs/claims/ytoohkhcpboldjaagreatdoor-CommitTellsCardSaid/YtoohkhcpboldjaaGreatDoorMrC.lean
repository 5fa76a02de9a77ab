/- The mirror's copies, looked at. No condition but on sizes. -/
import Derived.Test.YtoohkhcpboldjaaGreatDoorMcM
set_option maxRecDepth 100000
set_option maxHeartbeats 4000000
set_option linter.unusedSimpArgs false
set_option linter.unusedVariables false
namespace Go.Proofs.YtoohkhcpboldjaaGreatDoor
open Go.RowKit Go.Kin Tryz
def QM(B:Nat)(o:Option cW)(v:N)(Y:M):Prop:=match o with
 |none=>v=.slice none 0 0
 |some b=>b.length=512/\∃bx c,v=.slice (some bx) 512 c/\bC Y v 512 (br b)/\B<=bx.block/\bx.block<Y.1.size
theorem QM.ch{S:Nat->Prop}{B:Nat}{o:Option cW}{v:N}{Y bG:M}(h:QM B o v Y)(Z:H S Y bG)(cl:∀k,B<=k->¬S k):QM B o v bG:=by
 cases o with
 |none=>exact h
 |some b=>
  obtain⟨ab,bx,c,rfl,J,T,ag⟩:=h;exact⟨ab,bx,c,rfl,J.ch Z λk r=>by simp[Value.ownBlock]at r;subst r;exact cl _ T,T,gQ ag Z.size⟩
def HQ(q:Pt)(l:List Nat):List N:=l.flatMap (vt q.a)
theorem aGw:Bc prog 342 346 (.agg #[aa 0,.int .u16 0]) 2 16:=⟨underlying342,by kernel_rfl,rfl,by decide⟩
section
variable {w w':M}{m p n i:Nat}{z:fV}{s:ay}{a_:N}{A:Nat->Nat->Prop}{O S:Nat->Prop}
theorem aaM{P:List Nat->Prop}(bi:P [])(J:∀l k,P l->P (l++[k]))(l:List Nat):P l:=by
 rw[<-l.reverse_reverse]
 induction l.reverse with
 |nil=>exact bi
 |cons a V bL=>rw[List.reverse_cons];exact J _ _ bL
theorem ahr(n:Nat)(s:ay)(q:Pt)(l:List Nat)(i:Nat):(s.run n q l).a' i<=s.eV i+l.length:=by
 revert l;refine aaM (c_ _) λl k bL=> ?_
 ·rw[ay.Qg,kR];unfold ay.step
  cases s.iu n q k with
  |some x=>
   grind
  |none=>
   simp only;split
   ·simp;omega
   ·simp only[iS]
    grind
theorem ahs(n:Nat)(s:ay)(q:Pt)(l:List Nat):(s.run n q l).dN.length<=l.length:=by
 revert l;refine aaM (c_ _) λl k bL=> ?_
 ·rw[ay.Qg,kR];unfold ay.step
  grind
theorem aGx(s:ay)(z:fV)(a_:N){i:Nat}(ad:i<2)(x:Nat):(zW s z a_).setIfInBounds (3+i*2) (aa x)=zW {s with eV:=iS s.eV i x} z a_:=by
 rcases kX ad with rfl|rfl<;>simp[zW,iS]
theorem aGy(s:ay)(z:fV)(a_:N){i:Nat}(ad:i<2):(zW s z a_)[3+i*2]? =some (aa (s.eV i)):=by
 rcases kX ad with rfl|rfl<;>rfl
structure FD(w Y:M)(m p n:Nat)(z:fV)(s:ay)(a_:N)(A:Nat->Nat->Prop)(q:Pt)(aaN:N)(G cC cj cp cy cO cA:Nat)(t:Mv)(oe og:N)(ce dY:N):Prop where
 dI:e' Y m p n z {s with eV:=t.a'} a_ A
 bu:Y.1[G]? =some (.cells #[az m] 36 (0,0))
 bt:Y.1[cC]? =some (.cells (ae q) 44 (0,0))
 cY:Y.1[cj]? =some (.cells #[aaN] 25 (0,0))
 cK:Y.1[cp]? =some (.cells #[oe] 101 (0,0))
 cI:Y.1[cy]? =some (.cells #[og] 342 (0,0))
 dG:Y.1[cO]? =some (.cells #[ce] 101 (0,0))
 gj:Y.1[cA]? =some (.cells #[dY] 342 (0,0))
 te:QM (G+8) t.blk ce Y
 vI:Y.ownsRow 0 346 2 dY t.dN.length (HQ q t.dN)
 pW:gr (G+8) dY
 kw:G+8<=Y.1.size
 uQ:∀k,ce.ownBlock=some k->dY.ownBlock≠some k
 ch:H (aj m) w Y
theorem FD.uR{Y:M}{q:Pt}{aaN:N}{G cC cj cp cy cO cA B:Nat}{t:Mv}{oe og ce dY:N}(h:FD w Y m p n z s a_ A q aaN G cC cj cp cy cO cA t oe og ce dY)(ax:lK B Y w')(eZ:∀k,gU z m p a_ A k->k<B)(gY:w.1.size<=B):FD w w' m p n z s a_ A q aaN G cC cj cp cy cO cA t oe og ce dY:=by
 obtain⟨fS,aH,yt⟩:=id ax;have Z:=H.yQ aH;have aR':∀k cs bv fr,Y.1[k]? =some (.cells cs bv fr)->fS≠some k:=λk cs bv fr r e=>by
  obtain⟨_,o,av,aq⟩:=yt k e;rw[r]at av
  cases av
  cases aq
 refine⟨h.dI.ch Z λk r e=> ?_,ax.blk h.bu,ax.blk h.bt,ax.blk h.cY,ax.blk h.cK,ax.blk h.cI,ax.blk h.dG,ax.blk h.gj,?_,gu h.vI Z λk r e=> ?_,h.pW,dK h.kw Z.size,h.uQ,ax.xN h.ch gY⟩
 ·grind
 ·have ab:=h.te
  cases BE:t.blk with
  |none=>rw[BE]at ab;exact ab
  |some b=>
   rw[BE]at ab;obtain⟨ab,bx,c,rfl,J,T,ag⟩:=ab;exact⟨ab,bx,c,rfl,J.fK λp u am=>cell_kept am aH λV e=>(yt V e).2,T,gQ ag Z.size⟩
 ·rcases h.vI.2 with⟨aM,_⟩|⟨g,cap,dF,aM,_,JU,_⟩
  ·rw[aM]at r;simp[Value.ownBlock]at r
  ·rw[aM]at r;simp[Value.ownBlock]at r
   grind
theorem ZK(p:Pt)(g:Nat)(bv:TypeId)(fr:Nat×Nat)(S:Nat->Prop)(w:M)(ok:cc p)(ab:w.1[g]? =some (.cells (ae p) bv fr)):
  Md prog 119 [az g] 2 (λx=>vt p.a (x%4)) (eA p.a 4) S w:=by
 refine⟨λx=>rfl,λargs w=>by simp[go_sem],?_⟩;intro l cQ tw Y fX bJ Jg jm bi;obtain⟨a0,a1,a2,a3,ao,_⟩:=a4 ok;have Ct:=fX.obj ab id;have gs:=(aG Ct 37).trans (mS ok (i:=0) (x:=a0) (by rw[ao];rfl));have aY:=(aG Ct 38).trans (mS ok (i:=1) (x:=a1) (by rw[ao];rfl));have aK:=(aG Ct 39).trans (mS ok (i:=2) (x:=a2) (by rw[ao];rfl));have aI:=(aG Ct 40).trans (mS ok (i:=3) (x:=a3) (by rw[ao];rfl));refine bz func119 ntmps119 λbk af=> ?_;simp[go_sem,gs,aY,aK,aI];refine di (λV f bI=>∃k,k<=4/\V=4 - k/\f 0=.func (.yield l) #[] #[]/\f 6=.agg #[.int .u16 a0,.int .u16 a1,.int .u16 a2,.int .u16 a3]/\f 7=aa k/\cQ (eA p.a k) bI) 4
  ⟨0,by omega,rfl,by simp,by simp,by simp,bi⟩ ?_
 rintro bq bW _ f bI ⟨k,r,rfl,dk,je,hX,I⟩;by_cases gq:k<4
 ·have eo:(k:Int)<4:=by omega
  have mR:∃x,p.a.getD k 0=x/\#[Value.int .u16 a0,Value.int .u16 a1,Value.int .u16 a2,Value.int .u16 a3][k]? =some (.int .u16 x):=by
   refine⟨_,rfl,?_⟩;rw[ao]
   grind
  obtain⟨x,W,Cu⟩:=mR;have pB:=λw=>IF (P:=prog) (kd:=.i64) underlying42 Tryz.sizeOf39 Tryz.isAgg39 gq Cu w;have ej:IntKind.i64.wrap ((k:Int)+1)=((k+1:Nat):Int):=by simp[cz];omega
  have vu:IntKind.i64.wrap ((k:Int) / 2)=(k:Int) / 2:=by simp[cz];omega
  by_cases jJ:x=0
  ·subst jJ;simp[go_sem,dk,je,hX,eo,pB,ej];refine ct.intro (4 -(k+1)) (by omega) (bW _ _ _ ⟨k+1,by omega,rfl,by simp[dk],by simp[je],by simp,?_⟩);rw[GG,W,be rfl];exact I
  ·have lr:((x:Int)==0)=false:=by simp;omega
   simp[go_sem,dk,je,hX,eo,pB,ej,vu,bne,lr];have cu:(eA p.a k).length<(eA p.a 4).length:=by
    obtain⟨m,aC,aV⟩:=Yt p.a (k:=k+1) (by omega);have J:=yN List.length aV;rw[GG,W,aQ jJ,kR,ol]at J;simp at J;omega
   have ar:=jm (eA p.a k) k bI I cu;simp only[Cb gq,vt,W]at ar;refine SX _ _ _ ar ?_;rintro _ w' (⟨rfl,kT,_⟩|⟨rfl,Ey⟩)
   ·simp[go_sem,hX,ej];refine ct.intro (4 -(k+1)) (by omega) (bW _ _ _ ⟨k+1,by omega,rfl,by simp[dk],by simp[je],by simp,?_⟩);rw[GG,W,aQ jJ];exact kT
   ·simp[go_sem];refine af _ _ (.inr ?_);obtain⟨m,aC,aV⟩:=Yt p.a (k:=k+1) (by omega);refine⟨m,aC,?_⟩;rw[<-aV,GG,W,aQ jJ];exact Ey
 ·obtain rfl:k=4:=by omega
  simp[go_sem,hX];exact af _ _ (.inl I)
theorem arj(w:M):(binOp .eql 101 (.slice none 0 0) (.slice none 0 0)).run prog w=.ok (.bool true) w:=by kernel_rfl
theorem ark(bx:Addr)(n c:Nat)(w:M):(binOp .eql 101 (.slice (some bx) n c) (.slice none 0 0)).run prog w=.ok (.bool false) w:=by kernel_rfl
theorem aGz{w:M}{u:N}{n:Nat}{xs:List N}(h:bC w u n xs)(W:0<xs.length):∃bx c,u=.slice (some bx) n c:=by
 obtain⟨A,c,e,_,_,ag⟩:=h
 grind
structure aht(dq:FuncId)(all:Bool):Prop where
 en:∀w,(callFunc dq #[]).run prog w=.ok (.enter dq #[]) w
 ret:∀w,bc prog dq #[] w λv' w'=>v'=.bool (!all)/\w'=w
theorem aGA:aht 154 false:=⟨λw=>by kernel_rfl,λw=>by
 refine bz func154 ntmps154 λR af=> ?_;simp[go_sem];exact af _ _ ⟨rfl,rfl⟩⟩
theorem aGB{w:M}{G:Nat}(fD:w.1.size=G)(gs aY aK aI bo bE cF:Array N)(t0 t1 el t3 t4 t5 E':TypeId):∃cE,((((((w.alloc (.cells gs t0)).alloc (.cells aY t1)).alloc (.cells aK el)).alloc (.cells aI t3)).alloc (.cells bo t4)).alloc (.cells bE t5)).alloc (.cells cF E')=cE/\cE.1[G]? =some (.cells gs t0 (0,0))/\cE.1[G+1]? =some (.cells aY t1 (0,0))/\cE.1[G+2]? =some (.cells aK el (0,0))/\cE.1[G+3]? =some (.cells aI t3 (0,0))/\cE.1[G+4]? =some (.cells bo t4 (0,0))/\cE.1[G+5]? =some (.cells bE t5 (0,0))/\cE.1[G+6]? =some (.cells cF E' (0,0))/\cE.1.size=G+7/\H al w cE:=by
 subst fD;refine⟨_,rfl,?_,?_,?_,?_,?_,?_,?_,by simp,((((((((H.refl al w).alloc _).alloc _).alloc _).alloc _).alloc _).alloc _).alloc _)⟩
 ·rw[rQ _ _ _ (by simp<;>omega),rQ _ _ _ (by simp<;>omega),rQ _ _ _ (by simp<;>omega),rQ _ _ _ (by simp<;>omega),rQ _ _ _ (by simp<;>omega),rQ _ _ _ (by simp<;>omega),cr]
 ·simp_all
 ·simp_all
 ·simp_all
 ·simp_all
 ·simp_all
 simp_all
theorem aGC(h:e' w m p n z s a_ A)(q:Pt)(ok:cc q)(r:jz w)(all:Bool){dq:FuncId}(QN:aht dq all)(Tm:m≠3)(hn:∀i,s.eV i<=1000000):
  bc prog 199 #[az m,.agg (ae q),.func (.func dq) #[] #[]] w λv' w'=>∃ce dY,v'=.tuple #[ce,dY]/\QM w.1.size (s.run n q (s.pS n q all)).blk ce w'/\w'.ownsRow 0 346 2 dY (s.run n q (s.pS n q all)).dN.length (HQ q (s.run n q (s.pS n q all)).dN)/\gr w.1.size dY/\e' w' m p n z {s with eV:=(s.run n q (s.pS n q all)).a'} a_ A/\H (aj m) w w':=by
 refine bz func199 ntmps199 λbk af=> ?_;have de:=cd ok;have da:=ef ok;simp[go_sem,de,da];obtain⟨G,fD⟩:=aD (w.1.size);obtain⟨cE,hX,kx,es,cX,iq,vk,Ej,IT,iy,oU⟩:=aGB fD #[az m] (ae q) #[.func (.func dq) #[] #[]] #[.slice none 0 0] #[.slice none 0 0] #[.slice none 0 0] #[.slice none 0 0] 36 44 25 101 342 101 342;rw[hX,fD];refine(SZ q cE).mono ?_;rintro _ ec ⟨rfl,nD⟩;have Kn:=cr cE (.cells (ae q) 44);have FE:=(H.refl al cE).alloc (.cells (ae q) 44);have Zi:ec.1.size=G+8:=by rw[nD];simp[iy]
 rw[<-nD]at FE Kn;rw[iy]at Kn⊢;clear nD;have pZ:=oU.trans FE;have er:=h.ch pZ λ_ _ e=>e;simp[go_sem];obtain⟨cA,je⟩:=aD (G+1+1+1+1+1+1);obtain⟨cO,gL⟩:=aD (G+1+1+1+1+1);obtain⟨cy,dl⟩:=aD (G+1+1+1+1);obtain⟨cp,dB⟩:=aD (G+1+1+1);obtain⟨cj,aR⟩:=aD (G+1+1);obtain⟨cC,aL⟩:=aD (G+1);rw[je,gL,dl,dB,aR,aL];have tl:=FE.obj kx id;have fh:=FE.obj es id;have fv:=FE.obj cX id;have iY:=FE.obj iq id;have oz:=FE.obj vk id;have rB:=FE.obj Ej id;have IS:=FE.obj IT id;rw[show G+1=cC from aL]at fh;rw[show G+2=cj from aR]at fv;rw[show G+3=cp from dB]at iY;rw[show G+4=cy from dl]at oz;rw[show G+5=cO from gL]at rB;rw[show G+6=cA from je]at IS;have eZ:=h.ih;clear kx es cX iq vk Ej IT hX oU FE;have Vj:∀k,k∈eA q.a 4->k%4=k:=λk r=>Cb (MN r).1;have De:∀{D:Nat} {Y:M} {ce dY:N},ec.1.size<=D->FD w Y m p n z s a_ A q (.func (.func dq) #[] #[]) G cC cj cp cy cO cA (s.run n q (s.pS n q all)) ce dY ce dY->Y.1[D]? =some (.deferred (some []))->bk (.tuple #[ce,dY]) (Y.putObj D (.deferred none)):=λ{D Y ce dY} dX b_ bm=>by
  have nT:H (aj D) Y (Y.putObj D (.deferred none)):=(H.refl (aj D) Y).putObj (.inl rfl) _;refine af _ _ ⟨_,_,rfl,?_,gu b_.vI nT λj I e=> ?_,b_.pW.mono (by omega),b_.dI.ch nT λj I e=> ?_,b_.ch.bZ nT λj I e=> ?_⟩
  ·have qE:=b_.te
   cases oQ:(s.run n q (s.pS n q all)).blk with
   |none=>rw[oQ]at qE;exact qE
   |some b=>
    rw[oQ]at qE;obtain⟨fh,bx,fv,rfl,iY,oz,rB⟩:=qE;refine⟨fh,bx,fv,rfl,iY.ch nT λj I e=> ?_,by omega,gQ rB nT.size⟩;simp[Value.ownBlock]at I;simp only[aj]at e;subst I;obtain⟨ML,aY,au,_,_,rx⟩:=iY;obtain⟨a1,ss,Nj⟩:=rx (by rw[eO,fh];omega)
    cases au
    cases ss
    obtain⟨tB,TR⟩:∃u,(br b)[0]? =some u:=⟨_,d_ (by rw[eO,fh];omega)⟩;have:=Nj 0 tB TR;obtain⟨o,av,Vk⟩:=cells_of_cell this;rw[IL,e,bm]at av
    cases av
    cases Vk
  ·simp only[aj]at e;rcases b_.vI.2 with⟨aM,_⟩|⟨g,cap,dF,aM,_,JU,_⟩
   ·rw[aM]at I;simp[Value.ownBlock]at I
   ·rw[aM]at I;simp[Value.ownBlock]at I
    grind
  ·simp only[aj]at e;have:=eZ j I;omega
  ·simp only[aj]at e;omega
 obtain⟨bq,bW⟩:∃bq:List Nat->M->Prop,bq=λpre Y=>∃ce dY,FD w Y m p n z s a_ A q (.func (.func dq) #[] #[]) G cC cj cp cy cO cA (s.run n q (pre.map (·%4))) (.slice none 0 0) (.slice none 0 0) ce dY/\(all=false->∀k∈pre.map (·%4),s.iu n q k=none):=⟨_,rfl⟩;obtain⟨hy,GE⟩:∃hy:Code->List Nat->M->Prop,hy=λc pre Y=>c=.ret/\all=false/\∃ce dY Nk x,pre=Nk++[x]/\(∀k∈Nk.map (·%4),s.iu n q k=none)/\(s.iu n q (x%4)).isSome=true/\FD w Y m p n z s a_ A q (.func (.func dq) #[] #[]) G cC cj cp cy cO cA (s.run n q (pre.map (·%4))) ce dY ce dY:=⟨_,rfl⟩;refine al4 (ZK q (G+7) _ _ (λk=>k=m\/k=cO\/k=cA) ec ok Kn) (H.refl _ _) rfl rfl (by kernel_rfl) bq hy
  (λx f' _=>f' 10=aa (x%4 / 2:Nat)/\f' 11=.int .u16 (du q (x%4))/\f' 3=az G/\f' 4=az cC/\f' 5=az cj/\f' 6=az cp/\f' 7=az cy/\f' 8=az cO/\f' 9=az cA) ?_ ?_ ?_ ?_ ?_ ?_ ?_ ?_
 ·rintro pre Y bG aN ax;rw[bW]at aN⊢;obtain⟨ce,dY,b_,mE⟩:=aN;exact⟨ce,dY,b_.uR ax (λk r=>by have:=eZ k r;omega) (by omega),mE⟩
 ·rintro c pre Y bG aN ax;rw[GE]at aN⊢;obtain⟨bi,ao,ce,dY,Nk,x,J,T,ag,b_⟩:=aN;exact⟨bi,ao,ce,dY,Nk,x,J,T,ag,b_.uR ax (λk r=>by have:=eZ k r;omega) (by omega)⟩
 ·exact λ_ _ _ _ h _=>h
 ·rw[bW];exact⟨_,_,⟨er,tl,fh,fv,iY,oz,rB,IS,rfl,pA _ _ _ _,λk r=>by simp[Value.ownBlock]at r,by omega,λk r=>by simp[Value.ownBlock]at r,pZ.mono λ_ _ e=>e.elim⟩,λ_ k r=>by simp at r⟩
 ·rintro pre x Y aN;simp[go_sem];refine⟨H.refl _ _,aN,?_,?_⟩
  ·simp[vt]
  ·simp[vt,du]
 ·rintro pre x f' Y cu aN ⟨fA,gC,bR,ck,f5,f6,bQ,bB,dt⟩;have HE:pre.length<4:=by
   have:(eA q.a 4).length<=4:=by unfold eA;exact dK (OO _ _) (by simp)
   omega
  rw[bW]at aN;obtain⟨ce,dY,b_,mE⟩:=aN;obtain⟨uS,gJ,jB⟩:∃A c,dY=.slice A (s.run n q (pre.map (·%4))).dN.length c:=by
   rcases b_.vI.2 with⟨aM,bi⟩|⟨g,cap,dF,aM,_⟩
   ·grind
   ·exact⟨_,_,aM⟩
  subst jB;obtain⟨k,QO⟩:=aD (x%4);have gq:k<4:=by omega
  rw[QO]at fA gC;obtain⟨i,eo⟩:=aD (k / 2);rw[eo]at fA;have ad:i<2:=by omega
  obtain⟨L,BB⟩:=aD (pre.map (·%4));have G_:L.length<4:=by rw[<-BB,oV];exact HE
  rw[BB]at b_ mE;obtain⟨bd,dO⟩:=aD ((s.run n q L).dN.length);rw[dO]at b_;obtain⟨dY,arl⟩:=aD (Value.slice uS bd gJ);rw[arl]at b_;have Hr:(pre++[x]).map (·%4)=L++[k]:=by rw[AC,BB,oq,QO];rfl
  have gW:Y.cell? (bl G 0)=some (az m):=aG b_.bu 0;have cx:=(H.refl al Y).alloc (.cells #[aa i,.int .u16 (du q k)] 346);have Bq:=cr Y (.cells #[aa i,.int .u16 (du q k)] 346);have ql:=λj=>aG Bq j;have gw:=cx.obj b_.bt id;have tB:=cx.cell gW id;have Vl:=apr (b_.dI.ch cx λ_ _ e=>e) q ok ((r.ch b_.ch λe=>Tm e.symm).ch cx id) k gq;rw[eo]at Vl;simp[go_sem,fA,gC,bR,ck,tB,gw,de,da,ql];refine Vl.mono ?_;rintro hk gk ⟨ax,aK⟩;have gx:H al Y gk:=cx.trans aK;have hF:FD w gk m p n z s a_ A q (.func (.func dq) #[] #[]) G cC cj cp cy cO cA (s.run n q L) (.slice none 0 0) (.slice none 0 0) ce dY:=
   ⟨b_.dI.ch gx λ_ _ e=>e,gx.obj b_.bu id,gx.obj b_.bt id,gx.obj b_.cY id,gx.obj b_.cK id,gx.obj b_.cI id,gx.obj b_.dG id,gx.obj b_.gj id,b_.te.ch gx λ_ _ e=>e,gu b_.vI gx λ_ _ e=>e,b_.pW,dK b_.kw gx.size,b_.uQ,b_.ch.trans (gx.mono λ_ _ e=>e.elim)⟩
  have ahu:=aK.obj Bq id;have aSa:=λj=>aG ahu j;have QP:=mB.nw gx;have Kf:({s with eV:=(s.run n q L).a'}:ay).iu n q k=s.iu n q k:=rfl;rw[Kf]at ax;have Nj:gk.cell? (bl cO 0)=some ce:=aG hF.dG 0;have tI:=ay.Qg n s q L k;have bU:∀{bG:M} {bv' cv':N},mB Y bG->H (λk=>k=m\/k=cO\/k=cA\/G+8<=k) Y bG->FD w bG m p n z s a_ A q (.func (.func dq) #[] #[]) G cC cj cp cy cO cA (s.run n q (L++[k])) (.slice none 0 0) (.slice none 0 0) bv' cv'->(all=false->s.iu n q k=none)->(KeepsFrom ec.1.size Y bG/\H (λk=>(k=m\/k=cO\/k=cA)\/ec.1.size<=k) Y bG)/\bq (pre++[x]) bG:=λ{bG bv' cv'} a1 a2 a3 a4=>by
   refine⟨⟨a1.from a2.size _,a2.mono λj _ e=> ?_⟩,?_⟩
   ·grind
   ·rw[bW]
    grind
  cases rW:s.iu n q k with
  |some b=>
   rw[rW]at ax;obtain⟨u,rfl,ab,ap,aGD,Qr⟩:=ax
   cases BE:(s.run n q L).blk with
   |none=>
    have CY:ce=.slice none 0 0:=by
     have:=hF.te;rw[BE]at this;exact this
    subst CY;obtain⟨bx,c,rfl⟩:=aGz ap (by rw[eO,ab];omega);have aGE:=dJ hF.dG 0;have GB:gk.cell? (bl cj 0)=some (.func (.func dq) #[] #[]):=aG hF.cY 0;have aGF:cj≠cO:=by omega
    have aI:H (aj cO) gk (gk.setCell ⟨cO,0,none⟩ (.slice (some bx) 512 c)):=(H.refl (aj cO) gk).setCell (p:=bl cO 0) (.inl rfl) _;have bA:mB gk (gk.setCell ⟨cO,0,none⟩ (.slice (some bx) 512 c)):=mB.fZ aI λk r _=>by simp only[aj]at r;subst r;exact⟨_,_,_,hF.dG⟩
    have KD:(gk.setCell ⟨cO,0,none⟩ (.slice (some bx) 512 c)).1[cO]? =some (.cells #[.slice (some bx) 512 c] 101 (0,0)):=by rw[eU,hF.dG,fU];rfl
    have eS:s.run n q (L++[k])={s.run n q L with blk:=some b}:=by rw[tI];unfold ay.step;rw[rW];simp[BE]
    have ew:=aI.cell GB (λe=>aGF e);have nl:FD w (gk.setCell ⟨cO,0,none⟩ (.slice (some bx) 512 c)) m p n z s a_ A q (.func (.func dq) #[] #[]) G cC cj cp cy cO cA (s.run n q (L++[k])) (.slice none 0 0) (.slice none 0 0) (.slice (some bx) 512 c) dY:=by
     have wL:∀j,j≠cO->¬aj cO j:=λj h e=>h e;have aSb:=aGD bx.block rfl;have cU:=b_.ch.size;have aGG:=Qr bx.block rfl;have vG:=b_.kw;have LH:=cx.size;rw[eS];refine⟨hF.dI.ch aI λj I e=> ?_,aI.obj hF.bu (wL _ (by omega)),aI.obj hF.bt (wL _ (by omega)),aI.obj hF.cY (wL _ (by omega)),aI.obj hF.cK (wL _ (by omega)),aI.obj hF.cI (wL _ (by omega)),KD,aI.obj hF.gj (wL _ (by omega)),⟨ab,bx,c,rfl,ap.ch aI λj I e=> ?_,?_,gQ aGG aI.size⟩,gu hF.vI aI λj I e=> ?_,hF.pW,dK hF.kw aI.size,λj I e=> ?_,hF.ch.bZ aI λj I e=> ?_⟩
     ·grind
     ·simp only[aj]at e;simp[Value.ownBlock]at I;omega
     ·omega
     ·simp only[aj]at e;have:=hF.pW j I;omega
     ·simp[Value.ownBlock]at I;have:=nK b_.vI j e;omega
     ·simp only[aj]at e;omega
    simp[go_sem,bB,Nj,arj,aGE,f5,ew];revert aI bA KD nl;generalize gk.setCell ⟨cO,0,none⟩ (.slice (some bx) 512 c)=vT;intro aI bA KD nl;have Nl:=dJ nl.cK 0;have aGH:=dJ nl.cI 0;have aGI:vT.cell? (bl cO 0)=some (.slice (some bx) 512 c):=aG KD 0;have aGJ:vT.cell? (bl cA 0)=some dY:=aG nl.gj 0;have KE:=(QP.trans bA);have hK:H (aj cO) Y vT:=(gx.mono λ_ _ e=>e.elim).trans aI
    cases all with
    |false=>
     rw[arm (h:=QN.en vT)];refine(QN.ret vT).mono ?_;rintro _ Vm ⟨rfl,arn⟩;subst Vm;simp[go_sem];refine cT [F 0,F 1,(2,some [1]),(3,some [])] ?_;have aGK:vT.cell? (bl cp 0)=some (.slice none 0 0):=aG nl.cK 0;have GQ:=λv=>((H.refl (aj cp) vT).setCell (p:=bl cp 0) (.inl rfl) v).obj nl.cI (λe=>by simp only[aj]at e;omega);have aGL:=λv=>aG (GQ v) 0;have My:=λv=>dJ (GQ v) 0;subst arl;simp[go_sem,f6,bQ,bB,dt,aGI,aGJ,Nl,aGH,aGK,aGL,My];have bE:H (λj=>j=cp\/j=cy) vT (((vT.setCell ⟨cp,0,none⟩ (.slice (some bx) 512 c)).setCell ⟨cy,0,none⟩ (.slice uS bd gJ)).drew):=(((H.refl (λj=>j=cp\/j=cy) vT).setCell (p:=bl cp 0) (.inl (.inl rfl)) _).setCell (p:=bl cy 0) (.inl (.inr rfl)) _).drew;have Nm:=((KE.setCell (i:=0) nl.cK (.slice (some bx) 512 c)).setCell (i:=0) (GQ (.slice (some bx) 512 c)) (.slice uS bd gJ)).drew;have jP:∀j,j≠cp->j≠cy->¬(j=cp\/j=cy):=λj J T e=>e.elim J T;have z3:(((vT.setCell ⟨cp,0,none⟩ (.slice (some bx) 512 c)).setCell ⟨cy,0,none⟩ (.slice uS bd gJ)).drew).1[cp]? =some (.cells #[.slice (some bx) 512 c] 101 (0,0)):=by rw[xd,wH _ _ _ _ (by simp only;omega),eU,nl.cK,fU];rfl
     have z4:(((vT.setCell ⟨cp,0,none⟩ (.slice (some bx) 512 c)).setCell ⟨cy,0,none⟩ (.slice uS bd gJ)).drew).1[cy]? =some (.cells #[.slice uS bd gJ] 342 (0,0)):=by rw[xd,eU,wH _ _ _ _ (by simp only;omega),nl.cI,fU];rfl
     revert bE Nm z3 z4;generalize((vT.setCell ⟨cp,0,none⟩ (.slice (some bx) 512 c)).setCell ⟨cy,0,none⟩ (.slice uS bd gJ)).drew=KF;intro bE Nm z3 z4;have cU:=b_.kw;refine⟨Nm.from (dK hK.size bE.size) _,?_⟩;rw[GE];refine⟨rfl,rfl,.slice (some bx) 512 c,.slice uS bd gJ,pre,x,rfl,by rw[BB];exact mE rfl,by rw[QO,rW];rfl,?_⟩;rw[Hr];refine⟨nl.dI.ch bE λj I e=> ?_,bE.obj nl.bu (jP _ (by omega) (by omega)),bE.obj nl.bt (jP _ (by omega) (by omega)),bE.obj nl.cY (jP _ (by omega) (by omega)),z3,z4,bE.obj nl.dG (jP _ (by omega) (by omega)),bE.obj nl.gj (jP _ (by omega) (by omega)),nl.te.ch bE λj I=>jP j (by omega) (by omega),gu nl.vI bE λj I=> ?_,nl.pW,dK nl.kw bE.size,nl.uQ,nl.ch.bZ bE λj I e=> ?_⟩
     ·have:=eZ j I;rcases e with e|e<;>omega
     ·have:=nl.pW j I;exact jP j (by omega) (by omega)
     ·rcases e with e|e<;>omega
    |true=>
     rw[arm (h:=QN.en vT)];refine(QN.ret vT).mono ?_;rintro _ Vm ⟨rfl,arn⟩;subst Vm;simp[go_sem];exact bU KE (hK.mono λj _ e=>.inr (.inl e)) nl (λe=>by cases e)
   |some bu=>
    have CY:=hF.te;rw[BE]at CY;obtain⟨hT,aSc,gs,rfl,CY⟩:=CY;have eS:s.run n q (L++[k])=s.run n q L:=by rw[tI];unfold ay.step;rw[rW];simp[BE]
    simp[go_sem,bB,Nj,ark];refine bU QP (gx.mono λ_ _ e=>e.elim) (by rw[eS];exact hF) (λao=> ?_);exfalso;have aGM:∀l,(∀k∈l,s.iu n q k=none)->(s.run n q l).blk=none:=by
     refine aaM (λ_=>rfl) λl k bL ak=> ?_;rw[ay.Qg];unfold ay.step;rw[ak k (by simp)];simp only;split
     ·exact bL λj I=>ak j (by simp[I])
     ·exact bL λj I=>ak j (by simp[I])
    rw[aGM L (mE ao)]at BE
    cases BE
  |none=>
   rw[rW]at ax;obtain⟨u,rfl⟩:=ax;have dk:gk.cell? (bl G 0)=some (az m):=aG hF.bu 0;have dH:gk.cell? (bl m i)=some (.pointer (some ⟨z.d i,0,none⟩)):=by
    rw[aG hF.dI.blk];rcases kX ad with rfl|rfl<;>rfl
   have q_:(i:Int)<2:=by omega
   simp[go_sem,bR,fA,dk,dH,ad,q_];refine((hF.dI.kW i ad).bY).mono ?_;rintro _ Vm ⟨rfl,arn⟩;subst Vm
   cases Ex:(s.aB i).bY with
   |true=>
    have eS:s.run n q (L++[k])=s.run n q L:=by rw[tI];unfold ay.step;rw[rW,eo,Ex];rfl
    simp[go_sem];exact bU QP (gx.mono λ_ _ e=>e.elim) (by rw[eS];exact hF) (λ_=>rW)
   |false=>
    have eS:s.run n q (L++[k])={s.run n q L with a':=iS (s.run n q L).a' i ((s.run n q L).a' i+1),dN:=(s.run n q L).dN++[k]}:=by rw[tI];unfold ay.step;rw[rW,eo,Ex];rfl
    simp[go_sem];refine cT [F 0,F 1,F 2,F 3,F 4,F 5,F 6,F 7,F 8,F 9,F 10,F 11,(12,some [])] ?_;have aro:=ahr n s q L i;have YE:=hn i;have kb:gk.cell? (bl m (3+i*2))=some (aa ((s.run n q L).a' i)):=by rw[aG hF.dI.blk];exact aGy _ z a_ ad
    have aGN:=dJ hF.dI.blk (3+i*2);have ZA:IntKind.i64.wrap (((s.run n q L).a' i:Int)+1)=(((s.run n q L).a' i+1:Nat):Int):=by rw[cz];omega
    obtain⟨GC,aGO⟩:=aD ((s.run n q L).a' i+1);rw[aGO]at ZA eS;simp[go_sem,bR,fA,dk,ad,q_,kb,aGN,ZA];have jT:H (aj m) gk (gk.setCell ⟨m,3+i*2,none⟩ (aa GC)).drew:=((H.refl (aj m) gk).setCell (p:=bl m (3+i*2)) (.inl rfl) _).drew;have ahv:e' (gk.setCell ⟨m,3+i*2,none⟩ (aa GC)).drew m p n z {s with eV:=iS (s.run n q L).a' i GC} a_ A:=by
     refine hF.dI.own jT ?_ rfl rfl rfl rfl rfl;rw[xd,eU,hF.dI.blk,fU,aGx _ z a_ ad]
    obtain⟨vK,CZ⟩:=aD (Y.1.size);rw[CZ]at ahu⊢;have rj:∀j,w.1.size<=j->¬aj m j:=λj I e=>by simp only[aj]at e;have:=eZ m (.inl (.inl rfl));omega
    have KE:=QP.trans (mB.fZ jT λj I _=>by simp only[aj]at I;subst I;exact⟨_,_,_,hF.dI.blk⟩);have cU:=b_.kw;have KD:=jT.obj hF.dG (rj _ (by omega));have aaO:=jT.obj hF.gj (rj _ (by omega));have ahw:=jT.obj ahu (rj _ (by omega));have tv:=jT.obj hF.bu (rj _ (by omega));have nL:=jT.obj hF.bt (rj _ (by omega));have hr:=jT.obj hF.cY (rj _ (by omega));have lm:=jT.obj hF.cK (rj _ (by omega));have nC:=jT.obj hF.cI (rj _ (by omega));have Nn:QM (G+8) (s.run n q L).blk ce (gk.setCell ⟨m,3+i*2,none⟩ (aa GC)).drew:=hF.te.ch jT λj I=>rj j (by omega);have Vn:=gu hF.vI jT λj I=>rj j (by have:=hF.pW j I;omega);revert jT ahv KE KD aaO ahw tv nL hr lm nC Nn Vn;generalize(gk.setCell ⟨m,3+i*2,none⟩ (aa GC)).drew=vT;intro jT ahv KE KD aaO ahw tv nL hr lm nC Nn Vn;have aGP:=λj=>aG ahw j;have aeM:=aG aaO 0;simp[go_sem,dt,aGP,aeM];have Gs:vt q.a k=[aa i,.int .u16 (du q k)]:=by unfold vt du;rw[show(k:Int) / 2=i by omega]
    have aGQ:bd<=1000:=by have:=ahs n s q L;omega
    rw[dO]at Vn;refine wJ aGw (us:=[aa i,.int .u16 (du q k)]) Vn rfl (by simp[Value.oneCell']) (by unfold maxLen;omega) (by omega) λcv' Vo EI pf Jz=> ?_;have EG:gr (G+8) cv':=aGR hF.pW Jz (by grind);obtain⟨gy,uw,Tu,rfl,_,_,sD,_⟩:=A' EI (by omega);have fe:∀j,j<G+8->¬dY.ownBlock=some j:=λj I e=>by have:=hF.pW j e;omega
    have aaP:=pf.obj aaO (fe _ (by omega));have SB:=aG aaP 0;have EV:=dJ aaP 0;have aGS:=KE.trans (mB.fZ pf λj I _=>by
     rcases Vn.2 with⟨aM,_⟩|⟨g,cap,dF,aM,_,JU,_⟩
     ·rw[aM]at I;simp[Value.ownBlock]at I
     ·rw[aM]at I;simp[Value.ownBlock]at I;subst I;exact⟨_,_,_,JU⟩)
    simp[go_sem,dt,SB,EV];have bE:H (aj cA) Vo (Vo.setCell ⟨cA,0,none⟩ (.slice (some ⟨gy,0,none⟩) (bd+1) uw)):=(H.refl (aj cA) Vo).setCell (p:=bl cA 0) (.inl rfl) _;have PA:(Vo.setCell ⟨cA,0,none⟩ (.slice (some ⟨gy,0,none⟩) (bd+1) uw)).1[cA]? =some (.cells #[.slice (some ⟨gy,0,none⟩) (bd+1) uw] 342 (0,0)):=by rw[eU,aaP,fU];rfl
    have Nm:=aGS.trans (mB.fZ bE λj I _=>by simp only[aj]at I;subst I;exact⟨_,_,_,aaP⟩);revert bE PA Nm;generalize Vo.setCell ⟨cA,0,none⟩ (.slice (some ⟨gy,0,none⟩) (bd+1) uw)=KF;intro bE PA Nm;have n6:∀j,j≠cA->¬aj cA j:=λj h e=>h e;have aSd:=EG gy rfl;have aU:H (λj=>j=m\/j=cO\/j=cA\/G+8<=j) Y KF:=(((gx.mono λ_ _ e=>e.elim).trans (jT.mono λj _ e=>.inl e)).trans (pf.mono λj _ e=>.inr (.inr (.inr (hF.pW j e))))).trans (bE.mono λj _ e=>.inr (.inr (.inl e)));refine bU (bv':=ce) (cv':=.slice (some ⟨gy,0,none⟩) (bd+1) uw) Nm aU ?_ (λ_=>rW);rw[eS];have zV:∀j,gU z m p a_ A j->j<G:=λj I=>by have:=eZ j I;omega
    refine⟨(ahv.ch pf λj I=>fe j (by have:=zV j I;omega)).ch bE λj I=>n6 j (by have:=zV j I;omega),bE.obj (pf.obj tv (fe _ (by omega))) (n6 _ (by omega)),bE.obj (pf.obj nL (fe _ (by omega))) (n6 _ (by omega)),bE.obj (pf.obj hr (fe _ (by omega))) (n6 _ (by omega)),bE.obj (pf.obj lm (fe _ (by omega))) (n6 _ (by omega)),bE.obj (pf.obj nC (fe _ (by omega))) (n6 _ (by omega)),bE.obj (pf.obj KD (fe _ (by omega))) (n6 _ (by omega)),PA,?_,?_,EG,?_,λj I e=> ?_,?_⟩
    ·have qE:=Nn
     cases oQ:(s.run n q L).blk with
     |none=>rw[oQ]at qE;exact qE
     |some b=>
      rw[oQ]at qE;obtain⟨fh,bx,fv,rfl,iY,oz,rB⟩:=qE;exact⟨fh,bx,fv,rfl,(iY.ch pf λj I=>hF.uQ j I).ch bE λj I=>n6 j (by simp[Value.ownBlock]at I;omega),oz,gQ rB (dK pf.size bE.size)⟩
    ·have e:HQ q ((s.run n q L).dN++[k])=HQ q (s.run n q L).dN++[aa i,.int .u16 (du q k)]:=by unfold HQ;rw[acV,Au,WS,Gs];rfl
     rw[e,kR,dO];exact gu EI bE λj I=>n6 j (by have:=EG j I;omega)
    ·have:=jT.size;have:=pf.size;have:=bE.size;have:=hF.kw;omega
    ·rcases Jz with Jz|Jz
     ·rw[Jz]at e;exact hF.uQ j I e
     ·have J:=Jz j e
      cases oQ:(s.run n q L).blk with
      |none=>
       rw[oQ]at Nn;rw[show ce=.slice none 0 0 from Nn]at I;simp[Value.ownBlock]at I
      |some b=>
       rw[oQ]at Nn;obtain⟨_,bx,_,rfl,_,_,rB⟩:=Nn;simp[Value.ownBlock]at I;omega
    ·exact((hF.ch.trans jT).bZ pf λj I e=>by have:=hF.pW j e;omega).bZ bE λj I e=>by simp only[aj]at e;omega
 ·rintro D Y dX aN bm;rw[bW]at aN;obtain⟨ce,dY,b_,mE⟩:=aN;have MM:(eA q.a 4).map (·%4)=eA q.a 4:=by
   conv=>rhs;rw[<-OL (eA q.a 4)]
   exact xE λk r=>by simpa using Vj k r
  rw[MM]at b_ mE;have jM:s.pS n q all=eA q.a 4:=by
   unfold ay.pS
   cases all with
   |true=>rfl
   |false=>exact s.apn n q (mE rfl)
  obtain⟨uS,gJ,jB⟩:∃A c,dY=.slice A (s.run n q (eA q.a 4)).dN.length c:=by
   rcases b_.vI.2 with⟨aM,bi⟩|⟨g,cap,dF,aM,_⟩
   ·grind
   ·exact⟨_,_,aM⟩
  obtain⟨uE,Ag,jN,CY⟩:∃A l c,ce=.slice A l c:=by
   have:=b_.te
   cases oQ:(s.run n q (eA q.a 4)).blk with
   |none=>rw[oQ]at this;exact⟨_,_,_,this⟩
   |some b=>rw[oQ]at this;obtain⟨_,bx,c,e,_⟩:=this;exact⟨_,_,_,e⟩
  have dn:∀j,j<G+8->D≠j:=λj I=>by omega
  have ew:=λv=>((H.refl (aj cp) Y).setCell (p:=bl cp 0) (.inl rfl) v).obj b_.cI (λe=>by simp only[aj]at e;omega);have aI:=aG b_.cK 0;have bo:=aG b_.cI 0;have bE:=aG b_.dG 0;have cF:=aG b_.gj 0;have aGT:=dJ b_.cK 0;have aGU:=dJ b_.cI 0;have Pu:=λv=>aG (ew v) 0;have My:=λv=>dJ (ew v) 0;simp[go_sem];subst jB CY;refine cT [F 0,F 1,(2,some [1]),(3,some [])] ?_;obtain⟨bd,dO⟩:=aD ((s.run n q (eA q.a 4)).dN.length);rw[dO]at b_ cF;simp[go_sem,aI,bo,bE,cF,aGT,aGU,Pu,My];have fJ:H (λj=>j=cp\/j=cy) Y (((Y.setCell ⟨cp,0,none⟩ (.slice uE Ag jN)).setCell ⟨cy,0,none⟩ (.slice uS bd gJ)).drew):=(((H.refl (λj=>j=cp\/j=cy) Y).setCell (p:=bl cp 0) (.inl (.inl rfl)) _).setCell (p:=bl cy 0) (.inl (.inr rfl)) _).drew;have jP:∀j,j≠cp->j≠cy->¬(j=cp\/j=cy):=λj J T e=>e.elim J T;have z3:(((Y.setCell ⟨cp,0,none⟩ (.slice uE Ag jN)).setCell ⟨cy,0,none⟩ (.slice uS bd gJ)).drew).1[cp]? =some (.cells #[.slice uE Ag jN] 101 (0,0)):=by rw[xd,wH _ _ _ _ (by simp only;omega),eU,b_.cK,fU];rfl
  have z4:(((Y.setCell ⟨cp,0,none⟩ (.slice uE Ag jN)).setCell ⟨cy,0,none⟩ (.slice uS bd gJ)).drew).1[cy]? =some (.cells #[.slice uS bd gJ] 342 (0,0)):=by rw[xd,eU,wH _ _ _ _ (by simp only;omega),b_.cI,fU];rfl
  have CI:=fJ.obj bm (jP D (by omega) (by omega));revert fJ z3 z4 CI;generalize((Y.setCell ⟨cp,0,none⟩ (.slice uE Ag jN)).setCell ⟨cy,0,none⟩ (.slice uS bd gJ)).drew=KF;intro fJ z3 z4 CI;have aGV:FD w KF m p n z s a_ A q (.func (.func dq) #[] #[]) G cC cj cp cy cO cA (s.run n q (eA q.a 4)) (.slice uE Ag jN) (.slice uS bd gJ) (.slice uE Ag jN) (.slice uS bd gJ):=by
   refine⟨b_.dI.ch fJ λj I e=> ?_,fJ.obj b_.bu (jP _ (by omega) (by omega)),fJ.obj b_.bt (jP _ (by omega) (by omega)),fJ.obj b_.cY (jP _ (by omega) (by omega)),z3,z4,fJ.obj b_.dG (jP _ (by omega) (by omega)),fJ.obj b_.gj (jP _ (by omega) (by omega)),b_.te.ch fJ λj I=>jP j (by omega) (by omega),gu b_.vI fJ λj I=> ?_,b_.pW,dK b_.kw fJ.size,b_.uQ,b_.ch.bZ fJ λj I e=> ?_⟩
   ·have:=eZ j I;rcases e with e|e<;>omega
   ·have:=b_.pW j I;exact jP j (by omega) (by omega)
   ·rcases e with e|e<;>omega
  have ahx:D≠cp:=by omega
  have ahy:D≠cy:=by omega
  have Ah:(KF.putObj D (.deferred none)).cell? (bl cp 0)=some (.slice uE Ag jN):=by
   rw[aG (show(KF.putObj D (.deferred none)).1[cp]? =_ from(ze ahx.symm).trans z3)];rfl
  have GQ:(KF.putObj D (.deferred none)).cell? (bl cy 0)=some (.slice uS bd gJ):=by
   rw[aG (show(KF.putObj D (.deferred none)).1[cy]? =_ from(ze ahy.symm).trans z4)];rfl
  simp[go_sem,Ez,CI,Ah,GQ];exact De dX (by rw[jM];exact aGV) CI
 ·rintro D c k Y dX r aN bm;rw[GE]at aN;obtain⟨rfl,rfl,ce,dY,Nk,x,J,T,ag,b_⟩:=aN;have cK:=aG b_.cK 0;have cI:=aG b_.cI 0;have ahx:D≠cp:=by omega
  have ahy:D≠cy:=by omega
  have Ah:(Y.putObj D (.deferred none)).cell? (bl cp 0)=some ce:=by
   rw[aG (show(Y.putObj D (.deferred none)).1[cp]? =_ from(ze ahx.symm).trans b_.cK)];rfl
  have GQ:(Y.putObj D (.deferred none)).cell? (bl cy 0)=some dY:=by
   rw[aG (show(Y.putObj D (.deferred none)).1[cy]? =_ from(ze ahy.symm).trans b_.cI)];rfl
  simp[go_sem,Ez,bm,cK,cI,Ah,GQ];have aGW:(eA q.a 4).take k=((eA q.a 4).take k).map (·%4):=by
   conv=>lhs;rw[<-OL ((eA q.a 4).take k)]
   exact xE λj I=>by grind
  have su:x%4=x:=Vj x (DU (i:=k) (by rw[J];simp));have k':∀j∈Nk,s.iu n q j=none:=λj I=>by
   have:=T (j%4) (lF.2 ⟨j,I,rfl⟩);rwa[Vj j (DU (i:=k) (by rw[J];simp[I]))]at this
  rw[su]at ag;have jM:s.pS n q false=(eA q.a 4).take k:=by
   unfold ay.pS;simp only[wk,if_false];have e:eA q.a 4=Nk++x::(eA q.a 4).drop k:=by
    conv=>lhs;rw[<-FV k (eA q.a 4),J]
    simp
   rw[J,e];exact s.apo n q k' ag
  rw[<-aGW]at b_;exact De dX (by rw[jM];exact b_) bm
end
end Go.Proofs.YtoohkhcpboldjaaGreatDoor
