/- An anchor's cells and bytes; what package anchor's Put and the document's Put answer, as contracts on calls. No condition but that the values are of their types. -/
import Derived.Test.YtoohkhcpboldjaaGreatDoorWireF
set_option linter.unusedSimpArgs false
set_option linter.unusedVariables false
namespace Go.Proofs.YtoohkhcpboldjaaGreatDoor
open Go.RowKit Go.Kin Tryz
def dh(n:Nat):List UInt8:=List.replicate n 0
theorem nu(n:Nat):(dh n).length=n:=yC
theorem akK(l:List UInt8):ci (em l) l.length=l:=by
 induction l with
 |nil=>rfl
 |cons c l bL=>
  simp only[em,qK,ci];have Z:c.toNat<256:=c.toNat_lt;rw[show(c.toNat+256*em l) / 256=em l by omega,bL]
  simp_all
theorem RM(n k:Nat):em (ci n k)=n%256^k:=by
 induction k generalizing n with
 |zero=>simp[ci,em,Nat.mod_one]
 |succ k bL=>
  simp only[ci,em,bL,acn];rw[show 256^(k+1)=256*256^k by omega,Nat.mod_mul]
def ah:Pt:=⟨0,0,0,0,0,dh 32,[0,0,0,0]⟩
theorem cH:cc ah:=⟨by decide,by decide,by decide,by decide,by decide,rfl,rfl,by simp[ah]⟩
def wb(b:List UInt8):List Nat:=[em ((b.drop 48).take 2),em ((b.drop 50).take 2),em ((b.drop 52).take 2),em ((b.drop 54).take 2)]
def rt(b:List UInt8):Pt:=⟨em (b.take 1),em ((b.drop 1).take 1),em ((b.drop 2).take 2),em ((b.drop 4).take 4),em ((b.drop 8).take 8),(b.drop 16).take 32,wb b⟩
theorem Oo{b:List UInt8}(ab:b.length=64)(k m:Nat)(h:k+m<=64):em ((b.drop k).take m)<256^m:=by
 have:=FT ((b.drop k).take m)
 grind
theorem akL{b:List UInt8}(ab:b.length=64):cc (rt b):=by
 refine⟨by simpa[rt]using Oo ab 0 1 (by omega),Oo ab 1 1 (by omega),Oo ab 2 2 (by omega),Oo ab 4 4 (by omega),Oo ab 8 8 (by omega),by simp[rt,ab],rfl,?_⟩;have T:=λk r=>Oo ab k 2 r;simp only[rt,wb,io,yD,or_false]
 grind
theorem aco(p:Pt):kf p=ci p.k 1++(ci p.l 1++(ci p.o 2++(ci p.f 4++(ci p.b 8++(p.h++(p.a.flatMap (λx=>ci x 2)++dh 8)))))):=rfl
theorem DR{p:Pt}(ok:cc p):(kf p).length=64:=by
 obtain⟨a0,a1,a2,a3,ao,_⟩:=a4 ok;rw[aco,ao];simp[ku,ok.h,nu]
theorem awj{b:List UInt8}(ab:b.length=64):kf (rt b)=b.take 56++dh 8:=by
 have e:∀k m,k+m<=64->ci (em ((b.drop k).take m)) m=(b.drop k).take m:=λk m r=>by
  have:=akK ((b.drop k).take m)
  grind
 have dk:ci (em (b.take 1)) 1=b.take 1:=by simpa using e 0 1 (by omega)
 have s:∀i j,(b.drop i).take j++(b.drop (i+j)).take (56 -(i+j))=(b.drop i).take (j+(56 -(i+j))):=λi j=>by
  rw[List.take_add,ru]
 have awk:b.take 56=b.take 1++((b.drop 1).take 1++((b.drop 2).take 2++((b.drop 4).take 4++((b.drop 8).take 8++((b.drop 16).take 32++((b.drop 48).take 2++((b.drop 50).take 2++((b.drop 52).take 2++(b.drop 54).take 2)))))))):=by
  rw[s 52 2,s 50 2,s 48 2,s 16 32,s 8 8,s 4 4,s 2 2,s 1 1,show b.take 1=(b.drop 0).take 1 by simp,s 0 1];simp
 rw[aco];simp only[rt,wb,dk,Au,WS,e 1 1 (by omega),e 2 2 (by omega),e 4 4 (by omega),e 8 8 (by omega),e 48 2 (by omega),e 50 2 (by omega),e 52 2 (by omega),e 54 2 (by omega),awk,nv,va,xu]
theorem Oq{p:Pt}(ok:cc p):rt (kf p)=p:=by
 obtain⟨a0,a1,a2,a3,ao,tb,mx,lh,qL⟩:=a4 ok;obtain⟨k,l,o,f,b,h,a⟩:=p;simp only at ao;subst ao;have FU:∀(u:List UInt8) m V,u.length=m->(u++V).drop m=V:=λu m V ap=>WT ap;have dQ:∀(u:List UInt8) m V,u.length=m->(u++V).take m=u:=λu m V ap=>WU ap;have r:=ok.k;have ak:=ok.l;have av:=ok.o;have bP:=ok.f;have ab:=ok.b;have aN:=ok.h;simp only at r ak av bP ab aN;rw[aco];simp only[Au,WS,va,nv];generalize hz:ci k 1++(ci l 1++(ci o 2++(ci f 4++(ci b 8++(h++(ci a0 2++(ci a1 2++(ci a2 2++(ci a3 2++dh 8)))))))))=z;have hf:z.drop 1=ci l 1++(ci o 2++(ci f 4++(ci b 8++(h++(ci a0 2++(ci a1 2++(ci a2 2++(ci a3 2++dh 8)))))))):=by rw[<-hz,FU _ 1 _ (ku k 1)]
 have eI:z.drop 2=ci o 2++(ci f 4++(ci b 8++(h++(ci a0 2++(ci a1 2++(ci a2 2++(ci a3 2++dh 8))))))):=by rw[show 2=1+1 by rfl,<-ru,hf,FU _ 1 _ (ku l 1)]
 have fQ:z.drop 4=ci f 4++(ci b 8++(h++(ci a0 2++(ci a1 2++(ci a2 2++(ci a3 2++dh 8)))))):=by rw[show 4=2+2 by rfl,<-ru,eI,FU _ 2 _ (ku o 2)]
 have ue:z.drop 8=ci b 8++(h++(ci a0 2++(ci a1 2++(ci a2 2++(ci a3 2++dh 8))))):=by rw[show 8=4+4 by rfl,<-ru,fQ,FU _ 4 _ (ku f 4)]
 have akM:z.drop 16=h++(ci a0 2++(ci a1 2++(ci a2 2++(ci a3 2++dh 8)))):=by rw[show 16=8+8 by rfl,<-ru,ue,FU _ 8 _ (ku b 8)]
 have akN:z.drop 48=ci a0 2++(ci a1 2++(ci a2 2++(ci a3 2++dh 8))):=by rw[show 48=16+32 by rfl,<-ru,akM,FU _ 32 _ aN]
 have akO:z.drop 50=ci a1 2++(ci a2 2++(ci a3 2++dh 8)):=by rw[show 50=48+2 by rfl,<-ru,akN,FU _ 2 _ (ku a0 2)]
 have akP:z.drop 52=ci a2 2++(ci a3 2++dh 8):=by rw[show 52=50+2 by rfl,<-ru,akO,FU _ 2 _ (ku a1 2)]
 have awl:z.drop 54=ci a3 2++dh 8:=by rw[show 54=52+2 by rfl,<-ru,akP,FU _ 2 _ (ku a2 2)]
 have fa:z.take 1=ci k 1:=by rw[<-hz,dQ _ 1 _ (ku k 1)]
 simp only[rt,wb,fa,hf,eI,fQ,ue,akM,akN,akO,akP,awl,dQ _ 1 _ (ku l 1),dQ _ 2 _ (ku o 2),dQ _ 4 _ (ku f 4),dQ _ 8 _ (ku b 8),dQ _ 32 _ aN,dQ _ 2 _ (ku a0 2),dQ _ 2 _ (ku a1 2),dQ _ 2 _ (ku a2 2),dQ _ 2 _ (ku a3 2),RM];simp;omega
theorem acp(l:List UInt8):qM l=false↔l=dh l.length:=by
 unfold qM dh;rw[List.any_eq_false,WV];simp
theorem akQ{b:List UInt8}(ab:b.length=64):kf (rt b)=b↔qM (b.drop 56)=false:=by
 rw[awj ab,acp,xv,ab];constructor
 ·grind
 ·intro h;have:=FV 56 b;rw[h]at this;exact this
def xw(b:List UInt8):Bool:= !qM (b.drop 56)&&(decide (rt b=ah)||jY (rt b))
def qc(l:List UInt8)(e:Int):Pt×List UInt8×Int:=
 if(dg l e 64).1.length<64 then(ah,(dg l e 64).2)else if xw (dg l e 64).1 then(rt (dg l e 64).1,(dg l e 64).2)else(ah,[],5)
theorem awm{p:Pt}(ok:cc p)(h:p=ah\/jY p=true):xw (kf p)=true:=by
 have J:=(akQ (DR ok)).1 (by rw[Oq ok]);unfold xw;rw[J,Oq ok]
 grind
theorem bS{cs us:Array N}(h:us.size=cs.size):dT cs 0 us=us:=by
 unfold dT;apply ip;simp[h]
theorem gO:(prog.info? 44).map (λi=>i.zero.isSome)=some true:=by kernel_rfl
theorem gP:kN prog 44=ae ah:=by kernel_rfl
theorem WW{p:Pt}(ok:cc p):(ae p).extract 5 37=(br p.h).toArray:=by
 apply ip;simp[ae,eO,ok.h]
theorem akR{p:Pt}(ok:cc p):(ae p).extract 37 41=(hg p.a).toArray:=by
 apply ip;simp[ae,eO,DS,ok.h,ok.a];exact mP (by rw[DS,ok.a];omega)
attribute [simp] wc
theorem RN(w:M)(d:Nat){p q:Pt}(am:cc p)(au:cc q):(Op.equalIn (d+3) 44 (.agg (ae p)) (.agg (ae q))).run prog w=.ok (decide (p=q)) w:=by
 have aL:∀w,(Op.equalIn (d+2) 41 (.agg (br p.h).toArray) (.agg (br q.h).toArray)).run prog w=.ok (decide (p.h=q.h)) w:=λw=>WX w d _ _ 32 underlying41 underlying5 Tryz.sizeOf5 Tryz.isAgg5 _ _ am.h au.h;have aR:∀w,(Op.equalIn (d+2) 42 (.agg (hg p.a).toArray) (.agg (hg q.a).toArray)).run prog w=.ok (decide (p.a=q.a)) w:=λw=>acq w d _ _ 4 underlying42 underlying39 Tryz.sizeOf39 Tryz.isAgg39 _ _ am.a au.a;have Z:∀a b:Nat,((a:Int)==(b:Int))=decide (a=b):=λa b=>by
  grind
 rw[Op.equalIn];simp[go_sem,FW,Iu,acr,akS,WY,WW am,WW au,akR am,akR au,aL,aR,Z];obtain⟨k,l,o,f,b,h,a⟩:=p;obtain⟨lD,nx,gg,f',b',h',jv⟩:=q;simp only[Pt.mk.injEq]
 grind
theorem tc(w:M){p q:Pt}(am:cc p)(au:cc q):(Op.equalIn 10000 44 (.agg (ae p)) (.agg (ae q))).run prog w=.ok (decide (p=q)) w:=RN w 9997 am au
section
variable {p:Pt}
theorem akT{h':List UInt8}(aN:p.h.length=32)(rv:h'.length=32):dT (ae p) 5 (br h').toArray=ae {p with h:=h'}:=by
 simp[dT,ae,rv,eO,aN]
theorem Ot(aN:p.h.length=32)(i x:Nat):(ae p).setIfInBounds (37+i) (.int .u16 x)=ae {p with a:=p.a.set i x}:=by
 apply ip;simp[ae,show 37+i=(32+i)+1+1+1+1+1 by omega,Lq,eO,aN,hg,Ou,DT]
end
theorem l'{w:M}{K:N->M->Prop}:jb prog 44 [] w K=K (.agg (ae ah)) w:=
 ma underlying44 gO (places:=#[(0,1),(1,1),(2,1),(3,1),(4,1),(5,32),(37,4)]) (by simp[go_sem]) (by simp[jw,gP])
theorem awn(k l o f b:Nat):dT (dT (dT (dT (dT (ae ah) 0 #[.int .u8 k]) 1 #[.int .u8 l]) 2 #[.int .u16 o]) 3 #[.int .u32 f]) 4 #[.int .u64 b]=ae ⟨k,l,o,f,b,dh 32,[0,0,0,0]⟩:=by
 simp[dT,ae,ah]
theorem awo(k l o f b:Nat){w:M}{K:N->M->Prop}:
  jb prog 44 [(0,.int .u8 k),(1,.int .u8 l),(2,.int .u16 o),(3,.int .u32 f),(4,.int .u64 b)] w K=K (.agg (ae ⟨k,l,o,f,b,dh 32,[0,0,0,0]⟩)) w:=by
 refine ma underlying44 gO (places:=#[(0,1),(1,1),(2,1),(3,1),(4,1),(5,32),(37,4)]) (by simp[go_sem]) ?_;have hz:(ae ah).size=41:=cd cH;simp[jw,gP,Value.cells,hz,uf];exact awn k l o f b
theorem acs(g o:Nat)(l:List UInt8)(e:Int)(w:M)(ak:l.length<=1000000)(bM:mb w)(jj:g≠0)(ax:hH w g o l e)(av:o<w.1.size):
  bc prog 133 #[az g] w λv' w'=>v'=.agg (ae (qc l e).1)/\hH w' g o (qc l e).2.1 (qc l e).2.2/\H (only g) w w':=by
 refine bz func133 ntmps133 λbk af=> ?_;simp[go_sem,gO,gP];have cZ:=cr w (.cells (ae ah) 44);have fR:=(H.refl al w).alloc (.cells (ae ah) 44);have gA:=ax.ch fR id id;have fb:=bM.ch fR id;have awp:=ax.lt;have gF:(w.alloc (.cells (ae ah) 44)).1.size=w.1.size+1:=by simp
 revert cZ fR gA fb gF;generalize w.alloc (.cells (ae ah) 44)=ai;generalize au:w.1.size=q at*;intro cZ fR gA fb gF;refine(Iv g l e 64 ai (by decide) (by omega) gA).mono ?_;rw[show(64:Int).toNat=64 by decide];rintro hk an ⟨dc,hl,ew,iB⟩;have kg:=bC.fF dc;have WZ:=kg.len underlying101 3;have dm:=iB.am cZ (by simp only[only];omega);have cU:=cd cH;have gV:=ef cH;by_cases aO:(dg l e 64).1.length<64
 ·have vb:((dg l e 64).1.length:Int)<64:=by omega
  have dk:qc l e=(ah,(dg l e 64).2):=by unfold qc;rw[be aO]
  simp[go_sem,WZ,vb,l',dm,cU,bS];have fm:(an.setRow q (ae ah)).1[q]? =some (.cells (ae ah) 44 (0,0)):=by rw[gh,dm];rfl
  have rx:=(H.refl (only q) an).setRow (.inl rfl) (ae ah);simp[go_sem,fm,cU,gV];refine af _ _ ⟨by rw[dk],?_,((fR.mono λ_ _ e=>e.elim).trans iB).setRow (.inr (by omega)) _⟩;rw[dk];exact ew.ch rx (by simp only[only];omega) (by simp only[only];omega)
 have aV:e=0:=by
  apply yE;intro h;simp[dg,h]at aO
 subst aV;have cu:¬l.length<64:=by
  intro h;simp[dg,h]at aO
 have akU:dg l 0 64=(l.take 64,l.drop 64,0):=by simp[dg,cu]
 rw[akU]at dc ew kg WZ aO;simp only at dc ew kg WZ aO;generalize awq:l.take 64=b at*;have ab:b.length=64:=by rw[<-awq];simp;omega
 have vb:¬(b.length:Int)<64:=by omega
 have Iw:qc l 0=if xw b then(rt b,l.drop 64,0)else(ah,[],5):=by
  unfold qc;rw[akU];simp only[ab,FX,if_false]
 simp[go_sem,WZ,vb];have ok:=akL ab;refine(RO hk b an (by omega) kg).mono ?_;rintro _ aJ ⟨cN,or,rfl,bn,W_,Ov,bh,bA⟩;have kO:q<an.1.size:=lt_of_block dm;have qN:g<an.1.size:=ew.lt;have ny:dg b 0 1=(b.take 1,b.drop 1,0):=by simp[dg,ab]
 have Av:dg (b.drop 1) 0 1=((b.drop 1).take 1,b.drop 2,0):=by simp[dg,ab]
 have xx:dg (b.drop 2) 0 2=((b.drop 2).take 2,b.drop 4,0):=by simp[dg,ab]
 have iV:dg (b.drop 4) 0 4=((b.drop 4).take 4,b.drop 8,0):=by simp[dg,ab]
 have wd:dg (b.drop 8) 0 8=((b.drop 8).take 8,b.drop 16,0):=by simp[dg,ab]
 have Ow:dg (b.drop 16) 0 (32:Int).toNat=((b.drop 16).take 32,b.drop 48,0):=by simp[dg,ab]
 obtain⟨Aw,W'⟩:=aD (em (b.take 1));obtain⟨mc,td⟩:=aD (em ((b.drop 1).take 1));obtain⟨Ix,Iy⟩:=aD (em ((b.drop 2).take 2));obtain⟨Iz,Xa⟩:=aD (em ((b.drop 4).take 4));obtain⟨te,Xb⟩:=aD (em ((b.drop 8).take 8));simp[go_sem];refine(act cN b 0 aJ (by omega) bh).mono ?_;rintro _ bs ⟨rfl,qd,bo⟩;simp only[ny]at qd;rw[ny,W'];simp[go_sem];refine(act cN _ 0 bs (by simp;omega) qd).mono ?_;rintro _ bD ⟨rfl,Ax,bE⟩;simp only[Av]at Ax;rw[Av,td];simp[go_sem];refine(Xc cN _ 0 bD (by simp;omega) Ax).mono ?_;rintro _ cD ⟨rfl,IA,cF⟩;simp only[xx]at IA;rw[xx,Iy];simp[go_sem];refine(akV cN _ 0 cD (by simp;omega) IA).mono ?_;rintro _ cE ⟨rfl,FY,dE⟩;simp only[iV]at FY;rw[iV,Xa];simp[go_sem];refine(acu cN _ 0 cE (by simp;omega) FY).mono ?_;rintro _ ec ⟨rfl,yF,ds⟩;simp only[wd]at yF;rw[wd,Xb];have Ay:cc ⟨Aw,mc,Ix,Iz,te,dh 32,[0,0,0,0]⟩:=by
  rw[<-W',<-td,<-Iy,<-Xa,<-Xb];exact⟨ok.k,ok.l,ok.o,ok.f,ok.b,rfl,rfl,cH.dI⟩
 generalize qe:(⟨Aw,mc,Ix,Iz,te,dh 32,[0,0,0,0]⟩:Pt)=mQ at Ay;simp[go_sem,awo,qe,gO,gP,cU,cd Ay,bS];have Ox:H (only cN) aJ ec:=(((bo.trans bE).trans cF).trans dE).trans ds;have acv:H al an ec:=bA.bZ Ox λj I e=>by simp only[only]at e;omega
 have Oy:=acv.size;have aP_:or<ec.1.size:=gQ Ov Ox.size;have aP':cN<ec.1.size:=yF.lt;have Xd:=cr ec (.cells (ae mQ) 44);have dV:=(H.refl al ec).alloc (.cells (ae mQ) 44);have FZ:=yF.ch dV id id;have RP:(ec.alloc (.cells (ae mQ) 44)).1.size=ec.1.size+1:=by simp
 have Xe:=acv.trans dV;revert Xd FZ RP Xe;generalize ec.alloc (.cells (ae mQ) 44)=db;generalize W:ec.1.size=x at*;intro Xd FZ RP Xe;refine(Iv cN _ 0 32 db (by decide) (by simp;omega) FZ).mono ?_;rw[Ow];rintro awr nz ⟨aW,bg,bR,ck⟩;have yG:((b.drop 16).take 32).length=32:=ok.h;simp only[yG]at aW;obtain⟨cA,acw,aws,rfl,ug,aL,aR,dB,dl⟩:=RQ aW (by omega);have acx:=ck.am Xd (by simp only[only];omega);have BX:∀w,(Instr.arrayAt 41 (.slice (some ⟨cA,0,none⟩) 32 acw)).run prog w=.ok (az cA) w:=λw=>run_arrayAt w _ _ _ _ _ _ underlying41 (by omega);simp[go_sem,BX,ug,dB,dl,acx,eO,yG,cd Ay,akT Ay.h yG];have akW:=(H.refl (only x) nz).setRow (.inl rfl) (ae {mQ with h:=(b.drop 16).take 32});have RR:=bR.ch akW (by simp only[only];omega) (by simp only[only];omega);have RS:=(Xe.bZ ck (λj I e=>by simp only[only]at e;omega)).setRow (.inr Oy) (ae {mQ with h:=(b.drop 16).take 32});have RT:(nz.setRow x (ae {mQ with h:=(b.drop 16).take 32})).1[x]? =some (.cells (ae {mQ with h:=(b.drop 16).take 32}) 44):=by rw[gh,acx];rfl
 have dk:∀k,k<=4->k=0->ae {mQ with h:=(b.drop 16).take 32}=ae ⟨Aw,mc,Ix,Iz,te,(b.drop 16).take 32,(wb b).take k++List.replicate (4 - k) 0⟩:=by
  rintro k _ rfl;rw[<-qe];rfl
 rw[dk 0 (by omega) rfl]at RT RR RS;rw[dk 0 (by omega) rfl];revert RR RS RT;generalize nz.setRow x (ae ⟨Aw,mc,Ix,Iz,te,(b.drop 16).take 32,(wb b).take 0++List.replicate (4 - 0) 0⟩)=aQa;intro RR RS RT;clear akW ug Xd acx aW bg bR ck FZ yF FY IA Ax qd Ox acv Xe bh bA bo bE cF dE ds dV BX;refine di (λV f bI=>∃k,k<=4/\V=4 - k/\f 0=az g/\f 2=az q/\f 4=az cN/\f 5=az x/\f 31=aa k/\
  hH bI cN or (b.drop (48+2*k)) 0/\H al an bI/\bI.1[x]? =some (.cells (ae ⟨Aw,mc,Ix,Iz,te,(b.drop 16).take 32,(wb b).take k++List.replicate (4 - k) 0⟩) 44)) 4
  ⟨0,by omega,rfl,by simp,by simp,by simp,by simp,by simp,RR,RS,RT⟩ ?_
 clear RR RS RT;rintro cQ bJ _ f bI ⟨k,r,rfl,bi,T,aP,bH,acy,ax,Z,vc⟩;by_cases gq:k<4
 ·have eo:(k:Int)<4:=by omega
  simp[go_sem,aP,acy,eo];refine(Xc cN _ 0 bI (by simp;omega) ax).mono ?_;have xx:dg (b.drop (48+2*k)) 0 2=((b.drop (48+2*k)).take 2,b.drop (48+2*(k+1)),0):=by
   simp[dg,ab,show¬64 -(48+2*k)<2 by omega,BY,yH]
  rw[xx];rintro _ cE ⟨rfl,dc,hl⟩;have yI:=hl.am vc (by simp only[only];omega);have mR:=λi=>aG yI i;have kP:=λi=>dJ yI i;have F_:(wb b).length=4:=rfl;have pz:cc ⟨Aw,mc,Ix,Iz,te,(b.drop 16).take 32,(wb b).take k++List.replicate (4 - k) 0⟩:=by
   rw[<-W',<-td,<-Iy,<-Xa,<-Xb];refine⟨ok.k,ok.l,ok.o,ok.f,ok.b,yG,by simp[F_];omega,λy ar=> ?_⟩;rcases hP.1 ar with h|h
   ·exact ok.dI y (DU h)
   ·rw[(IB.1 h).2];decide
  have fo:(ae ⟨Aw,mc,Ix,Iz,te,(b.drop 16).take 32,(wb b).take k++List.replicate (4 - k) 0⟩)[37+k]? =some (.int .u16 (0:Nat)):=by
   refine mS pz ?_;simp only;rw[DV (by rw[ol];omega),ol,DW,be (by omega)]
  simp[go_sem,bH,acy,eo,mR,kP,fo];have acz:=(H.refl (only x) cE).setCell (p:=bl x (37+k)) (.inl rfl) (.int .u16 (em ((b.drop (48+2*k)).take 2):Nat));refine ct.intro (4 -(k+1)) (by omega) (bJ _ _ _ ⟨k+1,by omega,rfl,by simpa using bi,by simpa using T,by simpa using aP,by simpa using bH,by simp[cz];omega,
   dc.ch acz (by simp only[only];omega) (by simp only[only];omega),(Z.bZ hl (λj I e=>by simp only[only]at e;omega)).setCell (.inr Oy) _,?_⟩)
  rw[eU,yI,fU,Ot yG];congr 3;simp only;have W:(wb b)[k]? =some (em ((b.drop (48+2*k)).take 2)):=by
   match k,gq with
   |0,_=>rfl
   |1,_=>rfl
   |2,_=>rfl
   |3,_=>rfl
  rw[Lq _ _ (by rw[ol];omega),ol,F_,show k - min k 4=0 by omega,show(wb b).take (k+1)=(wb b).take k++(wb b)[k]?.toList from nA,W,show 4 - k=(4 -(k+1))+1 by omega,Oz,OA];simp
 ·obtain rfl:k=4:=by omega
  have acA:(⟨Aw,mc,Ix,Iz,te,(b.drop 16).take 32,(wb b).take 4++List.replicate (4 - 4) 0⟩:Pt)=rt b:=by
   rw[<-W',<-td,<-Iy,<-Xa,<-Xb];rfl
  rw[acA]at vc;simp[go_sem,aP,acy];refine(RU cN _ 0 bI ax).mono ?_;rintro _ _ ⟨rfl,rfl⟩;have RV:(b.drop (48+2*4)).length=8:=by simp[ab]
  simp[go_sem,RV];refine(Xf cN _ 0 8 _ (by decide) (by rw[RV];decide) ax).mono ?_;have awt:we (b.drop (48+2*4)) 0 (8:Int).toNat=([],if qM (b.drop 56)then 5 else 0):=by
   have:dg (b.drop (48+2*4)) 0 (8:Int).toNat=(b.drop 56,[],0):=by simp[dg,ab];exact mP (by simp[ab])
   unfold we;rw[this]
   cases qM (b.drop 56)<;>simp[om]
  rw[awt];rintro _ awu ⟨rfl,iW,kh⟩;simp only at iW;simp[go_sem,aP];refine(Xg cN _ _ awu iW).mono ?_;have awv:tf [] (if qM (b.drop 56)then 5 else 0)=([],if qM (b.drop 56)then 5 else 0):=by simp[tf]
  rw[awv];rintro _ akX ⟨rfl,jP,xy⟩;have Lr:=(Z.bZ kh λj I e=>by simp only[only]at e;omega).bZ xy λj I e=>by simp only[only]at e;omega
  have Xh:=xy.am (kh.am vc (by simp only[only];omega)) (by simp only[only];omega);have RW:=cd ok;have RX:=ef ok;have nB:=ew.ch Lr id id;have Az:=Lr.am dm id;have ho:=λw=>tc w ok cH;have bU:∀{u:M},H al an u->H (only g) w u:=λh=>((fR.mono λ_ _ e=>e.elim).trans iB).trans (h.mono λ_ _ e=>e.elim);by_cases ry:qM (b.drop 56)=true
  ·have iX:¬xw b=true:=by simp[xw,ry]
   simp[go_sem,ry,bi];refine(acB g _ 0 _ nB).mono ?_;have acC:om (l.drop 64) 0 5=([],5):=by simp[om]
   rw[acC];rintro _ RY ⟨rfl,bt,cY⟩;have IC:=cY.am Az (by simp only[only];omega);have fm:(RY.setRow q (ae ah)).1[q]? =some (.cells (ae ah) 44 (0,0)):=by rw[gh,IC];rfl
   have rx:=(H.refl (only q) RY).setRow (.inl rfl) (ae ah);simp[go_sem,T,IC,l',cU,bS,fm,gV];refine af _ _ ⟨by rw[Iw,aQ iX],?_,((bU Lr).trans cY).setRow (.inr (by omega)) _⟩;rw[Iw,aQ iX];exact bt.ch rx (by simp only[only];omega) (by simp only[only];omega)
  ·simp only[Bool.not_eq_true]at ry;by_cases DX:rt b=ah
   ·have iX:xw b=true:=by simp[xw,ry,DX]
    rw[DX]at Xh;have ID:=λw=>tc w cH cH;have fm:(akX.setRow q (ae ah)).1[q]? =some (.cells (ae ah) 44 (0,0)):=by rw[gh,Az];rfl
    have rx:=(H.refl (only q) akX).setRow (.inl rfl) (ae ah);simp[go_sem,ry,bi,T,bH,Xh,cU,gV,l',ID,Az,bS,fm];refine af _ _ ⟨by rw[Iw,be iX,DX],?_,(bU Lr).setRow (.inr (by omega)) _⟩;rw[Iw,be iX];exact nB.ch rx (by simp only[only];omega) (by simp only[only];omega)
   ·simp[go_sem,ry,bi,T,bH,Xh,RW,RX,l',ho,DX];refine(DY (rt b) _ ok ?_).mono ?_
    ·exact(fb.ch iB (by simp only[only];exact λe=>jj e.symm)).ch Lr id
    rintro _ akY ⟨rfl,hQ⟩
    cases aC:jY (rt b)
    ·have iX:¬xw b=true:=by simp[xw,ry,DX,aC]
     have aww:=nB.ch hQ id id;have awx:=hQ.am Az id;simp[go_sem,bi];refine(acB g _ 0 _ aww).mono ?_;have acC:om (l.drop 64) 0 5=([],5):=by simp[om]
     rw[acC];rintro _ RY ⟨rfl,bt,cY⟩;have IC:=cY.am awx (by simp only[only];omega);have fm:(RY.setRow q (ae ah)).1[q]? =some (.cells (ae ah) 44 (0,0)):=by rw[gh,IC];rfl
     have rx:=(H.refl (only q) RY).setRow (.inl rfl) (ae ah);simp[go_sem,T,IC,l',cU,bS,fm,gV];refine af _ _ ⟨by rw[Iw,aQ iX],?_,((bU (Lr.trans hQ)).trans cY).setRow (.inr (by omega)) _⟩;rw[Iw,aQ iX];exact bt.ch rx (by simp only[only];omega) (by simp only[only];omega)
    ·have iX:xw b=true:=by simp[xw,ry,DX,aC]
     have awy:=hQ.am Xh id;have IC:=hQ.am Az id;have fm:(akY.setRow q (ae (rt b))).1[q]? =some (.cells (ae (rt b)) 44 (0,0)):=by rw[gh,IC];rfl
     have rx:=(H.refl (only q) akY).setRow (.inl rfl) (ae (rt b));simp[go_sem,T,bH,awy,RW,cU,RX,IC,bS,fm];refine af _ _ ⟨by rw[Iw,be iX],?_,(bU (Lr.trans hQ)).setRow (.inr (by omega)) _⟩;rw[Iw,be iX];exact(nB.ch hQ id id).ch rx (by simp only[only];omega) (by simp only[only];omega)
theorem awz(a b:Nat)(ao:a<18446744073709551616)(ab:b<18446744073709551616):bits .and .u64 (a:Int) (b:Int)=((a&&&b:Nat):Int):=by
 have W:a&&&b<2^64:=Ls _ (by omega);show IntKind.u64.wrap ((BitVec.ofInt 64 (a:Int)&&&BitVec.ofInt 64 (b:Int)).toNat:Int)=_;rw[BitVec.toNat_and,vd 64 a (by omega),vd 64 b (by omega),tg];omega
theorem RZ(a b:Nat)(ao:a<4294967296)(ab:b<4294967296):bits .and .u32 (a:Int) (b:Int)=((a&&&b:Nat):Int):=by
 have W:a&&&b<2^32:=Ls _ (by omega);show IntKind.u32.wrap ((BitVec.ofInt 32 (a:Int)&&&BitVec.ofInt 32 (b:Int)).toNat:Int)=_;rw[BitVec.toNat_and,vd 32 a (by omega),vd 32 b (by omega),ve];omega
theorem Xi(a b:Nat)(ao:a<4294967296)(ab:b<4294967296):bits .or .u32 (a:Int) (b:Int)=((a|||b:Nat):Int):=by
 have W:a|||b<2^32:=BZ (by omega) (by omega);show IntKind.u32.wrap ((BitVec.ofInt 32 (a:Int)|||BitVec.ofInt 32 (b:Int)).toNat:Int)=_;rw[BitVec.toNat_or,vd 32 a (by omega),vd 32 b (by omega),ve];omega
theorem AA(a b:Nat)(ao:a<4294967296)(ab:b<4294967296):bits .xor .u32 (a:Int) (b:Int)=((a^^^b:Nat):Int):=by
 have W:a^^^b<2^32:=Lt (by omega) (by omega);show IntKind.u32.wrap ((BitVec.ofInt 32 (a:Int)^^^BitVec.ofInt 32 (b:Int)).toNat:Int)=_;rw[BitVec.toNat_xor,vd 32 a (by omega),vd 32 b (by omega),ve];omega
def li(x n:Nat):Nat:=(x*2^(32 - n))%4294967296|||x / 2^n
theorem DZ(x n:Nat)(W:x<4294967296):li x n<4294967296:=BZ (n:=32) (IE _ (by decide)) (R_ (R' _ _) W)
theorem awA(x n:Nat)(w:M)(W:x<4294967296)(bi:0<n)(aq:n<32):bc prog 281 #[.int .u32 x,aa (-(n:Int))] w λv' w'=>v'=.int .u32 (li x n)/\w'=w:=by
 refine bz func281 ntmps281 λbk af=> ?_;have J:IntKind.u64.wrap (-(n:Int))=((18446744073709551616 - n:Nat):Int):=by rw[tg];omega
 have T:bits .and .u64 (IntKind.u64.wrap (-(n:Int))) 31=((32 - n:Nat):Int):=by
  rw[J,show(31:Int)=((31:Nat):Int)from rfl,awz _ _ (by omega) (by decide),show(31:Nat)=2^5 - 1 from rfl,Nat.and_two_pow_sub_one_eq_mod];omega
 have ag:IntKind.u64.wrap (32 -((32 - n:Nat):Int))=(n:Int):=by rw[tg];omega
 have aP:IntKind.u32.wrap ((x:Int)*2^(32 - n))=(((x*2^(32 - n))%4294967296:Nat):Int):=by
  rw[show(x:Int)*2^(32 - n)=((x*2^(32 - n):Nat):Int)by simp,ve];generalize x*2^(32 - n)=y;omega
 have bH:(x:Int) / 2^n=((x / 2^n:Nat):Int):=by simp
 have cS:x / 2^n<4294967296:=R_ (R' _ _) W;simp[go_sem,T,ag];refine af _ _ ⟨?_,rfl⟩;rw[aP,bH,Xi _ _ (IE _ (by decide)) cS];rfl
theorem D_(x n:Nat)(w:M)(W:x<4294967296)(bi:0<n)(aq:n<32):bc prog 262 #[.int .u32 x,aa n] w λv' w'=>v'=.int .u32 (li x n)/\w'=w:=by
 refine bz func262 ntmps262 λbk af=> ?_;have J:IntKind.i64.wrap (-(n:Int))= -(n:Int):=by rw[cz];omega
 simp[go_sem,J];refine(awA x n w W bi aq).mono ?_;rintro _ _ ⟨rfl,rfl⟩;simp[go_sem];exact af _ _ ⟨rfl,rfl⟩
def dw(n:Nat)(h:List UInt8)(a:List Nat):Array N:=(Value.int .u64 n::(br h++hg a)).toArray
structure F'(n:Nat)(h:List UInt8)(a:List Nat):Prop where
 aq:n<18446744073709551616
 aN:h.length=32
 ao:a.length=4
 lt:∀(i:Nat) (x:Nat),a[i]? =some x->x<65536
section
variable {n:Nat}{h:List UInt8}{a:List Nat}
theorem xz(aN:h.length=32)(ao:a.length=4):(dw n h a).size=37:=by simp[dw,eO,DS,aN,ao]
@[simp] theorem aQb(n:Nat)(h:List UInt8)(a:List Nat):jx (dw n h a)=true:=by
 refine yJ λu ap=> ?_;simp only[io,hP]at ap;rcases ap with rfl|ap|ap
 ·rfl
 ·exact AB _ u ap
 ·exact acD _ u ap
theorem OB(aN:h.length=32)(ao:a.length=4):(dw n h a).extract 0 37=dw n h a:=by rw[<-xz (n:=n) aN ao];simp
theorem Ga(n:Nat)(h:List UInt8)(a:List Nat):(dw n h a)[0]? =some (.int .u64 n):=by simp[dw]
theorem acE(aN:h.length=32):(dw n h a).extract 1 33=(br h).toArray:=by
 apply ip;simp[dw,Ea,aN,eO]
theorem akZ(aN:h.length=32)(ao:a.length=4):(dw n h a).extract 33 37=(hg a).toArray:=by
 apply ip;simp[dw,Ea,aN,eO];exact mP (by rw[DS];omega)
theorem OC(aN:h.length=32)(i:Nat)(x:Nat)(W:a[i]? =some x):(dw n h a)[33+i]? =some (DT x):=by
 simp[dw,show 33+i=(32+i)+1 by omega,List.getElem?_append,eO,aN,hg,W]
end
def kQ(n:Nat):List Nat:=List.replicate n 0
theorem Eb(n:Nat):(kQ n).length=n:=yC
theorem Lu:kN prog 61=dw 0 (dh 32) (kQ 4):=by kernel_rfl
theorem ak0:kN prog 159=(br (dh 64)).toArray:=by kernel_rfl
theorem Lv:(prog.info? 61).map (λi=>i.zero.isSome)=some true:=by kernel_rfl
theorem ak1:(prog.info? 159).map (λi=>i.zero.isSome)=some true:=by kernel_rfl
def jk(n:Nat)(h:List UInt8)(a:List Nat):List UInt8:=ci n 8++(h++(a.flatMap (λx=>ci x 2)++List.replicate 16 0))
theorem awB(a:List Nat):(a.flatMap (λx=>ci x 2)).length=2*a.length:=by
 induction a with
 |nil=>rfl
 |cons x a bL=>simp[ku,bL]at*;omega
theorem OD{n:Nat}{h:List UInt8}{a:List Nat}(aN:h.length=32)(ao:a.length=4):(jk n h a).length=64:=by
 have:=awB a;simp only[jk,kR,ku,aN,this,ao,yC]
theorem ak2(n:Nat)(h:List UInt8)(a:List Nat)(w:M)(ok:F' n h a):
  bc prog 117 #[.agg (dw n h a)] w λv' w'=>v'=.agg (br (jk n h a)).toArray/\H al w w':=by
 obtain⟨aq,aN,ao,aO⟩:=ok;have gV:=OB (n:=n) aN ao;have cU:=xz (n:=n) aN ao;refine bz func117 ntmps117 λbk af=> ?_;simp[go_sem,ak1,ak0];have cZ:((w.alloc (.cells (dw n h a) 61)).alloc (.cells (br (dh 64)).toArray 159)).1[w.1.size]? =some (.cells (dw n h a) 61):=by simp
 have dm:((w.alloc (.cells (dw n h a) 61)).alloc (.cells (br (dh 64)).toArray 159)).1[w.1.size+1]? =some (.cells (br (dh 64)).toArray 159):=by simp
 have fR:H al w ((w.alloc (.cells (dw n h a) 61)).alloc (.cells (br (dh 64)).toArray 159)):=((H.refl al w).alloc _).alloc _;have xA:w.1.size+2=((w.alloc (.cells (dw n h a) 61)).alloc (.cells (br (dh 64)).toArray 159)).1.size:=by simp
 revert cZ dm fR xA;generalize(w.alloc (.cells (dw n h a) 61)).alloc (.cells (br (dh 64)).toArray 159)=ai;generalize aH:w.1.size=g;intro cZ dm fR xA;have mR:=λi=>aG cZ i;refine cT [F 0,F 1,F 3,F 4,(2,some [3,4]),(5,some []),F 6] ?_;simp[go_sem,mR,Ga];refine(acF (.slice none 0 0) 0 [] n _ aq (by decide) (pA _ _ _ _)).mono ?_;rintro hk an ⟨bn,bh,bA⟩;have bh:H al ai an:=bh.hR.mono λ_ _ e=>by simp[Value.ownBlock]at e
 have Lw:=bh.am cZ id;have B_:=bh.am dm id;have aA:bC an (.slice (some ⟨g,1,none⟩) 32 32) h.length (br h):=by
  rw[aN];refine bC.Gb Lw (c_ _) (by decide) ?_;simp[dw,aN,eO]
 simp[go_sem];refine Lx lE bn aA (eO h) (AB _) (by unfold maxLen;omega) (by omega) λv3 aJ ex fJ jZ=> ?_;have oU:H al ai aJ:=bh.bZ fJ λj I e=>by
  rcases bA with bA|bA
  ·rw[bA]at e;simp[Value.ownBlock]at e
  ·have:=bA j e;simp at this;omega
 have OE:gr ai.1.size v3:=by
  rcases jZ with jZ|jZ
  ·intro j I;rw[jZ]at I;rcases bA with bA|bA
   ·rw[bA]at I;simp[Value.ownBlock]at I
   ·have:=bA j I;simpa using this
  ·exact jZ.mono bh.size
 rw[<-Gc,xu,xB,aN]at ex;have acG:=λi=>aG (oU.am cZ id) i;obtain⟨a0,a1,a2,a3,rfl⟩:∃a0 a1 a2 a3,a=[a0,a1,a2,a3]:=by
  match a,ao with
  |[a0,a1,a2,a3],_=>grind
 have gs:=OC (n:=n) aN 0 a0 (a:=[a0,a1,a2,a3]) rfl;have aY:=OC (n:=n) aN 1 a1 (a:=[a0,a1,a2,a3]) rfl;have aK:=OC (n:=n) aN 2 a2 (a:=[a0,a1,a2,a3]) rfl;have aI:=OC (n:=n) aN 3 a3 (a:=[a0,a1,a2,a3]) rfl;simp only[Nat.reduceAdd]at gs aY aK aI;simp[go_sem,acG,gs,aY,aK,aI];refine di (λV f bI=>∃k,k<=4/\V=4 - k/\f 2=.pointer (some ⟨g+1,0,none⟩)/\f 13=.agg (hg [a0,a1,a2,a3]).toArray/\f 14=aa k/\jc aJ v3 40 (ci n 8++h) (2*k) (([a0,a1,a2,a3].take k).flatMap (λx=>ci x 2)) (f 3) bI) 4
  ⟨0,by omega,rfl,by simp,by simp[hg],by simp,by simpa using jc.refl ex⟩ ?_
 rintro cQ bJ _ f bI ⟨k,r,rfl,T,ak3,acH,av⟩;by_cases Xj:k<4
 ·obtain⟨x,W⟩:∃x,[a0,a1,a2,a3][k]? =some x:=⟨_,d_ (by simpa using Xj)⟩;have Gd:(hg [a0,a1,a2,a3])[k]? =some (.int .u16 x):=by rw[hg,oo,W];rfl
  have lj:=aO k x W;have gq:(k:Int)<4:=by omega
  have pB:=λw=>IF (P:=prog) (kd:=.i64) underlying42 Tryz.sizeOf39 Tryz.isAgg39 Xj (cs:=(hg [a0,a1,a2,a3]).toArray) (by simpa using Gd) w;simp[go_sem,ak3,acH,gq,pB];refine(Xk _ _ _ x bI lj (by omega) av.1).mono ?_;rintro v4 bs ⟨dc,hl,ew⟩;simp[go_sem,acH];refine ct.intro (4 -(k+1)) (by omega) (bJ _ _ _ ⟨k+1,by omega,rfl,by simpa using T,by simpa using ak3,by simp[cz];omega,?_⟩);have aL:([a0,a1,a2,a3].take (k+1)).flatMap (λx=>ci x 2)=([a0,a1,a2,a3].take k).flatMap (λx=>ci x 2)++ci x 2:=by
   rw[nA,W];simp
  rw[aL];refine⟨?_,av.2.1.bZ hl λj I e=> ?_,?_⟩
  ·rw[nv]at dc;simpa[BY,yH]using dc
  ·rcases av.2.2 with h|h
   ·rw[<-h];exact e
   ·have:=h j e;omega
  ·simp;rcases ew with ew|ew
   ·rcases av.2.2 with h|h
    ·exact .inl (ew.trans h)
    ·exact .inr λj I=>h j (by rw[<-ew];exact I)
   ·exact .inr (ew.mono av.2.1.size)
 ·obtain rfl:k=4:=by omega
  simp[go_sem,acH];have awC:(ci n 8++h++([a0,a1,a2,a3].take 4).flatMap (λx=>ci x 2)).length=48:=by
   simp[ku,aN]
  refine(Xl (f 3) 48 _ 64 bI (by omega) (by omega) awC (by simpa using av.1)).mono ?_;rintro v5 bD ⟨dc,hl,ew⟩;have yK:br (ci n 8++h++([a0,a1,a2,a3].take 4).flatMap (λx=>ci x 2)++List.replicate ((64:Int).toNat - 48) 0)=br (jk n h [a0,a1,a2,a3]):=by
   simp[jk]
  rw[yK]at dc;obtain⟨cO,ak4,ak5,rfl,md,aL,aR,dB,dl⟩:=RQ dc (by omega);have wg:H al ai bD:=(oU.bZ av.2.1 (λj I e=>by have:=OE j e;omega)).bZ hl λj I e=>by
   rcases av.2.2 with h|h
   ·rw[h]at e;have:=OE j e;omega
   ·have:=h j e;have:=oU.size;omega
  have B_:=wg.am dm id;have dn:g+1≠cO:=by
   have Sa:gr ai.1.size (.slice (some ⟨cO,0,none⟩) (48+((64:Int).toNat - 48)) ak4):=by
    rcases ew with ew|ew
    ·intro j I;rw[ew]at I;rcases av.2.2 with h|h
     ·rw[h]at I;exact OE j I
     ·exact dK oU.size (h j I)
    ·exact ew.mono (dK oU.size av.2.1.size)
   have:=Sa cO rfl;omega
  have BX:∀w,(Instr.arrayAt 159 (.slice (some ⟨cO,0,none⟩) 64 ak4)).run prog w=.ok (az cO) w:=λw=>run_arrayAt w _ _ _ _ _ _ underlying159 (by omega);have b_:=OD (n:=n) aN (a:=[a0,a1,a2,a3]) rfl;have awD:64<=ak5.size:=by simpa using dB
  have awE:ak5.extract 0 64=(br (jk n h [a0,a1,a2,a3])).toArray:=by simpa using dl
  simp[go_sem,BX,md,awD,awE,T,B_,eO,b_,nu,bS];exact af _ _ ⟨rfl,(fR.trans wg).setRow (.inr (by omega)) _⟩
end Go.Proofs.YtoohkhcpboldjaaGreatDoor
