/- A state as a base: what it tells of inodes, leaves. For any source. Conditions: the variables ptr.wide, tree.hole hold what the text lays. -/
import Derived.Test.YtoohkhcpboldjaaGreatDoorMcI
set_option maxRecDepth 100000
set_option linter.unusedSimpArgs false
set_option linter.unusedVariables false
namespace Go.Proofs.YtoohkhcpboldjaaGreatDoor
open Go.RowKit Go.Kin Tryz
def oj(b:List UInt8):Nat:=em (b.take 8)
def rs(b:List UInt8):List UInt8:=(b.drop 8).take 32
def ta(b:List UInt8):List Nat:=[em ((b.drop 40).take 2),em ((b.drop 42).take 2),em ((b.drop 44).take 2),em ((b.drop 46).take 2)]
theorem aOQ{b:List UInt8}(ab:b.length=64):F' (oj b) (rs b) (ta b):=by
 have T:∀k,k<=62->em ((b.drop k).take 2)<65536:=λk r=>by
  have:=FT ((b.drop k).take 2)
  grind
 refine⟨?_,by simp[rs,ab],rfl,λi x W=> ?_⟩
 ·have:=FT (b.take 8);rw[ol,ab]at this;exact this
 ·match i,W with
  |0,W=>cases W;exact T 40 (by omega)
  |1,W=>cases W;exact T 42 (by omega)
  |2,W=>cases W;exact T 44 (by omega)
  |3,W=>cases W;exact T 46 (by omega)
  |i+4,W=>simp[ta]at W
theorem aOR{b:List UInt8}(ab:b.length=64):jk (oj b) (rs b) (ta b)=b.take 48++dh 16:=by
 have e:∀k m,k+m<=64->ci (em ((b.drop k).take m)) m=(b.drop k).take m:=λk m r=>by
  have:=akK ((b.drop k).take m)
  grind
 have dk:ci (em (b.take 8)) 8=b.take 8:=by simpa using e 0 8 (by omega)
 have s:∀i j,(b.drop i).take j++(b.drop (i+j)).take (48 -(i+j))=(b.drop i).take (j+(48 -(i+j))):=λi j=>by
  rw[List.take_add,ru]
 have ace:b.take 48=b.take 8++((b.drop 8).take 32++((b.drop 40).take 2++((b.drop 42).take 2++((b.drop 44).take 2++(b.drop 46).take 2)))):=by
  rw[s 44 2,s 42 2,s 40 2,s 8 32,show b.take 8=(b.drop 0).take 8 by simp,s 0 8];simp
 simp only[jk,oj,rs,ta,dk,Au,WS,e 40 2 (by omega),e 42 2 (by omega),e 44 2 (by omega),e 46 2 (by omega),ace,nv,va];rfl
theorem avP{n:Nat}{h:List UInt8}{a:List Nat}(ok:F' n h a):oj (jk n h a)=n/\rs (jk n h a)=h/\ta (jk n h a)=a:=by
 obtain⟨aq,aN,ao,aO⟩:=ok;obtain⟨a0,a1,a2,a3,rfl⟩:∃a0 a1 a2 a3,a=[a0,a1,a2,a3]:=by
  match a,ao with
  |[a0,a1,a2,a3],_=>grind
 have tb:=aO 0 a0 rfl;have mx:=aO 1 a1 rfl;have lh:=aO 2 a2 rfl;have qL:=aO 3 a3 rfl;have CQ:∀V,(ci n 8++V).drop 8=V:=λV=>by rfl
 have hl:∀x V,(ci x 2++V).drop 2=V:=λx V=>by rfl
 have aOS:∀V,(h++V).drop 32=V:=λV=>by rw[WT aN]
 have el:∀x V,(ci x 2++V).take 2=ci x 2:=λx V=>by rfl
 have ue:(jk n h [a0,a1,a2,a3]).drop 8=h++([a0,a1,a2,a3].flatMap (λx=>ci x 2)++List.replicate 16 0):=by rw[jk,CQ]
 have avQ:(jk n h [a0,a1,a2,a3]).drop 40=ci a0 2++(ci a1 2++(ci a2 2++(ci a3 2++List.replicate 16 0))):=by
  rw[show 40=8+32 by rfl,<-ru,ue,aOS];simp
 have avR:(jk n h [a0,a1,a2,a3]).drop 42=ci a1 2++(ci a2 2++(ci a3 2++List.replicate 16 0)):=by
  rw[show 42=40+2 by rfl,<-ru,avQ,hl]
 have avS:(jk n h [a0,a1,a2,a3]).drop 44=ci a2 2++(ci a3 2++List.replicate 16 0):=by
  rw[show 44=42+2 by rfl,<-ru,avR,hl]
 have aOT:(jk n h [a0,a1,a2,a3]).drop 46=ci a3 2++List.replicate 16 0:=by
  rw[show 46=44+2 by rfl,<-ru,avS,hl]
 refine⟨?_,?_,?_⟩
 ·rw[oj,jk,WU (ku n 8),RM];omega
 ·rw[rs,ue,WU aN]
 ·simp only[ta,avQ,avR,avS,aOT,el,RM];simp;omega
def RJ(b:List UInt8):Bool:=decide (b.drop 48=dh 16)
theorem avT{b:List UInt8}(ab:b.length=64):jk (oj b) (rs b) (ta b)=b↔b.drop 48=dh 16:=by
 rw[aOR ab];constructor
 ·grind
 ·intro h;rw[<-h,FV]
theorem aOU{n:Nat}{h:List UInt8}{a:List Nat}(ok:F' n h a):RJ (jk n h a)=true:=by
 have b_:=OD (n:=n) ok.aN ok.ao;obtain⟨J,T,ag⟩:=avP ok;have:=(avT b_).1 (by rw[J,T,ag]);simpa[RJ]using this
def acf(b:List UInt8):N:=.tuple #[if RJ b then .agg (dw (oj b) (rs b) (ta b))else .agg (dw 0 (dh 32) (kQ 4)),aa (if RJ b then 0 else 5)]
section
variable {n:Nat}{h:List UInt8}{a:List Nat}
theorem avU(fB:Nat):dT (dw n h a) 0 #[.int .u64 fB]=dw fB h a:=by simp[dT,dw]
theorem avV{h':List UInt8}(aN:h.length=32)(rv:h'.length=32):dT (dw n h a) 1 (br h').toArray=dw n h' a:=by
 simp[dT,dw,rv,eO,aN]
theorem aOV{jv:List Nat}(aN:h.length=32)(ao:a.length=4)(aiU:jv.length=4):dT (dw n h a) 33 (hg jv).toArray=dw n h jv:=by
 simp[dT,dw,eO,DS,aN,aiU];omega
theorem aOW(aN:h.length=32)(i x:Nat):(dw n h a).setIfInBounds (33+i) (.int .u16 x)=dw n h (a.set i x):=by
 apply ip;simp[dw,show 33+i=(32+i)+1 by omega,Lq,eO,aN,hg,Ou,DT]
end
theorem apO{w:M}{K:N->M->Prop}:jb prog 61 [] w K=K (.agg (dw 0 (dh 32) (kQ 4))) w:=
 ma underlying61 Lv (places:=#[(0,1),(1,32),(33,4)]) (by simp[go_sem]) (by simp[jw,Lu])
theorem aOX(n:Nat){w:M}{K:N->M->Prop}:jb prog 61 [(0,.int .u64 n)] w K=K (.agg (dw n (dh 32) (kQ 4))) w:=
 ma underlying61 Lv (places:=#[(0,1),(1,32),(33,4)]) (by simp[go_sem]) (by simp[jw,Lu,Value.cells,xz (nu 32) (Eb 4),avU])
theorem aDp(n:Nat)(h:List UInt8)(a:List Nat)(aN:h.length=32)(ao:a.length=4){w:M}{K:N->M->Prop}:
  jb prog 61 [(0,.int .u64 n),(1,.agg (br h).toArray),(2,.agg (hg a).toArray)] w K=K (.agg (dw n h a)) w:=
 ma underlying61 Lv (places:=#[(0,1),(1,32),(33,4)]) (by simp[go_sem])
  (by simp[jw,Lu,Value.cells,xz (nu 32) (Eb 4),xz aN (Eb 4),avU,avV (nu 32) aN,aOV aN (Eb 4) ao,eO,DS,aN,ao])
theorem aOY(w:M)(xs ys:List UInt8)(W:xs.length=64)(ar:ys.length=64):(Op.equalIn 10000 159 (.agg (br xs).toArray) (.agg (br ys).toArray)).run prog w=.ok (decide (xs=ys)) w:=
 WX w 9998 _ _ 64 underlying159 underlying5 Tryz.sizeOf5 Tryz.isAgg5 xs ys W ar
theorem aOZ(b:List UInt8)(w:M)(ab:b.length=64):
  bc prog 63 #[.agg (br b).toArray] w λv' w'=>v'=acf b/\H al w w':=by
 have ok:=aOQ ab;refine bz func63 ntmps63 λbk af=> ?_;simp[go_sem,Lv,Lu];have cZ:((w.alloc (.cells (br b).toArray 159)).alloc (.cells (dw 0 (dh 32) (kQ 4)) 61)).1[w.1.size]? =some (.cells (br b).toArray 159):=by simp
 have dm:((w.alloc (.cells (br b).toArray 159)).alloc (.cells (dw 0 (dh 32) (kQ 4)) 61)).1[w.1.size+1]? =some (.cells (dw 0 (dh 32) (kQ 4)) 61):=by simp
 have fR:H al w ((w.alloc (.cells (br b).toArray 159)).alloc (.cells (dw 0 (dh 32) (kQ 4)) 61)):=((H.refl al w).alloc _).alloc _;have xA:w.1.size+2=((w.alloc (.cells (br b).toArray 159)).alloc (.cells (dw 0 (dh 32) (kQ 4)) 61)).1.size:=by simp
 revert cZ dm fR xA;generalize(w.alloc (.cells (br b).toArray 159)).alloc (.cells (dw 0 (dh 32) (kQ 4)) 61)=ai;generalize aH:w.1.size=g;intro cZ dm fR xA;have aA:bC ai (.slice (some ⟨g,0,none⟩) 64 64) b.length (br b):=by
  rw[ab];exact bC.Gb cZ (c_ _) (by decide) (by simp[ab])
 refine(RO _ b ai (by omega) aA).mono ?_;rintro hk an ⟨cN,o,rfl,bn,W_,Ov,bh,bA⟩;simp[go_sem];refine(acu cN b 0 an (by omega) bh).mono ?_;rintro v3 aJ ⟨rfl,ex,fJ⟩;have ny:dg b 0 8=(b.take 8,b.drop 8,0):=by simp[dg,ab]
 rw[ny]at ex;have dO:em (b.take 8)=oj b:=rfl;simp[go_sem,ny,dO,aOX,Lv,Lu,xz (nu 32) (Eb 4),bS];have p':H al ai aJ:=bA.bZ fJ λj I e=>by simp only[only]at e;omega
 have Kr:hH (aJ.alloc (.cells (dw (oj b) (dh 32) (kQ 4)) 61)) cN o (b.drop 8) 0:=ex.ch ((H.refl al aJ).alloc _) id id;have md:(aJ.alloc (.cells (dw (oj b) (dh 32) (kQ 4)) 61)).1[aJ.1.size]? =some (.cells (dw (oj b) (dh 32) (kQ 4)) 61):=by simp
 have oa:=p'.alloc (.cells (dw (oj b) (dh 32) (kQ 4)) 61);have CL:cN<aJ.1.size:=ex.lt;have TI:o<aJ.1.size:=gQ Ov fJ.size;have vC:=p'.size;have YW:(aJ.alloc (.cells (dw (oj b) (dh 32) (kQ 4)) 61)).1.size=aJ.1.size+1:=by simp
 revert Kr md oa YW;generalize aJ.alloc (.cells (dw (oj b) (dh 32) (kQ 4)) 61)=bs;generalize aJ.1.size=cO at*;intro Kr md oa YW;refine(Iv cN (b.drop 8) 0 32 bs (by decide) (by simp;omega) Kr).mono ?_;have Av:dg (b.drop 8) 0 (32:Int).toNat=(rs b,b.drop 40,0):=by simp[dg,ab,rs]
 rw[Av];rintro v5 bD ⟨dc,hl,ew,iB⟩;simp only[show(rs b).length=32 from ok.aN]at dc;obtain⟨cA,acw,aws,rfl,ug,aL,aR,dB,dl⟩:=RQ dc (by omega);have yI:=iB.am md (by simp only[only];omega);have B_:=iB.am (oa.am dm id) (by simp only[only];omega);have BX:∀w,(Instr.arrayAt 41 (.slice (some ⟨cA,0,none⟩) 32 acw)).run prog w=.ok (az cA) w:=λw=>run_arrayAt w _ _ _ _ _ _ underlying41 (by omega);have yG:(rs b).length=32:=ok.aN;simp[go_sem,BX,ug,dB,dl,yI,eO,yG,xz (nu 32) (Eb 4),avV (nu 32) yG];have Da:=(H.refl (only cO) bD).setRow (.inl rfl) (dw (oj b) (rs b) (kQ 4));have FL:hH (bD.setRow cO (dw (oj b) (rs b) (kQ 4))) cN o (b.drop 40) 0:=ew.ch Da (by simp only[only];omega) (by simp only[only];omega);have Wm:H al ai (bD.setRow cO (dw (oj b) (rs b) (kQ 4))):=(oa.bZ iB (λj I e=>by simp only[only]at e;omega)).setRow (.inr vC) _;have avW:(bD.setRow cO (dw (oj b) (rs b) (kQ 4))).1[cO]? =some (.cells (dw (oj b) (rs b) (kQ 4)) 61):=by rw[gh,yI];rfl
 refine di (λV f bI=>∃k,k<=4/\V=4 - k/\f 1=az g/\f 2=.pointer (some ⟨g+1,0,none⟩)/\f 4=az cN/\f 5=az cO/\f 17=aa k/\
  hH bI cN o (b.drop (40+2*k)) 0/\H al ai bI/\bI.1[cO]? =some (.cells (dw (oj b) (rs b) ((ta b).take k++kQ (4 - k))) 61)) 4
  ⟨0,by omega,rfl,by simp,by simp,by simp,by simp,by simp,FL,Wm,by simpa using avW⟩ ?_
 clear FL Wm avW Da yI B_ ug aL aR dB dl dc hl ew iB BX Kr md oa;rintro cQ bJ _ f bI ⟨k,r,rfl,J,T,aP,bH,akq,ax,Z,md⟩;by_cases gq:k<4
 ·have eo:(k:Int)<4:=by omega
  simp[go_sem,aP,akq,eo];refine(Xc cN _ 0 bI (by simp;omega) ax).mono ?_;have xx:dg (b.drop (40+2*k)) 0 2=((b.drop (40+2*k)).take 2,b.drop (40+2*(k+1)),0):=by
   simp[dg,ab,show¬64 -(40+2*k)<2 by omega,BY,yH]
  rw[xx];rintro _ cE ⟨rfl,dc,hl⟩;have yI:=hl.am md (by simp only[only];omega);have mR:=λi=>aG yI i;have kP:=λi=>dJ yI i;have F_:(ta b).length=4:=rfl;have fo:(dw (oj b) (rs b) ((ta b).take k++kQ (4 - k)))[33+k]? =some (.int .u16 (0:Nat)):=by
   refine OC yG k 0 ?_;rw[DV (by rw[ol];omega),ol,kQ,DW,be (by omega)]
  simp[go_sem,bH,akq,eo,mR,kP,fo];have acz:=(H.refl (only cO) cE).setCell (p:=bl cO (33+k)) (.inl rfl) (.int .u16 (em ((b.drop (40+2*k)).take 2):Nat));refine ct.intro (4 -(k+1)) (by omega) (bJ _ _ _ ⟨k+1,by omega,rfl,by simpa using J,by simpa using T,by simpa using aP,by simpa using bH,by simp[cz];omega,
   dc.ch acz (by simp only[only];omega) (by simp only[only];omega),(Z.bZ hl (λj I e=>by simp only[only]at e;omega)).setCell (.inr vC) _,?_⟩)
  rw[eU,yI,fU,aOW yG];congr 3;have W:(ta b)[k]? =some (em ((b.drop (40+2*k)).take 2)):=by
   match k,gq with
   |0,_=>rfl
   |1,_=>rfl
   |2,_=>rfl
   |3,_=>rfl
  rw[Lq _ _ (by rw[ol];omega),ol,F_,show k - min k 4=0 by omega,show(ta b).take (k+1)=(ta b).take k++(ta b)[k]?.toList from nA,W,kQ,show 4 - k=(4 -(k+1))+1 by omega,Oz,OA];simp[kQ]
 ·obtain rfl:k=4:=by omega
  rw[mP (by simp[ta])]at md;simp only[Sg,kQ,List.replicate_zero,va]at md;have F_:(ta b).length=4:=rfl;simp[go_sem,akq];refine cT [F 0,F 2,(1,some [2]),F 3] ?_;have gV:=OB (n:=oj b) yG F_;have cU:=xz (n:=oj b) yG F_;have yz:=Z.am cZ id;simp[go_sem,J,bH,md,gV,cU,yz,eO,ab];refine(ak2 _ _ _ bI.drew ok).mono ?_;rintro _ cE ⟨rfl,dc⟩;have dc:=dc.hR;have yI:=dc.am md id;have aO0:=dc.am yz id;have B_:=(Z.trans dc).am dm id;have b_:=OD (n:=oj b) yG F_;have ho:=λw=>aOY w (jk (oj b) (rs b) (ta b)) b b_ ab;have avX:=avT ab;simp[go_sem,J,aO0,eO,ab,ho];by_cases aC:b.drop 48=dh 16
  ·have NF:=avX.2 aC;simp[NF,T,bH,yI,B_,cU,gV,xz (nu 32) (Eb 4),bS,go_sem];refine af _ _ ⟨?_,(fR.trans (Z.trans dc)).setRow (.inr (by omega)) _⟩;simp[acf,RJ,aC]
  ·have NF:¬jk (oj b) (rs b) (ta b)=b:=λh=>aC (avX.1 h);simp[NF,T,B_,xz (nu 32) (Eb 4),bS,go_sem,apO,OB (n:=0) (nu 32) (Eb 4)];refine af _ _ ⟨?_,(fR.trans (Z.trans dc)).setRow (.inr (by omega)) _⟩;simp[acf,RJ,aC]
def sl(p:Nat)(l:List UInt8):Array N:=(Value.pointer (some ⟨p,0,none⟩)::br l).toArray
def sH(w:M)(g p:Nat)(l:List UInt8):Prop:=w.1[g]? =some (.cells (sl p l) 247 (0,0))
theorem avY{p:Nat}{l:List UInt8}(h:l.length=64):(sl p l).size=65:=by simp[sl,eO,h]
theorem aO1{p:Nat}{l:List UInt8}(h:l.length=64):(sl p l).extract 1 65=(br l).toArray:=by
 apply ip;simp[sl,Ea,h]
theorem aO2(p:Nat)(l:List UInt8):(sl p l)[0]? =some (az p):=by simp[sl]
theorem aO3{p:Nat}{l nx:List UInt8}(h:l.length=64)(h':nx.length=64):dT (sl p l) 1 (br nx).toArray=sl p nx:=by
 simp[dT,sl,eO,h,h']
theorem sH.ch{S:Nat->Prop}{w w':M}{g p:Nat}{l:List UInt8}(h:sH w g p l)(Z:H S w w')(aq:¬S g):sH w' g p l:=Z.obj h aq
theorem aO4:kN prog 247=(Value.pointer none::br (dh 64)).toArray:=by kernel_rfl
theorem aO5:(prog.info? 247).map (λi=>i.zero.isSome)=some true:=by kernel_rfl
theorem aO6(p:Nat){w:M}{K:N->M->Prop}:jb prog 247 [(0,az p)] w K=K (.agg (sl p (dh 64))) w:=
 ma underlying247 aO5 (places:=#[(0,1),(1,64)]) (by simp[go_sem]) (by simp[jw,aO4,Value.cells,eO,nu,dT,sl])
theorem aO7(p:Nat)(w:M):bc prog 57 #[az p] w λv' w'=>v'=.tuple #[.pointer (some ⟨w.1.size,0,none⟩),aa 0]/\sH w' w.1.size p (dh 64)/\H al w w'/\w'.1.size=w.1.size+1:=by
 refine bz func57 ntmps57 λbk af=> ?_;simp[go_sem,aO6];exact af _ _ ⟨rfl,heap_alloc_new w _,(H.refl al w).alloc _,by simp⟩
theorem aO8(g p:Nat)(l:List UInt8)(w:M)(ak:l.length=64)(h:sH w g p l):bc prog 64 #[az g] w λv' w'=>v'=.agg (br l).toArray/\H al w w':=by
 have aH:=lt_of_block h;refine bz func64 ntmps64 λbk af=> ?_;have J:(w.alloc (.cells (br (dh 64)).toArray 159)).1[g]? =some (.cells (sl p l) 247 (0,0)):=by rw[rQ _ _ _ aH];exact h
 simp[go_sem,ak1,ak0,J,avY ak,aO1 ak,eO,nu,ak,bS];exact af _ _ ⟨rfl,(H.refl al w).alloc _⟩
theorem aqI(g p:Nat)(n:Nat)(h:List UInt8)(a:List Nat)(w:M)(ok:F' n h a)(ab:sH w g p (jk n h a)):bc prog 20 #[az g] w λv' w'=>v'=.agg (dw n h a)/\H al w w':=by
 have b_:=OD (n:=n) ok.aN ok.ao;refine bz func20 ntmps20 λbk af=> ?_;simp[go_sem,Lv,Lu];have fR:=(H.refl al w).alloc (.cells (dw 0 (dh 32) (kQ 4)) 61);have cZ:(w.alloc (.cells (dw 0 (dh 32) (kQ 4)) 61)).1[w.1.size]? =some (.cells (dw 0 (dh 32) (kQ 4)) 61):=cr _ _;refine(aO8 g p _ _ b_ (ab.ch fR id)).mono ?_;rintro _ an ⟨rfl,hV⟩;simp[go_sem];refine(aOZ _ an b_).mono ?_;rintro _ aJ ⟨rfl,p'⟩;have cU:=xz (n:=n) ok.aN ok.ao;have gV:=OB (n:=n) ok.aN ok.ao;obtain⟨t1,el,t3⟩:=avP ok;have fm:=(hV.trans p').am cZ id;have Z:=fR.trans (hV.trans p');have asg:w.1.size<aJ.1.size:=lt_of_block fm;have ht:(aJ.alloc (.cells (dw n h a) 61)).1[w.1.size]? =some (.cells (dw 0 (dh 32) (kQ 4)) 61):=by rw[rQ _ _ _ asg];exact fm
 simp[go_sem,acf,aOU ok,t1,el,t3,Lv,Lu,cU,gV,xz (nu 32) (Eb 4),bS,ht];exact af _ _ ⟨rfl,(Z.alloc _).setRow (.inr (by simp)) _⟩
def vO(n fB:Nat)(off:Bool)(dS:Int):Int:=if fB<=n then 1 else if(vx off dS).1 then 0 else 3
def kl(g p:Nat):Nat->Prop:=λk=>k=g\/k=p
theorem aDu(g p:Nat)(off:Bool)(dS:Int)(n:Nat)(h:List UInt8)(a:List Nat)(fB:Nat)(h':List UInt8)(jv:List Nat)(w:M)(ok:F' n h a)(sf:F' fB h' jv)(ab:sH w g p (jk n h a))(am:AW w p off dS)(dn:g≠p)(aC:dS<=9223372036854775807):
  bc prog 72 #[az g,.agg (dw fB h' jv)] w λv' w'=>v'=aa (vO n fB off dS)/\H (kl g p) w w'/\
   sH w' g p (if vO n fB off dS=0 then jk fB h' jv else jk n h a)/\AW w' p (if fB<=n then off else(vx off dS).2.1) (if fB<=n then dS else(vx off dS).2.2):=by
 have b_:=OD (n:=n) ok.aN ok.ao;have Wp:=OD (n:=fB) sf.aN sf.ao;refine bz func72 ntmps72 λbk af=> ?_;simp[go_sem];refine cT [F 0,F 1,F 2,(3,some [0,1]),F 4,F 5,F 6] ?_;have fR:=(H.refl al w).alloc (.cells (dw fB h' jv) 61);have cZ:(w.alloc (.cells (dw fB h' jv) 61)).1[w.1.size]? =some (.cells (dw fB h' jv) 61):=cr _ _;have RK:=ab.ch fR id;have acg:=am.ch fR id;have xA:(w.alloc (.cells (dw fB h' jv) 61)).1.size=w.1.size+1:=by simp
 revert fR cZ RK acg xA;generalize w.alloc (.cells (dw fB h' jv) 61)=ai;generalize CZ:w.1.size=vK;intro fR cZ RK acg xA;have aVz:vK<ai.1.size:=lt_of_block cZ;have awp:=lt_of_block ab;have aVA:=lt_of_block am;have mR:=λi=>aG cZ i;simp[go_sem,mR,Ga];refine(aqI g p n h a ai.drew ok RK).mono ?_;rintro _ an ⟨rfl,hV⟩;have hV:=hV.hR;have aO9:=λi=>aG (hV.am cZ id) i;have aO_:=λw=>aJL (P:=prog) (i:=0) (cs:=dw n h a) underlying61 rfl Tryz.isAgg38 (Ga n h a) w;simp[go_sem,aO9,Ga,aO_];by_cases eh:fB<=n
 ·simp[eh,go_sem];refine af _ _ ⟨by simp[vO,eh],(fR.trans hV).mono λ_ _ e=>e.elim,by simpa[vO,eh]using RK.ch hV id,by simpa[eh]using acg.ch hV id⟩
 ·have acG:=λi=>aG (RK.ch hV id) i;simp[eh,go_sem,acG,aO2];refine(ad8 p off dS an (acg.ch hV id) aC).mono ?_;rintro _ aJ ⟨rfl,avZ,p',vC⟩;have av0:sH aJ g p (jk n h a):=(RK.ch hV id).ch p' (by simp only[aj];omega);have wq:H (kl g p) w aJ:=((fR.trans hV).mono (S':=kl g p) λ_ _ e=>e.elim).bZ p' λj I e=>.inr e;have fm:=(hV.am cZ id);have aO':aJ.1[vK]? =some (.cells (dw fB h' jv) 61):=p'.am fm (by simp only[aj];omega);have cU:=xz (n:=fB) sf.aN sf.ao;have gV:=OB (n:=fB) sf.aN sf.ao
  cases eS:(vx off dS).1 with
  |false=>
   simp[go_sem];refine af _ _ ⟨by simp[vO,eh,eS],wq,by simpa[vO,eh,eS]using av0,by simpa[eh]using avZ⟩
  |true=>
   simp[go_sem,aO',cU,gV];refine(ak2 fB h' jv aJ sf).mono ?_;rintro _ bs ⟨rfl,oa⟩;have aPa:=av0.ch oa id;have av1:bs.1[g]? =some (.cells (sl p (jk n h a)) 247 (0,0)):=aPa;simp[go_sem,av1,avY b_,eO,Wp,aO3 b_ Wp];refine af _ _ ⟨by simp[vO,eh,eS],(wq.bZ oa λ_ _ e=>e.elim).setRow (.inl (.inl rfl)) _,?_,?_⟩
   ·unfold sH;rw[gh,av1];simp[vO,eh,eS]
   ·have:=(avZ.ch oa id).ch ((H.refl (aj g) bs).setRow (.inl rfl) (sl p (jk fB h' jv))) (by simp only[aj];omega);simpa[eh]using this
def yB(sv:N)(st:et):Array N:=#[sv]++bN st
def qA(w:M)(v:Nat)(sv:N)(st:et):Prop:=w.1[v]? =some (.cells (yB sv st) 148 (0,0))
theorem av2{sv:N}{st:et}(ok:gi st):(yB sv st).size=84:=by simp[yB,lo ok]
theorem aPb{sv:N}{st:et}(ok:gi st):(yB sv st).extract 43 84=ae st.dd:=by
 have h:=S_ ok;rw[<-h];unfold yB;apply ip;simp
theorem akr{sv:N}{st:et}:(yB sv st)[0]? =some sv:=by simp[yB,Ce]
section
variable {aF:Type}(rd:Src aF)
def qB(s:aF)(st:et)(num:Nat):aF×bF×Int:=kI rd s st.dd num
def jO(s:aF)(st:et)(num off:Nat):aF×Pt×Int:=
 let x:=qB rd s st num
 if x.2.2≠0 then(x.1,ah,x.2.2)else dz rd x.1 x.2.1.V off
def Ab(s:aF)(st:et)(num off:Nat):aF×List UInt8×Int:=
 let x:=jO rd s st num off
 if x.2.2≠0\/x.2.1=ah then(x.1,[],x.2.2)else rd x.1 x.2.1
def Dn(s:aF)(st:et)(num off:Nat):aF×Bool×Int:=
 let x:=jO rd s st num off
 (x.1,!decide (x.2.1=ah),x.2.2)
end
section
variable {aF:Type}{ba:aF->jf}{m:aF->Nat}{rd:Src aF}{dy:TypeId}{ce:N}{s:aF}{w w':M}{O:Nat->Prop}{v:Nat}{st:et}
theorem ar0(aA:pL ba m rd (.iface dy ce))(aC:48<=m s)(aT:∀s,kB (ba s))(h:ba s w O)(aM:qA w v (.iface dy ce) st)(ok:gi st)(num:Nat)(nZ:num<65536)(cv:hI w)(aH:iO ba O):
  bc prog 52 #[az v,.int .u16 num] w λv' w'=>v'=.tuple #[.agg (aZ (qB rd s st num).2.1),aa (qB rd s st num).2.2]/\fu (qB rd s st num).2.1/\ba (qB rd s st num).1 w' (aE O w w')/\H O w w':=by
 refine bz func52 ntmps52 λbk af=> ?_;have ga:=(aT s).lt h;have Hi:=hA jy;have aPc:=av2 (sv:=.iface dy ce) ok;have aPd:=aPb (sv:=.iface dy ce) ok;have aU:=(H.refl al w).alloc (.cells (aZ bp) 113);have bu:=cr w (.cells (aZ bp) 113);have gZ:(w.alloc (.cells (aZ bp) 113)).1.size=w.1.size+1:=by simp
 obtain⟨ai,dx⟩:=aD (w.alloc (.cells (aZ bp) 113));rw[dx]at aU bu gZ;simp[go_sem,uj,uk,dx];obtain⟨g,lp⟩:=aD (w.1.size);rw[lp]at bu gZ⊢;clear dx;refine cT [F 0,F 1,F 2,F 3,F 4,F 5,F 6,F 7,F 8,F 9,(10,some []),F 11,F 12,(13,some [12]),F 14] ?_;have dH:=aU.drew;obtain⟨hO,lq⟩:=aD (ai.drew);have kW:hO.1.size=ai.1.size:=by rw[<-lq];rfl
 have Fb:hO.1[g]? =some (.cells (aZ bp) 113 (0,0)):=by rw[<-lq];exact bu
 rw[lq]at dH⊢;clear lq;have av3:hO.1[v]? =some (.cells (yB (.iface dy ce) st) 148 (0,0)):=dH.obj aM id;have WN:=(aG av3 0).trans akr;have J:=(aT s).ch h dH λ_ _ e=>e;have fq:=cv.ch dH λ_ _ e=>e;simp[go_sem,WN,av3,aPc,aPd];refine(anK aA aC aT J st.dd ok.dd num nZ fq aH).mono ?_;have aks:=ae5 rd s st.dd num;rintro _ an ⟨rfl,T,aK⟩;have cR:=aK.size;have jU:=aK.obj Fb λe=>by have:=ga g e;omega
 have Hh:=hA aks;have afT:=tj aks;have kb:=(H.refl (aj g) an).setRow (g:=g) (.inl rfl) (aZ (kI rd s st.dd num).2.1);have WO:(an.setRow g (aZ (kI rd s st.dd num).2.1)).1[g]? =some (.cells (aZ (kI rd s st.dd num).2.1) 113 (0,0)):=by rw[gh,jU];rfl
 have Zz:=kb.size;simp[go_sem,jU,Hi,Hh,afT,Sw,bS,WO];refine af _ _ ⟨rfl,aks,(aT _).eK ((aT _).ch T kb λj I e=> ?_) (λj I=>I.imp id λe=>⟨by omega,by omega⟩) (aE.lt ga (by omega)),((dH.mono λ_ _ e=>e.elim).trans aK).bZ kb λj I e=>by simp only[aj]at e;omega⟩;simp only[aj]at e;rcases I with I|I
 ·have:=ga j I;omega
 ·omega
theorem av4(aA:pL ba m rd (.iface dy ce))(s:aF)(st:et)(num:Nat):m s<=m (qB rd s st num).1+48:=ae3 aA s st.dd num
theorem av5(aA:pL ba m rd (.iface dy ce))(aC:80<=m s)(aT:∀s,kB (ba s))(h:ba s w O)(aM:qA w v (.iface dy ce) st)(g_:¬O v)(ok:gi st)(num off:Nat)(nZ:num<65536)(iD:off<4294967296)(cv:hI w)(aH:iO ba O):
  bc prog 129 #[az v,.int .u16 num,.int .u32 off] w λv' w'=>v'=.tuple #[.agg (ae (jO rd s st num off).2.1),aa (jO rd s st num off).2.2]/\cc (jO rd s st num off).2.1/\ba (jO rd s st num off).1 w' (aE O w w')/\H O w w':=by
 refine bz func129 ntmps129 λbk af=> ?_;have ga:=(aT s).lt h;have n':=cd cH;have ic:=ef cH;have Hi:=hA jy;have aU:=(H.refl al w).alloc (.cells (ae ah) 44);have bu:=cr w (.cells (ae ah) 44);have gZ:(w.alloc (.cells (ae ah) 44)).1.size=w.1.size+1:=by simp
 obtain⟨ai,dx⟩:=aD (w.alloc (.cells (ae ah) 44));rw[dx]at aU bu gZ;simp[go_sem,gO,gP,dx];obtain⟨g,lp⟩:=aD (w.1.size);rw[lp]at bu gZ⊢;clear dx;have J:=(aT s).ch h aU λ_ _ e=>e;have fq:=cv.ch aU λ_ _ e=>e;have qh:qA ai v (.iface dy ce) st:=aU.obj aM id;have bU:∀{u:M} {x:aF×Pt×Int} {Q:Nat->Prop},jO rd s st num off=x->cc x.2.1->ba x.1 u Q->(∀j,Q j->aE O ai u j)->H O w u->ai.1.size<=u.1.size->u.1[g]? =some (.cells (ae ah) 44 (0,0))->bk (.tuple #[.agg (ae x.2.1),aa x.2.2]) (u.setRow g (ae x.2.1)):=λ{u x Q} e cG aN eT aS JJ ab=>by
  subst e;have kb:=(H.refl (aj g) u).setRow (g:=g) (.inl rfl) (ae (jO rd s st num off).2.1);have Zz:=kb.size;refine af _ _ ⟨rfl,cG,(aT _).eK ((aT _).ch aN kb λj I e=> ?_) (λj I=>(eT j I).imp id λe=>⟨by omega,by omega⟩) (aE.lt ga (by omega)),aS.bZ kb λj I e=>by simp only[aj]at e;omega⟩;simp only[aj]at e;rcases eT j I with ek|ek
  ·have:=ga j ek;omega
  ·omega
 refine(ar0 aA (by omega) aT J qh ok num nZ fq aH).mono ?_;have WP:=av4 aA s st num;have u':jO rd s st num off=if(qB rd s st num).2.2≠0 then((qB rd s st num).1,ah,(qB rd s st num).2.2)else dz rd (qB rd s st num).1 (qB rd s st num).2.1.V off:=rfl
 obtain⟨⟨cR,cX,aR⟩,W⟩:∃y,qB rd s st num=y:=⟨_,rfl⟩;rw[W]at WP u'⊢;simp only at WP u';rintro _ an ⟨rfl,cG,T,aK⟩;simp only at cG T⊢;have av6:=aK.size;have eF:=hA cG;have fN:=tj cG;have aPe:=IP cG;have tn:=cd cG.V;have ae9:=ef cG.V;have ff:∀j,g<=j->¬O j:=λj I e=>by have:=ga j e;omega
 have jU:=aK.obj bu (ff g (c_ _));have ky:qA an v (.iface dy ce) st:=aK.obj qh g_;have mj:=aH.cv fq aK ⟨_,T⟩ λ_ _ e=>e;have aI:=(H.refl al an).alloc (.cells (aZ cX) 113);have cK:=cr an (.cells (aZ cX) 113);have iC:(an.alloc (.cells (aZ cX) 113)).1.size=an.1.size+1:=by simp
 obtain⟨aJ,ik⟩:=aD (an.alloc (.cells (aZ cX) 113));rw[ik]at aI cK iC;simp[go_sem,uj,uk,Hi,eF,fN,bS,ik];obtain⟨cp,Nx⟩:=aD (an.1.size);rw[Nx]at cK iC⊢;clear ik;have ag:=(aT _).ch T aI λ_ _ e=>e;have kn:=mj.ch aI λ_ _ e=>e;have qr:=aI.obj jU id;have zl:qA aJ v (.iface dy ce) st:=aI.obj ky id;have hK:H O w aJ:=((aU.mono λ_ _ e=>e.elim).trans aK).trans (aI.mono λ_ _ e=>e.elim);have CX:∀j,aE O ai an j->aE O ai aJ j:=λj I=>I.imp id λe=>⟨e.1,by omega⟩;by_cases aV:aR=0
 ·subst aV;have kH:((0:Int)!=0)=false:=by decide
  rw[aQ (by simp)]at u';simp[go_sem,kH];refine cT [F 0,F 1,F 2,F 3,F 4,F 5,F 6,(7,some []),F 8,F 9,(10,some [9]),F 11] ?_;have dH:=(H.refl al aJ).drew;obtain⟨hO,lq⟩:=aD (aJ.drew);have kW:hO.1.size=aJ.1.size:=by rw[<-lq];rfl
  rw[lq]at dH⊢;clear lq;have bm:=(aT _).ch ag dH λ_ _ e=>e;have akt:=kn.ch dH λ_ _ e=>e;have Fb:=dH.obj qr id;have MS:=dH.obj cK id;have aku:qA hO v (.iface dy ce) st:=dH.obj zl id;have WN:=(aG aku 0).trans akr;simp[go_sem,WN,MS,eF,aPe];refine(ajr aA (by omega) aT bm cX.V cG.V off iD akt (aH.cN fq)).mono ?_;have hS:=ajo rd cR cX.V off cG.V;rintro _ bs ⟨rfl,aP,bo⟩;have jo:=bo.size;have x_:∀j,g<=j/\j<ai.1.size->¬aE O ai an j:=λj I e=>e.elim (ff j I.1) λe=>by omega
  have n_:=bo.obj Fb (x_ g (by omega));have de:=cd hS;have da:=ef hS;have WO:(bs.setRow g (ae (dz rd cR cX.V off).2.1)).1[g]? =some (.cells (ae (dz rd cR cX.V off).2.1) 44 (0,0)):=by rw[gh,n_];rfl
  simp[go_sem,n_,n',de,da,bS,WO];exact bU u' hS aP (λj I=>by
   rcases I with I|I
   ·exact(CX j I).imp id λe=>⟨e.1,by omega⟩
   ·exact .inr ⟨by omega,I.2⟩) ((hK.trans (dH.mono λ_ _ e=>e.elim)).bZ bo λj I e=>e.elim id λe=>by omega) (by omega) n_
 ·have gA:(aR !=0)=true:=by simpa using aV
  rw[be aV]at u';have WO:(aJ.setRow g (ae ah)).1[g]? =some (.cells (ae ah) 44 (0,0)):=by rw[gh,qr];rfl
  simp[go_sem,gA,l',qr,n',ic,bS,WO];exact bU u' cH ag CX hK (by omega) qr
theorem aPf(aA:pL ba m rd (.iface dy ce))(s:aF)(st:et)(num off:Nat):m s<=m (jO rd s st num off).1+80:=by
 have J:=av4 aA s st num;unfold jO;simp only;split
 ·simp only;omega
 ·have T:=TH aA (qB rd s st num).1 (qB rd s st num).2.1.V off;omega
theorem aIu(aA:pL ba m rd (.iface dy ce))(aC:80<=m s)(aT:∀s,kB (ba s))(h:ba s w O)(aM:qA w v (.iface dy ce) st)(g_:¬O v)(ok:gi st)(num off:Nat)(nZ:num<65536)(iD:off<4294967296)(cv:hI w)(aH:iO ba O):
  bc prog 74 #[az v,.int .u16 num,.int .u32 off] w λv' w'=>v'=.tuple #[.bool (Dn rd s st num off).2.1,aa (Dn rd s st num off).2.2]/\ba (Dn rd s st num off).1 w' (aE O w w')/\H O w w':=by
 refine bz func74 ntmps74 λbk af=> ?_;have ga:=(aT s).lt h;have n':=cd cH;have ic:=ef cH;simp[go_sem];refine(av5 aA (by omega) aT h aM g_ ok num off nZ iD cv aH).mono ?_;have u':Dn rd s st num off=((jO rd s st num off).1,!decide ((jO rd s st num off).2.1=ah),(jO rd s st num off).2.2):=rfl;obtain⟨⟨cR,jH,aR⟩,W⟩:∃y,jO rd s st num off=y:=⟨_,rfl⟩;rw[W]at u'⊢;simp only at u';rw[u']at af;rintro _ an ⟨rfl,hS,T,aK⟩;simp only at hS T⊢;have av6:=aK.size;have de:=cd hS;have da:=ef hS;have aI:=(H.refl al an).alloc (.cells (ae jH) 44);have cK:=cr an (.cells (ae jH) 44);have iC:(an.alloc (.cells (ae jH) 44)).1.size=an.1.size+1:=by simp
 obtain⟨aJ,ik⟩:=aD (an.alloc (.cells (ae jH) 44));rw[ik]at aI cK iC;have tk:∀w,(Op.equalIn 10000 44 (.agg (ae jH)) (.agg (ae ah))).run prog w=.ok (decide (jH=ah)) w:=λw=>tc w hS cH;simp[go_sem,gO,gP,n',ic,de,da,bS,ik,cK,l',tk];exact af _ _ ⟨rfl,(aT _).eK ((aT _).ch T aI λ_ _ e=>e) (λj I=>I.imp id λe=>⟨e.1,by omega⟩) (aE.lt ga (by omega)),aK.trans (aI.mono λ_ _ e=>e.elim)⟩
end
theorem aPg:(prog.info? 148).map (λi=>i.zero.isSome)=some true:=by kernel_rfl
theorem aPh:kN prog 148=yB .nilIface dU:=by kernel_rfl
theorem aPi{dy:TypeId}{ce:N}{st:et}(ok:gi st){w:M}{K:N->M->Prop}:jb prog 148 [(0,.iface dy ce),(1,.agg (bN st))] w K=K (.agg (yB (.iface dy ce) st)) w:=by
 refine ma underlying148 aPg (places:=#[(0,1),(1,83)]) (by simp[go_sem]) ?_;have hz:=av2 (sv:=.nilIface) ts;have J:=lo ok;have T:=lo ts;have e:dT (dT (yB .nilIface dU) 0 #[.iface dy ce]) 1 (bN st)=yB (.iface dy ce) st:=by
  unfold dT;apply ip;simp[yB,J,T]
 simp[jw,aPh,Value.cells,hz,uf,J,e]
theorem OZ(dy:TypeId)(ce:N)(st:et)(ok:gi st)(w:M)(J:(Value.iface dy ce).oneCell'=true):bc prog 16 #[.iface dy ce,.agg (bN st)] w λv' w'=>∃g,v'=az g/\w.1.size<=g/\g<w'.1.size/\qA w' g (.iface dy ce) st/\H al w w':=by
 refine bz func16 ntmps16 λbk af=> ?_;have nG:=lo ok;have mg:=un ok;simp[go_sem,nG,mg,aPi ok];exact af _ _ ⟨_,rfl,by omega,by simp,by have:=nM w (.cells (bN st) 46) (.cells (yB (.iface dy ce) st) 148);exact this,((H.refl al w).alloc _).alloc _⟩
end Go.Proofs.YtoohkhcpboldjaaGreatDoor
