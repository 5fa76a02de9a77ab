/- A state as a base: what it tells of inodes, leaves. For any source. Conditions: the variables ptr.wide, tree.hole hold what the text lays. -/
import Derived.Test.YtoohkhcpboldjaaGreatDoorMcI
set_option maxRecDepth 100000
set_option linter.unusedSimpArgs false
set_option linter.unusedVariables false
namespace Go.Proofs.YtoohkhcpboldjaaGreatDoor
open Go.RowKit Go.Kin
def mS(b:List UInt8):Nat:=dQ (b.take 8)
def pI(b:List UInt8):List UInt8:=(b.drop 8).take 32
def ra(b:List UInt8):List Nat:=[dQ ((b.drop 40).take 2),dQ ((b.drop 42).take 2),dQ ((b.drop 44).take 2),dQ ((b.drop 46).take 2)]
theorem aFM{b:List UInt8}(V:b.length=64):Cp (mS b) (pI b) (ra b):=by
 have I:∀k,k<=62->dQ ((b.drop k).take 2)<65536:=λk r=>by
  have:=Cj ((b.drop k).take 2)
  grind
 refine⟨?_,by simp[pI,V],rfl,λi x M=> ?_⟩
 ·have:=Cj (b.take 8);rw[List.length_take,V]at this;exact this
 ·match i,M with
  |0,M=>cases M;exact I 40 (by omega)
  |1,M=>cases M;exact I 42 (by omega)
  |2,M=>cases M;exact I 44 (by omega)
  |3,M=>cases M;exact I 46 (by omega)
  |i+4,M=>simp[ra]at M
theorem aFN{b:List UInt8}(V:b.length=64):ii (mS b) (pI b) (ra b)=b.take 48++cV 16:=by
 have e:∀k m,k+m<=64->bX (dQ ((b.drop k).take m)) m=(b.drop k).take m:=λk m r=>by
  have:=adH ((b.drop k).take m)
  grind
 have cR:bX (dQ (b.take 8)) 8=b.take 8:=by simpa using e 0 8 (by omega)
 have s:∀i j,(b.drop i).take j++(b.drop (i+j)).take (48 -(i+j))=(b.drop i).take (j+(48 -(i+j))):=λi j=>by
  rw[List.take_add,List.drop_drop]
 have aFO:b.take 48=b.take 8++((b.drop 8).take 32++((b.drop 40).take 2++((b.drop 42).take 2++((b.drop 44).take 2++(b.drop 46).take 2)))):=by
  rw[s 44 2,s 42 2,s 40 2,s 8 32,show b.take 8=(b.drop 0).take 8 by simp,s 0 8];simp
 simp only[ii,mS,pI,ra,cR,List.flatMap_cons,List.flatMap_nil,e 40 2 (by omega),e 42 2 (by omega),e 44 2 (by omega),e 46 2 (by omega),aFO,List.append_assoc,List.append_nil];rfl
theorem anY{n:Nat}{h:List UInt8}{a:List Nat}(ok:Cp n h a):mS (ii n h a)=n/\pI (ii n h a)=h/\ra (ii n h a)=a:=by
 obtain⟨av,aD,am,aO⟩:=ok;obtain⟨a0,a1,a2,a3,rfl⟩:∃a0 a1 a2 a3,a=[a0,a1,a2,a3]:=by
  match a,am with
  |[a0,a1,a2,a3],_=>grind
 have uO:=aO 0 a0 rfl;have lm:=aO 1 a1 rfl;have jD:=aO 2 a2 rfl;have nT:=aO 3 a3 rfl;have EM:∀J,(bX n 8++J).drop 8=J:=λJ=>by rfl
 have hr:∀x J,(bX x 2++J).drop 2=J:=λx J=>by rfl
 have aFP:∀J,(h++J).drop 32=J:=λJ=>by rw[List.drop_left' aD]
 have dK:∀x J,(bX x 2++J).take 2=bX x 2:=λx J=>by rfl
 have rS:(ii n h [a0,a1,a2,a3]).drop 8=h++([a0,a1,a2,a3].flatMap (λx=>bX x 2)++List.replicate 16 0):=by rw[ii,EM]
 have anZ:(ii n h [a0,a1,a2,a3]).drop 40=bX a0 2++(bX a1 2++(bX a2 2++(bX a3 2++List.replicate 16 0))):=by
  rw[show 40=8+32 by rfl,<-List.drop_drop,rS,aFP];simp
 have an0:(ii n h [a0,a1,a2,a3]).drop 42=bX a1 2++(bX a2 2++(bX a3 2++List.replicate 16 0)):=by
  rw[show 42=40+2 by rfl,<-List.drop_drop,anZ,hr]
 have an1:(ii n h [a0,a1,a2,a3]).drop 44=bX a2 2++(bX a3 2++List.replicate 16 0):=by
  rw[show 44=42+2 by rfl,<-List.drop_drop,an0,hr]
 have aFQ:(ii n h [a0,a1,a2,a3]).drop 46=bX a3 2++List.replicate 16 0:=by
  rw[show 46=44+2 by rfl,<-List.drop_drop,an1,hr]
 refine⟨?_,?_,?_⟩
 ·rw[mS,ii,List.take_left' (jC n 8),Mb];omega
 ·rw[pI,rS,List.take_left' aD]
 ·simp only[ra,anZ,an0,an1,aFQ,dK,Mb];simp;omega
def L_(b:List UInt8):Bool:=decide (b.drop 48=cV 16)
theorem an2{b:List UInt8}(V:b.length=64):ii (mS b) (pI b) (ra b)=b↔b.drop 48=cV 16:=by
 rw[aFN V];constructor
 ·grind
 ·intro h;rw[<-h,List.take_append_drop]
theorem aFR{n:Nat}{h:List UInt8}{a:List Nat}(ok:Cp n h a):L_ (ii n h a)=true:=by
 have bT:=Ji (n:=n) ok.aD ok.am;obtain⟨H,I,af⟩:=anY ok;have:=(an2 bT).1 (by rw[H,I,af]);simpa[L_]using this
def VV(b:List UInt8):Value:=.tuple #[if L_ b then .agg (dd (mS b) (pI b) (ra b))else .agg (dd 0 (cV 32) (jU 4)),.int .i64 (if L_ b then 0 else 5)]
section
variable{n:Nat}{h:List UInt8}{a:List Nat}
theorem an3(fi:Nat):d' (dd n h a) 0 #[.int .u64 fi]=dd fi h a:=by simp[d',dd]
theorem an4{h':List UInt8}(aD:h.length=32)(qn:h'.length=32):d' (dd n h a) 1 (bm h').toArray=dd n h' a:=by
 simp[d',dd,qn,eB,aD]
theorem aFS{ih:List Nat}(aD:h.length=32)(am:a.length=4)(ab6:ih.length=4):d' (dd n h a) 33 (ky ih).toArray=dd n h ih:=by
 simp[d',dd,eB,Gx,aD,ab6];omega
theorem aFT(aD:h.length=32)(i x:Nat):(dd n h a).setIfInBounds (33+i) (.int .u16 x)=dd n h (a.set i x):=by
 apply Array.ext';simp[dd,show 33+i=(32+i)+1 by omega,List.set_append_right,eB,aD,ky,List.map_set,Cm]
end
theorem aie{w:World}{K:Value->World->Prop}:hX Tryz.prog 61 [] w K=K (.agg (dd 0 (cV 32) (jU 4))) w:=
 lp Tryz.underlying61 Cr (places:=#[(0,1),(1,32),(33,4)]) (by simp[go_sem]) (by simp[iH,Cq])
theorem aFU(n:Nat){w:World}{K:Value->World->Prop}:hX Tryz.prog 61 [(0,.int .u64 n)] w K=K (.agg (dd n (cV 32) (jU 4))) w:=
 lp Tryz.underlying61 Cr (places:=#[(0,1),(1,32),(33,4)]) (by simp[go_sem]) (by simp[iH,Cq,Value.cells,rT (lM 32) (yD 4),an3])
theorem atV(n:Nat)(h:List UInt8)(a:List Nat)(aD:h.length=32)(am:a.length=4){w:World}{K:Value->World->Prop}:
  hX Tryz.prog 61 [(0,.int .u64 n),(1,.agg (bm h).toArray),(2,.agg (ky a).toArray)] w K=K (.agg (dd n h a)) w:=
 lp Tryz.underlying61 Cr (places:=#[(0,1),(1,32),(33,4)]) (by simp[go_sem])
  (by simp[iH,Cq,Value.cells,rT (lM 32) (yD 4),rT aD (yD 4),an3,an4 (lM 32) aD,aFS aD (yD 4) am,eB,Gx,aD,am])
theorem aFV(w:World)(xs ys:List UInt8)(M:xs.length=64)(ar:ys.length=64):(Op.equalIn 10000 159 (.agg (bm xs).toArray) (.agg (bm ys).toArray)).run Tryz.prog w=.ok (decide (xs=ys)) w:=
 QU w 9998 _ _ 64 Tryz.underlying159 Tryz.underlying5 Tryz.sizeOf5 Tryz.isAgg5 xs ys M ar
theorem aFW(b:List UInt8)(w:World)(V:b.length=64):
  aP Tryz.prog 63 #[.agg (bm b).toArray] w λW w'=>W=VV b/\D ak w w':=by
 have ok:=aFM V;refine bn Tryz.func63 Tryz.ntmps63 λaZ Z=> ?_;simp[go_sem,Cr,Cq];have db:((w.alloc (.cells (bm b).toArray 159)).alloc (.cells (dd 0 (cV 32) (jU 4)) 61)).1[w.1.size]? =some (.cells (bm b).toArray 159):=by simp
 have dk:((w.alloc (.cells (bm b).toArray 159)).alloc (.cells (dd 0 (cV 32) (jU 4)) 61)).1[w.1.size+1]? =some (.cells (dd 0 (cV 32) (jU 4)) 61):=by simp
 have fY:D ak w ((w.alloc (.cells (bm b).toArray 159)).alloc (.cells (dd 0 (cV 32) (jU 4)) 61)):=((D.refl ak w).alloc _).alloc _;have xg:w.1.size+2=((w.alloc (.cells (bm b).toArray 159)).alloc (.cells (dd 0 (cV 32) (jU 4)) 61)).1.size:=by simp
 revert db dk fY xg;generalize(w.alloc (.cells (bm b).toArray 159)).alloc (.cells (dd 0 (cV 32) (jU 4)) 61)=ab;generalize aF:w.1.size=g;intro db dk fY xg;have aw:bD ab (.slice (some ⟨g,0,none⟩) 64 64) b.length (bm b):=by
  rw[V];exact bD.GA db (Nat.le_refl _) (by decide) (by simp[V])
 refine(Mc _ b ab (by omega) aw).mono ?_;rintro jf ai ⟨cq,o,rfl,a',QX,Jd,aX,bq⟩;simp[go_sem];refine(We cq b 0 ai (by omega) aX).mono ?_;rintro v3 aC ⟨rfl,ec,ft⟩;have mT:cQ b 0 8=(b.take 8,b.drop 8,0):=by simp[cQ,V]
 rw[mT]at ec;have dE:dQ (b.take 8)=mS b:=rfl;simp[go_sem,mT,dE,aFU,Cr,Cq,rT (lM 32) (yD 4),bQ];have uC:D ak ab aC:=bq.bJ ft λj F e=>by simp only[only]at e;omega
 have VW:gH (aC.alloc (.cells (dd (mS b) (cV 32) (jU 4)) 61)) cq o (b.drop 8) 0:=ec.ch ((D.refl ak aC).alloc _) id id;have pb:(aC.alloc (.cells (dd (mS b) (cV 32) (jU 4)) 61)).1[aC.1.size]? =some (.cells (dd (mS b) (cV 32) (jU 4)) 61):=by simp
 have An:=uC.alloc (.cells (dd (mS b) (cV 32) (jU 4)) 61);have zg:cq<aC.1.size:=ec.lt;have Nj:o<aC.1.size:=Nat.lt_of_lt_of_le Jd ft.size;have AV:=uC.size;have R':(aC.alloc (.cells (dd (mS b) (cV 32) (jU 4)) 61)).1.size=aC.1.size+1:=by simp
 revert VW pb An R';generalize aC.alloc (.cells (dd (mS b) (cV 32) (jU 4)) 61)=be;generalize aC.1.size=cu at*;intro VW pb An R';refine(Eg cq (b.drop 8) 0 32 be (by decide) (by simp;omega) VW).mono ?_;have vK:cQ (b.drop 8) 0 (32:Int).toNat=(pI b,b.drop 40,0):=by simp[cQ,V,pI]
 rw[vK];rintro v5 bw ⟨cK,hr,ei,hs⟩;simp only[show(pI b).length=32 from ok.aD]at cK;obtain⟨cM,Wg,aoo,rfl,vN,aK,aW,dt,cW⟩:=Me cK (by omega);have vO:=hs.ah pb (by simp only[only];omega);have Gz:=hs.ah (An.ah dk id) (by simp only[only];omega);have rc:∀w,(Instr.arrayAt 41 (.slice (some ⟨cM,0,none⟩) 32 Wg)).run Tryz.prog w=.ok (.pointer (some ⟨cM,0,none⟩)) w:=λw=>run_arrayAt w _ _ _ _ _ _ Tryz.underlying41 (by omega);have vM:(pI b).length=32:=ok.aD;simp[go_sem,rc,vN,dt,cW,vO,eB,vM,rT (lM 32) (yD 4),an4 (lM 32) vM];have zB:=(D.refl (only cu) bw).setRow (.inl rfl) (dd (mS b) (pI b) (jU 4));have Cc:gH (bw.setRow cu (dd (mS b) (pI b) (jU 4))) cq o (b.drop 40) 0:=ei.ch zB (by simp only[only];omega) (by simp only[only];omega);have an5:D ak ab (bw.setRow cu (dd (mS b) (pI b) (jU 4))):=(An.bJ hs (λj F e=>by simp only[only]at e;omega)).setRow (.inr AV) _;have an6:(bw.setRow cu (dd (mS b) (pI b) (jU 4))).1[cu]? =some (.cells (dd (mS b) (pI b) (jU 4)) 61):=by rw[gk,vO];rfl
 refine du (λJ f bE=>∃k,k<=4/\J=4 - k/\f 1=.pointer (some ⟨g,0,none⟩)/\f 2=.pointer (some ⟨g+1,0,none⟩)/\f 4=.pointer (some ⟨cq,0,none⟩)/\f 5=.pointer (some ⟨cu,0,none⟩)/\f 17=.int .i64 k/\
  gH bE cq o (b.drop (40+2*k)) 0/\D ak ab bE/\bE.1[cu]? =some (.cells (dd (mS b) (pI b) ((ra b).take k++jU (4 - k))) 61)) 4
  ⟨0,by omega,rfl,by simp,by simp,by simp,by simp,by simp,Cc,an5,by simpa using an6⟩ ?_
 clear Cc an5 an6 zB vO Gz vN aK aW dt cW cK hr ei hs rc VW pb An;rintro cJ bK _ f bE ⟨k,r,rfl,H,I,aU,bC,adE,ap,T,pb⟩;by_cases fs:k<4
 ·have ea:(k:Int)<4:=by omega
  simp[go_sem,aU,adE,ea];refine(Ra cq _ 0 bE (by simp;omega) ap).mono ?_;have uQ:cQ (b.drop (40+2*k)) 0 2=((b.drop (40+2*k)).take 2,b.drop (40+2*(k+1)),0):=by
   simp[cQ,V,show¬64 -(40+2*k)<2 by omega,Nat.mul_add,Nat.add_assoc]
  rw[uQ];rintro _ cF ⟨rfl,cK,hr⟩;have vO:=hr.ah pb (by simp only[only];omega);have kz:=λi=>aG vO i;have jS:=λi=>dD vO i;have yB:(ra b).length=4:=rfl;have hR:(dd (mS b) (pI b) ((ra b).take k++jU (4 - k)))[33+k]? =some (.int .u16 (0:Nat)):=by
   refine Jh vM k 0 ?_;rw[List.getElem?_append_right (by rw[List.length_take];omega),List.length_take,jU,List.getElem?_replicate,if_pos (by omega)]
  simp[go_sem,bC,adE,ea,kz,jS,hR];have Wj:=(D.refl (only cu) cF).setCell (p:=⟨cu,33+k,none⟩) (.inl rfl) (.int .u16 (dQ ((b.drop (40+2*k)).take 2):Nat));refine cH.intro (4 -(k+1)) (by omega) (bK _ _ _ ⟨k+1,by omega,rfl,by simpa using H,by simpa using I,by simpa using aU,by simpa using bC,by simp[IntKind.wrap_i64];omega,
   cK.ch Wj (by simp only[only];omega) (by simp only[only];omega),(T.bJ hr (λj F e=>by simp only[only]at e;omega)).setCell (.inr AV) _,?_⟩)
  rw[eY,vO,gp,aFT vM];congr 3;have M:(ra b)[k]? =some (dQ ((b.drop (40+2*k)).take 2)):=by
   match k,fs with
   |0,_=>rfl
   |1,_=>rfl
   |2,_=>rfl
   |3,_=>rfl
  rw[List.set_append_right _ _ (by rw[List.length_take];omega),List.length_take,yB,show k - min k 4=0 by omega,show(ra b).take (k+1)=(ra b).take k++(ra b)[k]?.toList from List.take_add_one,M,jU,show 4 - k=(4 -(k+1))+1 by omega,List.replicate_succ,List.set_cons_zero];simp[jU]
 ·obtain rfl:k=4:=by omega
  rw[List.take_of_length_le (by simp[ra])]at pb;simp only[Nat.sub_self,jU,List.replicate_zero,List.append_nil]at pb;have yB:(ra b).length=4:=rfl;simp[go_sem,adE];refine cD [A 0,A 2,(1,some [2]),A 3] ?_;have fq:=Em (n:=mS b) vM yB;have cL:=rT (n:=mS b) vM yB;have rO:=T.ah db id;simp[go_sem,H,bC,pb,fq,cL,rO,eB,V];refine(ad0 _ _ _ bE.drew ok).mono ?_;rintro _ cF ⟨rfl,cK⟩;have cK:=cK.iy;have vO:=cK.ah pb id;have aFX:=cK.ah rO id;have Gz:=(T.trans cK).ah dk id;have bT:=Ji (n:=mS b) vM yB;have gI:=λw=>aFV w (ii (mS b) (pI b) (ra b)) b bT V;have an7:=an2 V;simp[go_sem,H,aFX,eB,V,gI];by_cases aH:b.drop 48=cV 16
  ·have yj:=an7.2 aH;simp[yj,I,bC,vO,Gz,cL,fq,rT (lM 32) (yD 4),bQ,go_sem];refine Z _ _ ⟨?_,(fY.trans (T.trans cK)).setRow (.inr (by omega)) _⟩;simp[VV,L_,aH]
  ·have yj:¬ii (mS b) (pI b) (ra b)=b:=λh=>aH (an7.1 h);simp[yj,I,Gz,rT (lM 32) (yD 4),bQ,go_sem,aie,Em (n:=0) (lM 32) (yD 4)];refine Z _ _ ⟨?_,(fY.trans (T.trans cK)).setRow (.inr (by omega)) _⟩;simp[VV,L_,aH]
def qx(p:Nat)(l:List UInt8):Array Value:=(Value.pointer (some ⟨p,0,none⟩)::bm l).toArray
def qN(w:World)(g p:Nat)(l:List UInt8):Prop:=w.1[g]? =some (.cells (qx p l) 247 (0,0))
theorem an8{p:Nat}{l:List UInt8}(h:l.length=64):(qx p l).size=65:=by simp[qx,eB,h]
theorem aFY{p:Nat}{l:List UInt8}(h:l.length=64):(qx p l).extract 1 65=(bm l).toArray:=by
 apply Array.ext';simp[qx,List.extract_eq_take_drop,h]
theorem aFZ(p:Nat)(l:List UInt8):(qx p l)[0]? =some (.pointer (some ⟨p,0,none⟩)):=by simp[qx]
theorem aF0{p:Nat}{l l':List UInt8}(h:l.length=64)(h':l'.length=64):d' (qx p l) 1 (bm l').toArray=qx p l':=by
 simp[d',qx,eB,h,h']
theorem qN.ch{S:Nat->Prop}{w w':World}{g p:Nat}{l:List UInt8}(h:qN w g p l)(T:D S w w')(av:¬S g):qN w' g p l:=T.obj h av
theorem aF1:ln Tryz.prog 247=(Value.pointer none::bm (cV 64)).toArray:=by kernel_rfl
theorem aF2:(Tryz.prog.info? 247).map (λi=>i.zero.isSome)=some true:=by kernel_rfl
theorem aF3(p:Nat){w:World}{K:Value->World->Prop}:hX Tryz.prog 247 [(0,.pointer (some ⟨p,0,none⟩))] w K=K (.agg (qx p (cV 64))) w:=
 lp Tryz.underlying247 aF2 (places:=#[(0,1),(1,64)]) (by simp[go_sem]) (by simp[iH,aF1,Value.cells,eB,lM,d',qx])
theorem axy(p:Nat)(w:World):aP Tryz.prog 57 #[.pointer (some ⟨p,0,none⟩)] w λW w'=>W=.tuple #[.pointer (some ⟨w.1.size,0,none⟩),.int .i64 0]/\qN w' w.1.size p (cV 64)/\D ak w w'/\w'.1.size=w.1.size+1:=by
 refine bn Tryz.func57 Tryz.ntmps57 λaZ Z=> ?_;simp[go_sem,aF3];exact Z _ _ ⟨rfl,heap_alloc_new w _,(D.refl ak w).alloc _,by simp⟩
theorem aF4(g p:Nat)(l:List UInt8)(w:World)(al:l.length=64)(h:qN w g p l):aP Tryz.prog 64 #[.pointer (some ⟨g,0,none⟩)] w λW w'=>W=.agg (bm l).toArray/\D ak w w':=by
 have aF:=lt_of_block h;refine bn Tryz.func64 Tryz.ntmps64 λaZ Z=> ?_;have H:(w.alloc (.cells (bm (cV 64)).toArray 159)).1[g]? =some (.cells (qx p l) 247 (0,0)):=by rw[pY _ _ _ aF];exact h
 simp[go_sem,adZ,adY,H,an8 al,aFY al,eB,lM,al,bQ];exact Z _ _ ⟨rfl,(D.refl ak w).alloc _⟩
theorem ajn(g p:Nat)(n:Nat)(h:List UInt8)(a:List Nat)(w:World)(ok:Cp n h a)(V:qN w g p (ii n h a)):aP Tryz.prog 20 #[.pointer (some ⟨g,0,none⟩)] w λW w'=>W=.agg (dd n h a)/\D ak w w':=by
 have bT:=Ji (n:=n) ok.aD ok.am;refine bn Tryz.func20 Tryz.ntmps20 λaZ Z=> ?_;simp[go_sem,Cr,Cq];have fY:=(D.refl ak w).alloc (.cells (dd 0 (cV 32) (jU 4)) 61);have db:(w.alloc (.cells (dd 0 (cV 32) (jU 4)) 61)).1[w.1.size]? =some (.cells (dd 0 (cV 32) (jU 4)) 61):=cl _ _;refine(aF4 g p _ _ bT (V.ch fY id)).mono ?_;rintro _ ai ⟨rfl,ki⟩;simp[go_sem];refine(aFW _ ai bT).mono ?_;rintro _ aC ⟨rfl,uC⟩;have cL:=rT (n:=n) ok.aD ok.am;have fq:=Em (n:=n) ok.aD ok.am;obtain⟨t1,dK,t3⟩:=anY ok;have gQ:=(ki.trans uC).ah db id;have T:=fY.trans (ki.trans uC);have ako:w.1.size<aC.1.size:=lt_of_block gQ;have mi:(aC.alloc (.cells (dd n h a) 61)).1[w.1.size]? =some (.cells (dd 0 (cV 32) (jU 4)) 61):=by rw[pY _ _ _ ako];exact gQ
 simp[go_sem,VV,aFR ok,t1,dK,t3,Cr,Cq,cL,fq,rT (lM 32) (yD 4),bQ,mi];exact Z _ _ ⟨rfl,(T.alloc _).setRow (.inr (by simp)) _⟩
def tk(n fi:Nat)(off:Bool)(dq:Int):Int:=if fi<=n then 1 else if(sU off dq).1 then 0 else 3
def ju(g p:Nat):Nat->Prop:=λk=>k=g\/k=p
theorem at0(g p:Nat)(off:Bool)(dq:Int)(n:Nat)(h:List UInt8)(a:List Nat)(fi:Nat)(h':List UInt8)(ih:List Nat)(w:World)(ok:Cp n h a)(qq:Cp fi h' ih)(V:qN w g p (ii n h a))(ah:xo w p off dq)(da:g≠p)(aH:dq<=9223372036854775807):
  aP Tryz.prog 72 #[.pointer (some ⟨g,0,none⟩),.agg (dd fi h' ih)] w λW w'=>W=.int .i64 (tk n fi off dq)/\D (ju g p) w w'/\
   qN w' g p (if tk n fi off dq=0 then ii fi h' ih else ii n h a)/\xo w' p (if fi<=n then off else(sU off dq).2.1) (if fi<=n then dq else(sU off dq).2.2):=by
 have bT:=Ji (n:=n) ok.aD ok.am;have Qp:=Ji (n:=fi) qq.aD qq.am;refine bn Tryz.func72 Tryz.ntmps72 λaZ Z=> ?_;simp[go_sem];refine cD [A 0,A 1,A 2,(3,some [0,1]),A 4,A 5,A 6] ?_;have fY:=(D.refl ak w).alloc (.cells (dd fi h' ih) 61);have db:(w.alloc (.cells (dd fi h' ih) 61)).1[w.1.size]? =some (.cells (dd fi h' ih) 61):=cl _ _;have L':=V.ch fY id;have VX:=ah.ch fY id;have xg:(w.alloc (.cells (dd fi h' ih) 61)).1.size=w.1.size+1:=by simp
 revert fY db L' VX xg;generalize w.alloc (.cells (dd fi h' ih) 61)=ab;generalize zv:w.1.size=vg;intro fY db L' VX xg;have aLN:vg<ab.1.size:=lt_of_block db;have aol:=lt_of_block V;have aLO:=lt_of_block ah;have kz:=λi=>aG db i;simp[go_sem,kz,En];refine(ajn g p n h a ab.drew ok L').mono ?_;rintro _ ai ⟨rfl,ki⟩;have ki:=ki.iy;have Oo:=λi=>aG (ki.ah db id) i;have aF5:=λw=>aAD (P:=Tryz.prog) (i:=0) (cs:=dd n h a) Tryz.underlying61 rfl Tryz.isAgg38 (En n h a) w;simp[go_sem,Oo,En,aF5];by_cases dR:fi<=n
 ·simp[dR,go_sem];refine Z _ _ ⟨by simp[tk,dR],(fY.trans ki).mono λ_ _ e=>e.elim,by simpa[tk,dR]using L'.ch ki id,by simpa[dR]using VX.ch ki id⟩
 ·have Ws:=λi=>aG (L'.ch ki id) i;simp[dR,go_sem,Ws,aFZ];refine(WZ p off dq ai (VX.ch ki id) aH).mono ?_;rintro _ aC ⟨rfl,an9,uC,AV⟩;have an_:qN aC g p (ii n h a):=(L'.ch ki id).ch uC (by simp only[aj];omega);have BP:D (ju g p) w aC:=((fY.trans ki).mono (S':=ju g p) λ_ _ e=>e.elim).bJ uC λj F e=>.inr e;have gQ:=(ki.ah db id);have aF6:aC.1[vg]? =some (.cells (dd fi h' ih) 61):=uC.ah gQ (by simp only[aj];omega);have cL:=rT (n:=fi) qq.aD qq.am;have fq:=Em (n:=fi) qq.aD qq.am
  cases el:(sU off dq).1 with
  |false=>
   simp[go_sem];refine Z _ _ ⟨by simp[tk,dR,el],BP,by simpa[tk,dR,el]using an_,by simpa[dR]using an9⟩
  |true=>
   simp[go_sem,aF6,cL,fq];refine(ad0 fi h' ih aC qq).mono ?_;rintro _ be ⟨rfl,An⟩;have aF7:=an_.ch An id;have aoa:be.1[g]? =some (.cells (qx p (ii n h a)) 247 (0,0)):=aF7;simp[go_sem,aoa,an8 bT,eB,Qp,aF0 bT Qp];refine Z _ _ ⟨by simp[tk,dR,el],(BP.bJ An λ_ _ e=>e.elim).setRow (.inl (.inl rfl)) _,?_,?_⟩
   ·unfold qN;rw[gk,aoa];simp[tk,dR,el]
   ·have:=(an9.ch An id).ch ((D.refl (aj g) be).setRow (.inl rfl) (qx p (ii fi h' ih))) (by simp only[aj];omega);simpa[dR]using this
def vH(sv:Value)(st:e'):Array Value:=#[sv]++cz st
def Pl(w:World)(v:Nat)(sv:Value)(st:e'):Prop:=w.1[v]? =some (.cells (vH sv st) 148 (0,0))
theorem aob{sv:Value}{st:e'}(ok:gV st):(vH sv st).size=84:=by simp[vH,iQ ok]
theorem aF8{sv:Value}{st:e'}(ok:gV st):(vH sv st).extract 43 84=Y st.cO:=by
 have h:=Sp ok;rw[<-h];unfold vH;apply Array.ext';simp
theorem aF9{sv:Value}{st:e'}:(vH sv st)[0]? =some sv:=by simp[vH,Array.getElem?_append]
section
variable{ay:Type}(rd:Src ay)
def zY(s:ay)(st:e')(num:Nat):ay×br×Int:=jN rd s st.cO num
end
section
variable{ay:Type}{bc:ay->h_}{m:ay->Nat}{rd:Src ay}{dB:TypeId}{ca:Value}{s:ay}{w w':World}{O:Nat->Prop}{v:Nat}{st:e'}
theorem azs(aw:qu bc m rd (.iface dB ca))(aH:48<=m s)(aN:∀s,kk (bc s))(h:bc s w O)(aS:Pl w v (.iface dB ca) st)(ok:gV st)(num:Nat)(Dh:num<65536)(ck:hj w)(aF:ik bc O):
  aP Tryz.prog 52 #[.pointer (some ⟨v,0,none⟩),.int .u16 num] w λW w'=>W=.tuple #[.agg (bk (zY rd s st num).2.1),.int .i64 (zY rd s st num).2.2]/\gR (zY rd s st num).2.1/\bc (zY rd s st num).1 w' (ax O w w')/\D O w w':=by
 refine bn Tryz.func52 Tryz.ntmps52 λaZ Z=> ?_;have gc:=(aN s).lt h;have Bh:=jr ls;have aF_:=aob (sv:=.iface dB ca) ok;have aF':=aF8 (sv:=.iface dB ca) ok;have aY:=(D.refl ak w).alloc (.cells (bk bA) 113);have bj:=cl w (.cells (bk bA) 113);have gd:(w.alloc (.cells (bk bA) 113)).1.size=w.1.size+1:=by simp
 obtain⟨ab,de⟩:=az (w.alloc (.cells (bk bA) 113));rw[de]at aY bj gd;simp[go_sem,tP,tQ,de];obtain⟨g,mG⟩:=az (w.1.size);rw[mG]at bj gd⊢;clear de;refine cD [A 0,A 1,A 2,A 3,A 4,A 5,A 6,A 7,A 8,A 9,(10,some []),A 11,A 12,(13,some [12]),A 14] ?_;have dU:=aY.drew;obtain⟨hU,pm⟩:=az (ab.drew);have jv:hU.1.size=ab.1.size:=by rw[<-pm];rfl
 have Fe:hU.1[g]? =some (.cells (bk bA) 113 (0,0)):=by rw[<-pm];exact bj
 rw[pm]at dU⊢;clear pm;have aoc:hU.1[v]? =some (.cells (vH (.iface dB ca) st) 148 (0,0)):=dU.obj aS id;have aGa:=(aG aoc 0).trans aF9;have H:=(aN s).ch h dU λ_ _ e=>e;have eJ:=ck.ch dU λ_ _ e=>e;simp[go_sem,aGa,aoc,aF_,aF'];refine(afW aw aH aN H st.cO ok.cO num Dh eJ aF).mono ?_;have adF:=Ya rd s st.cO num;rintro _ ai ⟨rfl,I,aA⟩;have cw:=aA.size;have jd:=aA.obj Fe λe=>by have:=gc g e;omega
 have xM:=jr adF;have NQ:=tO adF;have kn:=(D.refl (aj g) ai).setRow (g:=g) (.inl rfl) (bk (jN rd s st.cO num).2.1);have aGb:(ai.setRow g (bk (jN rd s st.cO num).2.1)).1[g]? =some (.cells (bk (jN rd s st.cO num).2.1) 113 (0,0)):=by rw[gk,jd];rfl
 have Yv:=kn.size;simp[go_sem,jd,Bh,xM,NQ,WE,bQ,aGb];refine Z _ _ ⟨rfl,adF,(aN _).ex ((aN _).ch I kn λj F e=> ?_) (λj F=>F.imp id λe=>⟨by omega,by omega⟩) (ax.lt gc (by omega)),((dU.mono λ_ _ e=>e.elim).trans aA).bJ kn λj F e=>by simp only[aj]at e;omega⟩;simp only[aj]at e;rcases F with F|F
 ·have:=gc j F;omega
 ·omega
end
theorem aGc:(Tryz.prog.info? 148).map (λi=>i.zero.isSome)=some true:=by kernel_rfl
theorem aGd:ln Tryz.prog 148=vH .nilIface dO:=by kernel_rfl
theorem aGe{dB:TypeId}{ca:Value}{st:e'}(ok:gV st){w:World}{K:Value->World->Prop}:hX Tryz.prog 148 [(0,.iface dB ca),(1,.agg (cz st))] w K=K (.agg (vH (.iface dB ca) st)) w:=by
 refine lp Tryz.underlying148 aGc (places:=#[(0,1),(1,83)]) (by simp[go_sem]) ?_;have hz:=aob (sv:=.nilIface) kR;have H:=iQ ok;have I:=iQ kR;have e:d' (d' (vH .nilIface dO) 0 #[.iface dB ca]) 1 (cz st)=vH (.iface dB ca) st:=by
  unfold d';apply Array.ext';simp[vH,H,I]
 simp[iH,aGd,Value.cells,hz,tI,H,e]
theorem Ui(dB:TypeId)(ca:Value)(st:e')(ok:gV st)(w:World)(H:(Value.iface dB ca).oneCell'=true):aP Tryz.prog 16 #[.iface dB ca,.agg (cz st)] w λW w'=>∃g,W=.pointer (some ⟨g,0,none⟩)/\w.1.size<=g/\g<w'.1.size/\Pl w' g (.iface dB ca) st/\D ak w w':=by
 refine bn Tryz.func16 Tryz.ntmps16 λaZ Z=> ?_;have mE:=iQ ok;have lw:=zr ok;simp[go_sem,mE,lw,aGe ok];exact Z _ _ ⟨_,rfl,by omega,by simp,by have:=ny w (.cells (cz st) 46) (.cells (vH (.iface dB ca) st) 148);exact this,((D.refl ak w).alloc _).alloc _⟩
end Go.Proofs.YtoohkhcpboldjaaGreatDoor
