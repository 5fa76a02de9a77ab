/- An anchor's cells and bytes; what package anchor's Put and the document's Put answer, as contracts on calls. No condition but that the values are of their types. -/
import Derived.Test.YtoohkhcpboldjaaGreatDoorStt
set_option linter.unusedSimpArgs false
set_option linter.unusedVariables false
namespace Go.Proofs.YtoohkhcpboldjaaGreatDoor
open Go.RowKit Go.Kin
def cV(n:Nat):List UInt8:=List.replicate n 0
theorem lM(n:Nat):(cV n).length=n:=List.length_replicate
theorem adH(l:List UInt8):bX (dQ l) l.length=l:=by
 induction l with
 |nil=>rfl
 |cons c l bG=>
  simp only[dQ,List.length_cons,bX];have T:c.toNat<256:=c.toNat_lt;rw[show(c.toNat+256*dQ l) / 256=dQ l by omega,bG]
  simp_all
theorem Mb(n k:Nat):dQ (bX n k)=n%256^k:=by
 induction k generalizing n with
 |zero=>simp[bX,dQ,Nat.mod_one]
 |succ k bG=>
  simp only[bX,dQ,bG,UInt8.toNat_ofNat'];rw[show 256^(k+1)=256*256^k by omega,Nat.mod_mul]
def ad:Pt:=⟨0,0,0,0,0,cV 32,[0,0,0,0]⟩
theorem cE:bN ad:=⟨by decide,by decide,by decide,by decide,by decide,rfl,rfl,by simp[ad]⟩
def tH(b:List UInt8):List Nat:=[dQ ((b.drop 48).take 2),dQ ((b.drop 50).take 2),dQ ((b.drop 52).take 2),dQ ((b.drop 54).take 2)]
def pJ(b:List UInt8):Pt:=⟨dQ (b.take 1),dQ ((b.drop 1).take 1),dQ ((b.drop 2).take 2),dQ ((b.drop 4).take 4),dQ ((b.drop 8).take 8),(b.drop 16).take 32,tH b⟩
theorem Ja{b:List UInt8}(V:b.length=64)(k m:Nat)(h:k+m<=64):dQ ((b.drop k).take m)<256^m:=by
 have:=Cj ((b.drop k).take m)
 grind
theorem adI{b:List UInt8}(V:b.length=64):bN (pJ b):=by
 refine⟨by simpa[pJ]using Ja V 0 1 (by omega),Ja V 1 1 (by omega),Ja V 2 2 (by omega),Ja V 4 4 (by omega),Ja V 8 8 (by omega),by simp[pJ,V],rfl,?_⟩;have I:=λk r=>Ja V k 2 r;simp only[pJ,tH,List.mem_cons,List.not_mem_nil,or_false]
 grind
theorem VZ(p:Pt):jq p=bX p.k 1++(bX p.l 1++(bX p.o 2++(bX p.f 4++(bX p.b 8++(p.h++(p.a.flatMap (λx=>bX x 2)++cV 8)))))):=rfl
theorem Ax{p:Pt}(ok:bN p):(jq p).length=64:=by
 obtain⟨a0,a1,a2,a3,am,_⟩:=a4 ok;rw[VZ,am];simp[jC,ok.h,lM]
theorem aof{b:List UInt8}(V:b.length=64):jq (pJ b)=b.take 56++cV 8:=by
 have e:∀k m,k+m<=64->bX (dQ ((b.drop k).take m)) m=(b.drop k).take m:=λk m r=>by
  have:=adH ((b.drop k).take m)
  grind
 have cR:bX (dQ (b.take 1)) 1=b.take 1:=by simpa using e 0 1 (by omega)
 have s:∀i j,(b.drop i).take j++(b.drop (i+j)).take (56 -(i+j))=(b.drop i).take (j+(56 -(i+j))):=λi j=>by
  rw[List.take_add,List.drop_drop]
 have aog:b.take 56=b.take 1++((b.drop 1).take 1++((b.drop 2).take 2++((b.drop 4).take 4++((b.drop 8).take 8++((b.drop 16).take 32++((b.drop 48).take 2++((b.drop 50).take 2++((b.drop 52).take 2++(b.drop 54).take 2)))))))):=by
  rw[s 52 2,s 50 2,s 48 2,s 16 32,s 8 8,s 4 4,s 2 2,s 1 1,show b.take 1=(b.drop 0).take 1 by simp,s 0 1];simp
 rw[VZ];simp only[pJ,tH,cR,List.flatMap_cons,List.flatMap_nil,e 1 1 (by omega),e 2 2 (by omega),e 4 4 (by omega),e 8 8 (by omega),e 48 2 (by omega),e 50 2 (by omega),e 52 2 (by omega),e 54 2 (by omega),aog,List.append_assoc,List.append_nil,List.nil_append]
theorem Jb{p:Pt}(ok:bN p):pJ (jq p)=p:=by
 obtain⟨a0,a1,a2,a3,am,uO,lm,jD,nT⟩:=a4 ok;obtain⟨k,l,o,f,b,h,a⟩:=p;simp only at am;subst am;have Ck:∀(u:List UInt8) m J,u.length=m->(u++J).drop m=J:=λu m J an=>List.drop_left' an;have dp:∀(u:List UInt8) m J,u.length=m->(u++J).take m=u:=λu m J an=>List.take_left' an;have r:=ok.k;have al:=ok.l;have aB:=ok.o;have bU:=ok.f;have V:=ok.b;have aD:=ok.h;simp only at r al aB bU V aD;rw[VZ];simp only[List.flatMap_cons,List.flatMap_nil,List.append_nil,List.append_assoc];generalize hz:bX k 1++(bX l 1++(bX o 2++(bX f 4++(bX b 8++(h++(bX a0 2++(bX a1 2++(bX a2 2++(bX a3 2++cV 8)))))))))=z;have ig:z.drop 1=bX l 1++(bX o 2++(bX f 4++(bX b 8++(h++(bX a0 2++(bX a1 2++(bX a2 2++(bX a3 2++cV 8)))))))):=by rw[<-hz,Ck _ 1 _ (jC k 1)]
 have fX:z.drop 2=bX o 2++(bX f 4++(bX b 8++(h++(bX a0 2++(bX a1 2++(bX a2 2++(bX a3 2++cV 8))))))):=by rw[show 2=1+1 by rfl,<-List.drop_drop,ig,Ck _ 1 _ (jC l 1)]
 have eQ:z.drop 4=bX f 4++(bX b 8++(h++(bX a0 2++(bX a1 2++(bX a2 2++(bX a3 2++cV 8)))))):=by rw[show 4=2+2 by rfl,<-List.drop_drop,fX,Ck _ 2 _ (jC o 2)]
 have rS:z.drop 8=bX b 8++(h++(bX a0 2++(bX a1 2++(bX a2 2++(bX a3 2++cV 8))))):=by rw[show 8=4+4 by rfl,<-List.drop_drop,eQ,Ck _ 4 _ (jC f 4)]
 have adJ:z.drop 16=h++(bX a0 2++(bX a1 2++(bX a2 2++(bX a3 2++cV 8)))):=by rw[show 16=8+8 by rfl,<-List.drop_drop,rS,Ck _ 8 _ (jC b 8)]
 have adK:z.drop 48=bX a0 2++(bX a1 2++(bX a2 2++(bX a3 2++cV 8))):=by rw[show 48=16+32 by rfl,<-List.drop_drop,adJ,Ck _ 32 _ aD]
 have adL:z.drop 50=bX a1 2++(bX a2 2++(bX a3 2++cV 8)):=by rw[show 50=48+2 by rfl,<-List.drop_drop,adK,Ck _ 2 _ (jC a0 2)]
 have adM:z.drop 52=bX a2 2++(bX a3 2++cV 8):=by rw[show 52=50+2 by rfl,<-List.drop_drop,adL,Ck _ 2 _ (jC a1 2)]
 have aoh:z.drop 54=bX a3 2++cV 8:=by rw[show 54=52+2 by rfl,<-List.drop_drop,adM,Ck _ 2 _ (jC a2 2)]
 have fC:z.take 1=bX k 1:=by rw[<-hz,dp _ 1 _ (jC k 1)]
 simp only[pJ,tH,fC,ig,fX,eQ,rS,adJ,adK,adL,adM,aoh,dp _ 1 _ (jC l 1),dp _ 2 _ (jC o 2),dp _ 4 _ (jC f 4),dp _ 8 _ (jC b 8),dp _ 32 _ aD,dp _ 2 _ (jC a0 2),dp _ 2 _ (jC a1 2),dp _ 2 _ (jC a2 2),dp _ 2 _ (jC a3 2),Mb];simp;omega
theorem V_(l:List UInt8):nU l=false↔l=cV l.length:=by
 unfold nU cV;rw[List.any_eq_false,List.eq_replicate_iff];simp
theorem adN{b:List UInt8}(V:b.length=64):jq (pJ b)=b↔nU (b.drop 56)=false:=by
 rw[aof V,V_,List.length_drop,V];constructor
 ·grind
 ·intro h;have:=List.take_append_drop 56 b;rw[h]at this;exact this
def uP(b:List UInt8):Bool:= !nU (b.drop 56)&&(decide (pJ b=ad)||iX (pJ b))
def oy(l:List UInt8)(e:Int):Pt×List UInt8×Int:=
 if(cQ l e 64).1.length<64 then(ad,(cQ l e 64).2)else if uP (cQ l e 64).1 then(pJ (cQ l e 64).1,(cQ l e 64).2)else(ad,[],5)
theorem aoi{p:Pt}(ok:bN p)(h:p=ad\/iX p=true):uP (jq p)=true:=by
 have H:=(adN (Ax ok)).1 (by rw[Jb ok]);unfold uP;rw[H,Jb ok]
 grind
theorem bQ{cs us:Array Value}(h:us.size=cs.size):d' cs 0 us=us:=by
 unfold d';apply Array.ext';simp[h]
theorem gm:(Tryz.prog.info? 44).map (λi=>i.zero.isSome)=some true:=by kernel_rfl
theorem gn:ln Tryz.prog 44=Y ad:=by kernel_rfl
theorem QT{p:Pt}(ok:bN p):(Y p).extract 5 37=(bm p.h).toArray:=by
 apply Array.ext';simp[Y,eB,ok.h]
theorem adO{p:Pt}(ok:bN p):(Y p).extract 37 41=(ky p.a).toArray:=by
 apply Array.ext';simp[Y,eB,Gx,ok.h,ok.a];exact List.take_of_length_le (by rw[Gx,ok.a];omega)
attribute [simp] sN
theorem V'(w:World)(d:Nat){p q:Pt}(ah:bN p)(aq:bN q):(Op.equalIn (d+3) 44 (.agg (Y p)) (.agg (Y q))).run Tryz.prog w=.ok (decide (p=q)) w:=by
 have aK:∀w,(Op.equalIn (d+2) 41 (.agg (bm p.h).toArray) (.agg (bm q.h).toArray)).run Tryz.prog w=.ok (decide (p.h=q.h)) w:=λw=>QU w d _ _ 32 Tryz.underlying41 Tryz.underlying5 Tryz.sizeOf5 Tryz.isAgg5 _ _ ah.h aq.h;have aW:∀w,(Op.equalIn (d+2) 42 (.agg (ky p.a).toArray) (.agg (ky q.a).toArray)).run Tryz.prog w=.ok (decide (p.a=q.a)) w:=λw=>Wa w d _ _ 4 Tryz.underlying42 Tryz.underlying39 Tryz.sizeOf39 Tryz.isAgg39 _ _ ah.a aq.a;have T:∀a b:Nat,((a:Int)==(b:Int))=decide (a=b):=λa b=>by
  grind
 rw[Op.equalIn];simp[go_sem,Cl,Ef,Wb,adP,QV,QT ah,QT aq,adO ah,adO aq,aK,aW,T];obtain⟨k,l,o,f,b,h,a⟩:=p;obtain⟨lo,l',eX,f',nV,h',ih⟩:=q;simp only[Pt.mk.injEq]
 grind
theorem sO(w:World){p q:Pt}(ah:bN p)(aq:bN q):(Op.equalIn 10000 44 (.agg (Y p)) (.agg (Y q))).run Tryz.prog w=.ok (decide (p=q)) w:=V' w 9997 ah aq
section
variable{p:Pt}
theorem adQ{h':List UInt8}(aD:p.h.length=32)(qn:h'.length=32):d' (Y p) 5 (bm h').toArray=Y {p with h:=h'}:=by
 simp[d',Y,qn,eB,aD]
theorem Jc(aD:p.h.length=32)(i x:Nat):(Y p).setIfInBounds (37+i) (.int .u16 x)=Y {p with a:=p.a.set i x}:=by
 apply Array.ext';simp[Y,show 37+i=(32+i)+1+1+1+1+1 by omega,List.set_append_right,eB,aD,ky,List.map_set,Cm]
end
theorem oz{w:World}{K:Value->World->Prop}:hX Tryz.prog 44 [] w K=K (.agg (Y ad)) w:=
 lp Tryz.underlying44 gm (places:=#[(0,1),(1,1),(2,1),(3,1),(4,1),(5,32),(37,4)]) (by simp[go_sem]) (by simp[iH,gn])
theorem aoj(k l o f b:Nat):d' (d' (d' (d' (d' (Y ad) 0 #[.int .u8 k]) 1 #[.int .u8 l]) 2 #[.int .u16 o]) 3 #[.int .u32 f]) 4 #[.int .u64 b]=Y ⟨k,l,o,f,b,cV 32,[0,0,0,0]⟩:=by
 simp[d',Y,ad]
theorem aok(k l o f b:Nat){w:World}{K:Value->World->Prop}:
  hX Tryz.prog 44 [(0,.int .u8 k),(1,.int .u8 l),(2,.int .u16 o),(3,.int .u32 f),(4,.int .u64 b)] w K=K (.agg (Y ⟨k,l,o,f,b,cV 32,[0,0,0,0]⟩)) w:=by
 refine lp Tryz.underlying44 gm (places:=#[(0,1),(1,1),(2,1),(3,1),(4,1),(5,32),(37,4)]) (by simp[go_sem]) ?_;have hz:(Y ad).size=41:=bW cE;simp[iH,gn,Value.cells,hz,tI];exact aoj k l o f b
theorem Wc(g o:Nat)(l:List UInt8)(e:Int)(w:World)(al:l.length<=1000000)(bH:lN w)(iw:g≠0)(ap:gH w g o l e)(aB:o<w.1.size):
  aP Tryz.prog 133 #[.pointer (some ⟨g,0,none⟩)] w λW w'=>W=.agg (Y (oy l e).1)/\gH w' g o (oy l e).2.1 (oy l e).2.2/\D (only g) w w':=by
 refine bn Tryz.func133 Tryz.ntmps133 λaZ Z=> ?_;simp[go_sem,gm,gn];have db:=cl w (.cells (Y ad) 44);have fY:=(D.refl ak w).alloc (.cells (Y ad) 44);have jR:=ap.ch fY id id;have eG:=bH.ch fY id;have aol:=ap.lt;have gE:(w.alloc (.cells (Y ad) 44)).1.size=w.1.size+1:=by simp
 revert db fY jR eG gE;generalize w.alloc (.cells (Y ad) 44)=ab;generalize aq:w.1.size=q at*;intro db fY jR eG gE;refine(Eg g l e 64 ab (by decide) (by omega) jR).mono ?_;rw[show(64:Int).toNat=64 by decide];rintro jf ai ⟨cK,hr,ei,hs⟩;have jg:=bD.fp cK;have QW:=jg.len Tryz.underlying101 3;have dk:=hs.ah db (by simp only[only];omega);have cL:=bW cE;have fq:=dW cE;by_cases aO:(cQ l e 64).1.length<64
 ·have sP:((cQ l e 64).1.length:Int)<64:=by omega
  have cR:oy l e=(ad,(cQ l e 64).2):=by unfold oy;rw[if_pos aO]
  simp[go_sem,QW,sP,oz,dk,cL,bQ];have gQ:(ai.setRow q (Y ad)).1[q]? =some (.cells (Y ad) 44 (0,0)):=by rw[gk,dk];rfl
  have vI:=(D.refl (only q) ai).setRow (.inl rfl) (Y ad);simp[go_sem,gQ,cL,fq];refine Z _ _ ⟨by rw[cR],?_,((fY.mono λ_ _ e=>e.elim).trans hs).setRow (.inr (by omega)) _⟩;rw[cR];exact ei.ch vI (by simp only[only];omega) (by simp only[only];omega)
 have aV:e=0:=by
  apply Classical.byContradiction;intro h;simp[cQ,h]at aO
 subst aV;have cI:¬l.length<64:=by
  intro h;simp[cQ,h]at aO
 have adR:cQ l 0 64=(l.take 64,l.drop 64,0):=by simp[cQ,cI]
 rw[adR]at cK ei jg QW aO;simp only at cK ei jg QW aO;generalize aom:l.take 64=b at*;have V:b.length=64:=by rw[<-aom];simp;omega
 have sP:¬(b.length:Int)<64:=by omega
 have Eh:oy l 0=if uP b then(pJ b,l.drop 64,0)else(ad,[],5):=by
  unfold oy;rw[adR];simp only[V,Nat.lt_irrefl,if_false]
 simp[go_sem,QW,sP];have ok:=adI V;refine(Mc jf b ai (by omega) jg).mono ?_;rintro _ aC ⟨cq,or,rfl,a',QX,Jd,aX,bq⟩;have vJ:q<ai.1.size:=lt_of_block dk;have oA:g<ai.1.size:=ei.lt;have mT:cQ b 0 1=(b.take 1,b.drop 1,0):=by simp[cQ,V]
 have vK:cQ (b.drop 1) 0 1=((b.drop 1).take 1,b.drop 2,0):=by simp[cQ,V]
 have uQ:cQ (b.drop 2) 0 2=((b.drop 2).take 2,b.drop 4,0):=by simp[cQ,V]
 have hQ:cQ (b.drop 4) 0 4=((b.drop 4).take 4,b.drop 8,0):=by simp[cQ,V]
 have tJ:cQ (b.drop 8) 0 8=((b.drop 8).take 8,b.drop 16,0):=by simp[cQ,V]
 have Je:cQ (b.drop 16) 0 (32:Int).toNat=((b.drop 16).take 32,b.drop 48,0):=by simp[cQ,V]
 obtain⟨xa,QY⟩:=az (dQ (b.take 1));obtain⟨gY,pK⟩:=az (dQ ((b.drop 1).take 1));obtain⟨Ei,QZ⟩:=az (dQ ((b.drop 2).take 2));obtain⟨Ej,Q_⟩:=az (dQ ((b.drop 4).take 4));obtain⟨rb,Q'⟩:=az (dQ ((b.drop 8).take 8));simp[go_sem];refine(Wd cq b 0 aC (by omega) aX).mono ?_;rintro _ be ⟨rfl,ix,bv⟩;simp only[mT]at ix;rw[mT,QY];simp[go_sem];refine(Wd cq _ 0 be (by simp;omega) ix).mono ?_;rintro _ bw ⟨rfl,xb,bx⟩;simp only[vK]at xb;rw[vK,pK];simp[go_sem];refine(Ra cq _ 0 bw (by simp;omega) xb).mono ?_;rintro _ cd ⟨rfl,Ek,co⟩;simp only[uQ]at Ek;rw[uQ,QZ];simp[go_sem];refine(adS cq _ 0 cd (by simp;omega) Ek).mono ?_;rintro _ cF ⟨rfl,Cn,dz⟩;simp only[hQ]at Cn;rw[hQ,Q_];simp[go_sem];refine(We cq _ 0 cF (by simp;omega) Cn).mono ?_;rintro _ eA ⟨rfl,vL,ev⟩;simp only[tJ]at vL;rw[tJ,Q'];have xc:bN ⟨xa,gY,Ei,Ej,rb,cV 32,[0,0,0,0]⟩:=by
  rw[<-QY,<-pK,<-QZ,<-Q_,<-Q'];exact⟨ok.k,ok.l,ok.o,ok.f,ok.b,rfl,rfl,cE.dn⟩
 generalize oB:(⟨xa,gY,Ei,Ej,rb,cV 32,[0,0,0,0]⟩:Pt)=nv at xc;simp[go_sem,aok,oB,gm,gn,cL,bW xc,bQ];have Jf:D (only cq) aC eA:=(((bv.trans bx).trans co).trans dz).trans ev;have Wf:D ak ai eA:=bq.bJ Jf λj F e=>by simp only[only]at e;omega
 have Jg:=Wf.size;have aGz:or<eA.1.size:=Nat.lt_of_lt_of_le Jd Jf.size;have aGA:cq<eA.1.size:=vL.lt;have Rb:=cl eA (.cells (Y nv) 44);have dX:=(D.refl ak eA).alloc (.cells (Y nv) 44);have Co:=vL.ch dX id id;have Md:(eA.alloc (.cells (Y nv) 44)).1.size=eA.1.size+1:=by simp
 have Rc:=Wf.trans dX;revert Rb Co Md Rc;generalize eA.alloc (.cells (Y nv) 44)=dC;generalize M:eA.1.size=x at*;intro Rb Co Md Rc;refine(Eg cq _ 0 32 dC (by decide) (by simp;omega) Co).mono ?_;rw[Je];rintro aon mr ⟨a_,bh,bV,cr⟩;have vM:((b.drop 16).take 32).length=32:=ok.h;simp only[vM]at a_;obtain⟨cM,Wg,aoo,rfl,vN,aK,aW,dt,cW⟩:=Me a_ (by omega);have Wh:=cr.ah Rb (by simp only[only];omega);have rc:∀w,(Instr.arrayAt 41 (.slice (some ⟨cM,0,none⟩) 32 Wg)).run Tryz.prog w=.ok (.pointer (some ⟨cM,0,none⟩)) w:=λw=>run_arrayAt w _ _ _ _ _ _ Tryz.underlying41 (by omega);simp[go_sem,rc,vN,dt,cW,Wh,eB,vM,bW xc,adQ xc.h vM];have adT:=(D.refl (only x) mr).setRow (.inl rfl) (Y {nv with h:=(b.drop 16).take 32});have Mf:=bV.ch adT (by simp only[only];omega) (by simp only[only];omega);have Mg:=(Rc.bJ cr (λj F e=>by simp only[only]at e;omega)).setRow (.inr Jg) (Y {nv with h:=(b.drop 16).take 32});have Mh:(mr.setRow x (Y {nv with h:=(b.drop 16).take 32})).1[x]? =some (.cells (Y {nv with h:=(b.drop 16).take 32}) 44):=by rw[gk,Wh];rfl
 have cR:∀k,k<=4->k=0->Y {nv with h:=(b.drop 16).take 32}=Y ⟨xa,gY,Ei,Ej,rb,(b.drop 16).take 32,(tH b).take k++List.replicate (4 - k) 0⟩:=by
  rintro k _ rfl;rw[<-oB];rfl
 rw[cR 0 (by omega) rfl]at Mh Mf Mg;rw[cR 0 (by omega) rfl];revert Mf Mg Mh;generalize mr.setRow x (Y ⟨xa,gY,Ei,Ej,rb,(b.drop 16).take 32,(tH b).take 0++List.replicate (4 - 0) 0⟩)=aGB;intro Mf Mg Mh;clear adT vN Rb Wh a_ bh bV cr Co vL Cn Ek xb ix Jf Wf Rc aX bq bv bx co dz ev dX rc;refine du (λJ f bE=>∃k,k<=4/\J=4 - k/\f 0=.pointer (some ⟨g,0,none⟩)/\f 2=.pointer (some ⟨q,0,none⟩)/\f 4=.pointer (some ⟨cq,0,none⟩)/\f 5=.pointer (some ⟨x,0,none⟩)/\f 31=.int .i64 k/\
  gH bE cq or (b.drop (48+2*k)) 0/\D ak ai bE/\bE.1[x]? =some (.cells (Y ⟨xa,gY,Ei,Ej,rb,(b.drop 16).take 32,(tH b).take k++List.replicate (4 - k) 0⟩) 44)) 4
  ⟨0,by omega,rfl,by simp,by simp,by simp,by simp,by simp,Mf,Mg,Mh⟩ ?_
 clear Mf Mg Mh;rintro cJ bK _ f bE ⟨k,r,rfl,bf,I,aU,bC,Wi,ap,T,Ay⟩;by_cases fs:k<4
 ·have ea:(k:Int)<4:=by omega
  simp[go_sem,aU,Wi,ea];refine(Ra cq _ 0 bE (by simp;omega) ap).mono ?_;have uQ:cQ (b.drop (48+2*k)) 0 2=((b.drop (48+2*k)).take 2,b.drop (48+2*(k+1)),0):=by
   simp[cQ,V,show¬64 -(48+2*k)<2 by omega,Nat.mul_add,Nat.add_assoc]
  rw[uQ];rintro _ cF ⟨rfl,cK,hr⟩;have vO:=hr.ah Ay (by simp only[only];omega);have kz:=λi=>aG vO i;have jS:=λi=>dD vO i;have yB:(tH b).length=4:=rfl;have nW:bN ⟨xa,gY,Ei,Ej,rb,(b.drop 16).take 32,(tH b).take k++List.replicate (4 - k) 0⟩:=by
   rw[<-QY,<-pK,<-QZ,<-Q_,<-Q'];refine⟨ok.k,ok.l,ok.o,ok.f,ok.b,vM,by simp[yB];omega,λy ar=> ?_⟩;rcases List.mem_append.1 ar with h|h
   ·exact ok.dn y (List.mem_of_mem_take h)
   ·rw[(List.mem_replicate.1 h).2];decide
  have hR:(Y ⟨xa,gY,Ei,Ej,rb,(b.drop 16).take 32,(tH b).take k++List.replicate (4 - k) 0⟩)[37+k]? =some (.int .u16 (0:Nat)):=by
   refine lO nW ?_;simp only;rw[List.getElem?_append_right (by rw[List.length_take];omega),List.length_take,List.getElem?_replicate,if_pos (by omega)]
  simp[go_sem,bC,Wi,ea,kz,jS,hR];have Wj:=(D.refl (only x) cF).setCell (p:=⟨x,37+k,none⟩) (.inl rfl) (.int .u16 (dQ ((b.drop (48+2*k)).take 2):Nat));refine cH.intro (4 -(k+1)) (by omega) (bK _ _ _ ⟨k+1,by omega,rfl,by simpa using bf,by simpa using I,by simpa using aU,by simpa using bC,by simp[IntKind.wrap_i64];omega,
   cK.ch Wj (by simp only[only];omega) (by simp only[only];omega),(T.bJ hr (λj F e=>by simp only[only]at e;omega)).setCell (.inr Jg) _,?_⟩)
  rw[eY,vO,gp,Jc vM];congr 3;simp only;have M:(tH b)[k]? =some (dQ ((b.drop (48+2*k)).take 2)):=by
   match k,fs with
   |0,_=>rfl
   |1,_=>rfl
   |2,_=>rfl
   |3,_=>rfl
  rw[List.set_append_right _ _ (by rw[List.length_take];omega),List.length_take,yB,show k - min k 4=0 by omega,show(tH b).take (k+1)=(tH b).take k++(tH b)[k]?.toList from List.take_add_one,M,show 4 - k=(4 -(k+1))+1 by omega,List.replicate_succ,List.set_cons_zero];simp
 ·obtain rfl:k=4:=by omega
  have Wk:(⟨xa,gY,Ei,Ej,rb,(b.drop 16).take 32,(tH b).take 4++List.replicate (4 - 4) 0⟩:Pt)=pJ b:=by
   rw[<-QY,<-pK,<-QZ,<-Q_,<-Q'];rfl
  rw[Wk]at Ay;simp[go_sem,aU,Wi];refine(Mi cq _ 0 bE ap).mono ?_;rintro _ _ ⟨rfl,rfl⟩;have Wl:(b.drop (48+2*4)).length=8:=by simp[V]
  simp[go_sem,Wl];refine(Re cq _ 0 8 _ (by decide) (by rw[Wl];decide) ap).mono ?_;have aop:tK (b.drop (48+2*4)) 0 (8:Int).toNat=([],if nU (b.drop 56)then 5 else 0):=by
   have:cQ (b.drop (48+2*4)) 0 (8:Int).toNat=(b.drop 56,[],0):=by simp[cQ,V];exact List.take_of_length_le (by simp[V])
   unfold tK;rw[this]
   cases nU (b.drop 56)<;>simp[mU]
  rw[aop];rintro _ aoq ⟨rfl,hY,kA⟩;simp only at hY;simp[go_sem,aU];refine(Rf cq _ _ aoq hY).mono ?_;have aor:rf [] (if nU (b.drop 56)then 5 else 0)=([],if nU (b.drop 56)then 5 else 0):=by simp[rf]
  rw[aor];rintro _ adU ⟨rfl,jE,rh⟩;have Gy:=(T.bJ kA λj F e=>by simp only[only]at e;omega).bJ rh λj F e=>by simp only[only]at e;omega
  have Rg:=rh.ah (kA.ah Ay (by simp only[only];omega)) (by simp only[only];omega);have Mj:=bW ok;have Mk:=dW ok;have tL:=ei.ch Gy id id;have xd:=Gy.ah dk id;have gI:=λw=>sO w ok cE;have bL:∀{u:World},D ak ai u->D (only g) w u:=λh=>((fY.mono λ_ _ e=>e.elim).trans hs).trans (h.mono λ_ _ e=>e.elim);by_cases oC:nU (b.drop 56)=true
  ·have jh:¬uP b=true:=by simp[uP,oC]
   simp[go_sem,oC,bf];refine(Wm g _ 0 _ tL).mono ?_;have Wn:mU (l.drop 64) 0 5=([],5):=by simp[mU]
   rw[Wn];rintro _ Ml ⟨rfl,ba,cC⟩;have El:=cC.ah xd (by simp only[only];omega);have gQ:(Ml.setRow q (Y ad)).1[q]? =some (.cells (Y ad) 44 (0,0)):=by rw[gk,El];rfl
   have vI:=(D.refl (only q) Ml).setRow (.inl rfl) (Y ad);simp[go_sem,I,El,oz,cL,bQ,gQ,fq];refine Z _ _ ⟨by rw[Eh,if_neg jh],?_,((bL Gy).trans cC).setRow (.inr (by omega)) _⟩;rw[Eh,if_neg jh];exact ba.ch vI (by simp only[only];omega) (by simp only[only];omega)
  ·simp only[Bool.not_eq_true]at oC;by_cases Az:pJ b=ad
   ·have jh:uP b=true:=by simp[uP,oC,Az]
    rw[Az]at Rg;have AA:=λw=>sO w cE cE;have gQ:(adU.setRow q (Y ad)).1[q]? =some (.cells (Y ad) 44 (0,0)):=by rw[gk,xd];rfl
    have vI:=(D.refl (only q) adU).setRow (.inl rfl) (Y ad);simp[go_sem,oC,bf,I,bC,Rg,cL,fq,oz,AA,xd,bQ,gQ];refine Z _ _ ⟨by rw[Eh,if_pos jh,Az],?_,(bL Gy).setRow (.inr (by omega)) _⟩;rw[Eh,if_pos jh];exact tL.ch vI (by simp only[only];omega) (by simp only[only];omega)
   ·simp[go_sem,oC,bf,I,bC,Rg,Mj,Mk,oz,gI,Az];refine(AB (pJ b) _ ok ?_).mono ?_
    ·exact(eG.ch hs (by simp only[only];exact λe=>iw e.symm)).ch Gy id
    rintro _ adV ⟨rfl,lq⟩
    cases aH:iX (pJ b)
    ·have jh:¬uP b=true:=by simp[uP,oC,Az,aH]
     have aos:=tL.ch lq id id;have aot:=lq.ah xd id;simp[go_sem,bf];refine(Wm g _ 0 _ aos).mono ?_;have Wn:mU (l.drop 64) 0 5=([],5):=by simp[mU]
     rw[Wn];rintro _ Ml ⟨rfl,ba,cC⟩;have El:=cC.ah aot (by simp only[only];omega);have gQ:(Ml.setRow q (Y ad)).1[q]? =some (.cells (Y ad) 44 (0,0)):=by rw[gk,El];rfl
     have vI:=(D.refl (only q) Ml).setRow (.inl rfl) (Y ad);simp[go_sem,I,El,oz,cL,bQ,gQ,fq];refine Z _ _ ⟨by rw[Eh,if_neg jh],?_,((bL (Gy.trans lq)).trans cC).setRow (.inr (by omega)) _⟩;rw[Eh,if_neg jh];exact ba.ch vI (by simp only[only];omega) (by simp only[only];omega)
    ·have jh:uP b=true:=by simp[uP,oC,Az,aH]
     have aou:=lq.ah Rg id;have El:=lq.ah xd id;have gQ:(adV.setRow q (Y (pJ b))).1[q]? =some (.cells (Y (pJ b)) 44 (0,0)):=by rw[gk,El];rfl
     have vI:=(D.refl (only q) adV).setRow (.inl rfl) (Y (pJ b));simp[go_sem,I,bC,aou,Mj,cL,Mk,El,bQ,gQ];refine Z _ _ ⟨by rw[Eh,if_pos jh],?_,(bL (Gy.trans lq)).setRow (.inr (by omega)) _⟩;rw[Eh,if_pos jh];exact(tL.ch lq id id).ch vI (by simp only[only];omega) (by simp only[only];omega)
theorem aov(a b:Nat)(am:a<18446744073709551616)(V:b<18446744073709551616):bits .and .u64 (a:Int) (b:Int)=((a&&&b:Nat):Int):=by
 have M:a&&&b<2^64:=Nat.and_lt_two_pow _ (by omega);show IntKind.u64.wrap ((BitVec.ofInt 64 (a:Int)&&&BitVec.ofInt 64 (b:Int)).toNat:Int)=_;rw[BitVec.toNat_and,sQ 64 a (by omega),sQ 64 b (by omega),IntKind.wrap_u64];omega
theorem Mm(a b:Nat)(am:a<4294967296)(V:b<4294967296):bits .and .u32 (a:Int) (b:Int)=((a&&&b:Nat):Int):=by
 have M:a&&&b<2^32:=Nat.and_lt_two_pow _ (by omega);show IntKind.u32.wrap ((BitVec.ofInt 32 (a:Int)&&&BitVec.ofInt 32 (b:Int)).toNat:Int)=_;rw[BitVec.toNat_and,sQ 32 a (by omega),sQ 32 b (by omega),IntKind.wrap_u32];omega
theorem Rh(a b:Nat)(am:a<4294967296)(V:b<4294967296):bits .or .u32 (a:Int) (b:Int)=((a|||b:Nat):Int):=by
 have M:a|||b<2^32:=Nat.or_lt_two_pow (by omega) (by omega);show IntKind.u32.wrap ((BitVec.ofInt 32 (a:Int)|||BitVec.ofInt 32 (b:Int)).toNat:Int)=_;rw[BitVec.toNat_or,sQ 32 a (by omega),sQ 32 b (by omega),IntKind.wrap_u32];omega
theorem xe(a b:Nat)(am:a<4294967296)(V:b<4294967296):bits .xor .u32 (a:Int) (b:Int)=((a^^^b:Nat):Int):=by
 have M:a^^^b<2^32:=Nat.xor_lt_two_pow (by omega) (by omega);show IntKind.u32.wrap ((BitVec.ofInt 32 (a:Int)^^^BitVec.ofInt 32 (b:Int)).toNat:Int)=_;rw[BitVec.toNat_xor,sQ 32 a (by omega),sQ 32 b (by omega),IntKind.wrap_u32];omega
def kg(x n:Nat):Nat:=(x*2^(32 - n))%4294967296|||x / 2^n
theorem AC(x n:Nat)(M:x<4294967296):kg x n<4294967296:=Nat.or_lt_two_pow (n:=32) (Nat.mod_lt _ (by decide)) (Nat.lt_of_le_of_lt (Nat.div_le_self _ _) M)
theorem aow(x n:Nat)(w:World)(M:x<4294967296)(bf:0<n)(av:n<32):aP Tryz.prog 281 #[.int .u32 x,.int .i64 (-(n:Int))] w λW w'=>W=.int .u32 (kg x n)/\w'=w:=by
 refine bn Tryz.func281 Tryz.ntmps281 λaZ Z=> ?_;have H:IntKind.u64.wrap (-(n:Int))=((18446744073709551616 - n:Nat):Int):=by rw[IntKind.wrap_u64];omega
 have I:bits .and .u64 (IntKind.u64.wrap (-(n:Int))) 31=((32 - n:Nat):Int):=by
  rw[H,show(31:Int)=((31:Nat):Int)from rfl,aov _ _ (by omega) (by decide),show(31:Nat)=2^5 - 1 from rfl,Nat.and_two_pow_sub_one_eq_mod];omega
 have af:IntKind.u64.wrap (32 -((32 - n:Nat):Int))=(n:Int):=by rw[IntKind.wrap_u64];omega
 have aU:IntKind.u32.wrap ((x:Int)*2^(32 - n))=(((x*2^(32 - n))%4294967296:Nat):Int):=by
  rw[show(x:Int)*2^(32 - n)=((x*2^(32 - n):Nat):Int)by simp,IntKind.wrap_u32];generalize x*2^(32 - n)=y;omega
 have bC:(x:Int) / 2^n=((x / 2^n:Nat):Int):=by simp
 have cG:x / 2^n<4294967296:=Nat.lt_of_le_of_lt (Nat.div_le_self _ _) M;simp[go_sem,I,af];refine Z _ _ ⟨?_,rfl⟩;rw[aU,bC,Rh _ _ (Nat.mod_lt _ (by decide)) cG];rfl
theorem AD(x n:Nat)(w:World)(M:x<4294967296)(bf:0<n)(av:n<32):aP Tryz.prog 262 #[.int .u32 x,.int .i64 n] w λW w'=>W=.int .u32 (kg x n)/\w'=w:=by
 refine bn Tryz.func262 Tryz.ntmps262 λaZ Z=> ?_;have H:IntKind.i64.wrap (-(n:Int))= -(n:Int):=by rw[IntKind.wrap_i64];omega
 simp[go_sem,H];refine(aow x n w M bf av).mono ?_;rintro _ _ ⟨rfl,rfl⟩;simp[go_sem];exact Z _ _ ⟨rfl,rfl⟩
def dd(n:Nat)(h:List UInt8)(a:List Nat):Array Value:=(Value.int .u64 n::(bm h++ky a)).toArray
structure Cp(n:Nat)(h:List UInt8)(a:List Nat):Prop where
 av:n<18446744073709551616
 aD:h.length=32
 am:a.length=4
 lt:∀(i:Nat) (x:Nat),a[i]? =some x->x<65536
section
variable{n:Nat}{h:List UInt8}{a:List Nat}
theorem rT(aD:h.length=32)(am:a.length=4):(dd n h a).size=37:=by simp[dd,eB,Gx,aD,am]
@[simp] theorem aGC(n:Nat)(h:List UInt8)(a:List Nat):jT (dd n h a)=true:=by
 refine yC λu an=> ?_;simp only[List.mem_cons,List.mem_append]at an;rcases an with rfl|an|an
 ·rfl
 ·exact xf _ u an
 ·exact adW _ u an
theorem Em(aD:h.length=32)(am:a.length=4):(dd n h a).extract 0 37=dd n h a:=by rw[<-rT (n:=n) aD am];simp
theorem En(n:Nat)(h:List UInt8)(a:List Nat):(dd n h a)[0]? =some (.int .u64 n):=by simp[dd]
theorem Wo(aD:h.length=32):(dd n h a).extract 1 33=(bm h).toArray:=by
 apply Array.ext';simp[dd,List.extract_eq_take_drop,aD,eB]
theorem adX(aD:h.length=32)(am:a.length=4):(dd n h a).extract 33 37=(ky a).toArray:=by
 apply Array.ext';simp[dd,List.extract_eq_take_drop,aD,eB];exact List.take_of_length_le (by rw[Gx];omega)
theorem Jh(aD:h.length=32)(i:Nat)(x:Nat)(M:a[i]? =some x):(dd n h a)[33+i]? =some (Cm x):=by
 simp[dd,show 33+i=(32+i)+1 by omega,List.getElem?_append,eB,aD,ky,M]
end
def jU(n:Nat):List Nat:=List.replicate n 0
theorem yD(n:Nat):(jU n).length=n:=List.length_replicate
theorem Cq:ln Tryz.prog 61=dd 0 (cV 32) (jU 4):=by kernel_rfl
theorem adY:ln Tryz.prog 159=(bm (cV 64)).toArray:=by kernel_rfl
theorem Cr:(Tryz.prog.info? 61).map (λi=>i.zero.isSome)=some true:=by kernel_rfl
theorem adZ:(Tryz.prog.info? 159).map (λi=>i.zero.isSome)=some true:=by kernel_rfl
def ii(n:Nat)(h:List UInt8)(a:List Nat):List UInt8:=bX n 8++(h++(a.flatMap (λx=>bX x 2)++List.replicate 16 0))
theorem aox(a:List Nat):(a.flatMap (λx=>bX x 2)).length=2*a.length:=by
 induction a with
 |nil=>rfl
 |cons x a bG=>simp[jC,bG]at*;omega
theorem Ji{n:Nat}{h:List UInt8}{a:List Nat}(aD:h.length=32)(am:a.length=4):(ii n h a).length=64:=by
 have:=aox a;simp only[ii,List.length_append,jC,aD,this,am,List.length_replicate]
theorem ad0(n:Nat)(h:List UInt8)(a:List Nat)(w:World)(ok:Cp n h a):
  aP Tryz.prog 117 #[.agg (dd n h a)] w λW w'=>W=.agg (bm (ii n h a)).toArray/\D ak w w':=by
 obtain⟨av,aD,am,aO⟩:=ok;have fq:=Em (n:=n) aD am;have cL:=rT (n:=n) aD am;refine bn Tryz.func117 Tryz.ntmps117 λaZ Z=> ?_;simp[go_sem,adZ,adY];have db:((w.alloc (.cells (dd n h a) 61)).alloc (.cells (bm (cV 64)).toArray 159)).1[w.1.size]? =some (.cells (dd n h a) 61):=by simp
 have dk:((w.alloc (.cells (dd n h a) 61)).alloc (.cells (bm (cV 64)).toArray 159)).1[w.1.size+1]? =some (.cells (bm (cV 64)).toArray 159):=by simp
 have fY:D ak w ((w.alloc (.cells (dd n h a) 61)).alloc (.cells (bm (cV 64)).toArray 159)):=((D.refl ak w).alloc _).alloc _;have xg:w.1.size+2=((w.alloc (.cells (dd n h a) 61)).alloc (.cells (bm (cV 64)).toArray 159)).1.size:=by simp
 revert db dk fY xg;generalize(w.alloc (.cells (dd n h a) 61)).alloc (.cells (bm (cV 64)).toArray 159)=ab;generalize aF:w.1.size=g;intro db dk fY xg;have kz:=λi=>aG db i;refine cD [A 0,A 1,A 3,A 4,(2,some [3,4]),(5,some []),A 6] ?_;simp[go_sem,kz,En];refine(Wp (.slice none 0 0) 0 [] n _ av (by decide) (World.ownsRow_nil _ _ _ _)).mono ?_;rintro jf ai ⟨a',aX,bq⟩;have aX:D ak ab ai:=aX.iy.mono λ_ _ e=>by simp[Value.ownBlock]at e
 have Wq:=aX.ah db id;have Gz:=aX.ah dk id;have aw:bD ai (.slice (some ⟨g,1,none⟩) 32 32) h.length (bm h):=by
  rw[aD];refine bD.GA Wq (Nat.le_refl _) (by decide) ?_;simp[dd,aD,eB]
 simp[go_sem];refine Jj kB a' aw (eB h) (xf _) (by unfold maxLen;omega) (by omega) λv3 aC ec ft iI=> ?_;have lP:D ak ab aC:=aX.bJ ft λj F e=>by
  rcases bq with bq|bq
  ·rw[bq]at e;simp[Value.ownBlock]at e
  ·have:=bq j e;simp at this;omega
 have Wr:fZ ab.1.size v3:=by
  rcases iI with iI|iI
  ·intro j F;rw[iI]at F;rcases bq with bq|bq
   ·rw[bq]at F;simp[Value.ownBlock]at F
   ·have:=bq j F;simpa using this
  ·exact iI.mono aX.size
 rw[<-Cs,List.nil_append,Nat.zero_add,aD]at ec;have Ws:=λi=>aG (lP.ah db id) i;obtain⟨a0,a1,a2,a3,rfl⟩:∃a0 a1 a2 a3,a=[a0,a1,a2,a3]:=by
  match a,am with
  |[a0,a1,a2,a3],_=>grind
 have fG:=Jh (n:=n) aD 0 a0 (a:=[a0,a1,a2,a3]) rfl;have aI:=Jh (n:=n) aD 1 a1 (a:=[a0,a1,a2,a3]) rfl;have aA:=Jh (n:=n) aD 2 a2 (a:=[a0,a1,a2,a3]) rfl;have aE:=Jh (n:=n) aD 3 a3 (a:=[a0,a1,a2,a3]) rfl;simp only[Nat.reduceAdd]at fG aI aA aE;simp[go_sem,Ws,fG,aI,aA,aE];refine du (λJ f bE=>∃k,k<=4/\J=4 - k/\f 2=.pointer (some ⟨g+1,0,none⟩)/\f 13=.agg (ky [a0,a1,a2,a3]).toArray/\f 14=.int .i64 k/\hZ aC v3 40 (bX n 8++h) (2*k) (([a0,a1,a2,a3].take k).flatMap (λx=>bX x 2)) (f 3) bE) 4
  ⟨0,by omega,rfl,by simp,by simp[ky],by simp,by simpa using hZ.refl ec⟩ ?_
 rintro cJ bK _ f bE ⟨k,r,rfl,I,ad1,Wt,aB⟩;by_cases Ri:k<4
 ·obtain⟨x,M⟩:∃x,[a0,a1,a2,a3][k]? =some x:=⟨_,List.getElem?_eq_getElem (by simpa using Ri)⟩;have Jk:(ky [a0,a1,a2,a3])[k]? =some (.int .u16 x):=by rw[ky,List.getElem?_map,M];rfl
  have lr:=aO k x M;have fs:(k:Int)<4:=by omega
  have mu:=λw=>Eo (P:=Tryz.prog) (kd:=.i64) Tryz.underlying42 Tryz.sizeOf39 Tryz.isAgg39 Ri (cs:=(ky [a0,a1,a2,a3]).toArray) (by simpa using Jk) w;simp[go_sem,ad1,Wt,fs,mu];refine(Rj _ _ _ x bE lr (by omega) aB.1).mono ?_;rintro v4 be ⟨cK,hr,ei⟩;simp[go_sem,Wt];refine cH.intro (4 -(k+1)) (by omega) (bK _ _ _ ⟨k+1,by omega,rfl,by simpa using I,by simpa using ad1,by simp[IntKind.wrap_i64];omega,?_⟩);have aK:([a0,a1,a2,a3].take (k+1)).flatMap (λx=>bX x 2)=([a0,a1,a2,a3].take k).flatMap (λx=>bX x 2)++bX x 2:=by
   rw[List.take_add_one,M];simp
  rw[aK];refine⟨?_,aB.2.1.bJ hr λj F e=> ?_,?_⟩
  ·rw[List.append_assoc]at cK;simpa[Nat.mul_add,Nat.add_assoc]using cK
  ·rcases aB.2.2 with h|h
   ·rw[<-h];exact e
   ·have:=h j e;omega
  ·simp;rcases ei with ei|ei
   ·rcases aB.2.2 with h|h
    ·exact .inl (ei.trans h)
    ·exact .inr λj F=>h j (by rw[<-ei];exact F)
   ·exact .inr (ei.mono aB.2.1.size)
 ·obtain rfl:k=4:=by omega
  simp[go_sem,Wt];have aoy:(bX n 8++h++([a0,a1,a2,a3].take 4).flatMap (λx=>bX x 2)).length=48:=by
   simp[jC,aD]
  refine(Rk (f 3) 48 _ 64 bE (by omega) (by omega) aoy (by simpa using aB.1)).mono ?_;rintro v5 bw ⟨cK,hr,ei⟩;have vP:bm (bX n 8++h++([a0,a1,a2,a3].take 4).flatMap (λx=>bX x 2)++List.replicate ((64:Int).toNat - 48) 0)=bm (ii n h [a0,a1,a2,a3]):=by
   simp[ii]
  rw[vP]at cK;obtain⟨cu,ad2,ad3,rfl,pb,aK,aW,dt,cW⟩:=Me cK (by omega);have ad4:D ak ab bw:=(lP.bJ aB.2.1 (λj F e=>by have:=Wr j e;omega)).bJ hr λj F e=>by
   rcases aB.2.2 with h|h
   ·rw[h]at e;have:=Wr j e;omega
   ·have:=h j e;have:=lP.size;omega
  have Gz:=ad4.ah dk id;have da:g+1≠cu:=by
   have Mn:fZ ab.1.size (.slice (some ⟨cu,0,none⟩) (48+((64:Int).toNat - 48)) ad2):=by
    rcases ei with ei|ei
    ·intro j F;rw[ei]at F;rcases aB.2.2 with h|h
     ·rw[h]at F;exact Wr j F
     ·exact Nat.le_trans lP.size (h j F)
    ·exact ei.mono (Nat.le_trans lP.size aB.2.1.size)
   have:=Mn cu rfl;omega
  have rc:∀w,(Instr.arrayAt 159 (.slice (some ⟨cu,0,none⟩) 64 ad2)).run Tryz.prog w=.ok (.pointer (some ⟨cu,0,none⟩)) w:=λw=>run_arrayAt w _ _ _ _ _ _ Tryz.underlying159 (by omega);have bT:=Ji (n:=n) aD (a:=[a0,a1,a2,a3]) rfl;have aoz:64<=ad3.size:=by simpa using dt
  have aoA:ad3.extract 0 64=(bm (ii n h [a0,a1,a2,a3])).toArray:=by simpa using cW
  simp[go_sem,rc,pb,aoz,aoA,I,Gz,eB,bT,lM,bQ];exact Z _ _ ⟨rfl,(fY.trans ad4).setRow (.inr (by omega)) _⟩
end Go.Proofs.YtoohkhcpboldjaaGreatDoor
