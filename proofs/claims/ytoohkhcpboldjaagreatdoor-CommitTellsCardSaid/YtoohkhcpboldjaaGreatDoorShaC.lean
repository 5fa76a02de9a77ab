/- A piece taken in: package sha's take, as a contract on the call. Condition: the variable sha.constants holds what the text lays. -/
import Derived.Test.YtoohkhcpboldjaaGreatDoorAncA
set_option linter.unusedSimpArgs false
set_option linter.unusedVariables false
namespace Go.Proofs.YtoohkhcpboldjaaGreatDoor
open Go.RowKit Go.Kin Tryz
def xh(l:List Nat):List N:=l.map λn:Nat=>Value.int .u32 n
theorem aa4(l:List Nat):(xh l).length=l.length:=oV ..
@[simp] theorem ar1(l:List Nat):jx (xh l).toArray=true:=yJ (by
 intro u ap;obtain⟨c,_,rfl⟩:=lF.1 ap;rfl)
theorem ahO{l:List Nat}{i x:Nat}(h:l[i]? =some x):(xh l).toArray[i]? =some (.int .u32 x):=by
 rw[yL,xh,oo,h];rfl
theorem ar2(l:List Nat)(i x:Nat):(xh l).toArray.setIfInBounds i (.int .u32 x)=(xh (l.set i x)).toArray:=by
 apply ip;simp[xh,Ou]
def kr(a b:Nat):Nat:=(a+b)%4294967296
theorem Dw(a b:Nat):kr a b<4294967296:=IE _ (by decide)
theorem Dx(a b:Nat):IntKind.u32.wrap ((a:Int)+b)=(kr a b:Int):=by
 rfl
def no(b:List UInt8)(i:Nat):Nat:=(b.getD i 0).toNat
theorem KQ(b:List UInt8)(i:Nat):no b i<256:=UInt8.toNat_lt _
def Nv(b:List UInt8)(i:Nat):Nat:=((no b (4*i)*16777216|||no b (4*i+1)*65536)|||no b (4*i+2)*256)|||no b (4*i+3)
theorem aIv(b:List UInt8)(i:Nat):Nv b i<4294967296:=by
 have bi:=KQ b (4*i);have J:=KQ b (4*i+1);have T:=KQ b (4*i+2);have ag:=KQ b (4*i+3);exact BZ (n:=32) (BZ (BZ (by omega) (by omega)) (by omega)) (by omega)
def aIw(x:Nat):Nat:=(li x 7^^^li x 18)^^^(x / 8)
def aIx(x:Nat):Nat:=(li x 17^^^li x 19)^^^(x / 1024)
def sL(Y:List Nat)(k:Nat):Nat:=kr (kr (kr (Y.getD (k - 16) 0) (aIw (Y.getD (k - 15) 0))) (Y.getD (k - 7) 0)) (aIx (Y.getD (k - 2) 0))
def np(b:List UInt8):Nat->List Nat
 |0=>[]
 |k+1=>np b k++[if k<16 then Nv b k else sL (np b k) k]
theorem HV(b:List UInt8)(k:Nat):(np b k).length=k:=by
 induction k with
 |zero=>rfl
 |succ k bL=>simp[np,bL]
theorem ar3(b:List UInt8)(k:Nat):∀x∈np b k,x<4294967296:=by
 induction k with
 |zero=>simp[np]
 |succ k bL=>
  intro x W;simp only[np,hP,sc]at W;rcases W with W|rfl
  ·exact bL x W
  ·split
   ·exact aIv _ _
   ·exact Dw _ _
def FK(b:List UInt8)(k:Nat):List Nat:=np b k++List.replicate (64 - k) 0
theorem aIy(b:List UInt8){k:Nat}(h:k<64):(FK b k).set k (if k<16 then Nv b k else sL (np b k) k)=FK b (k+1):=by
 unfold FK;rw[Lq _ _ (by rw[HV];omega),HV,Sg,show 64 - k=(64 -(k+1))+1 by omega,Oz,OA];simp[np]
theorem aIz(b:List UInt8){k i:Nat}(h:i<k):(FK b k)[i]? =some ((np b k).getD i 0):=by
 unfold FK;rw[LA (by rw[HV];exact h),lk,d_ (by rw[HV];exact h)];rfl
theorem aa5(b:List UInt8){k i:Nat}(h:i<k):(np b k).getD i 0<4294967296:=by
 rw[lk,d_ (by rw[HV];exact h)];exact ar3 b k _ (wj _)
theorem ar4:(prog.info? 407).map (λi=>i.zero.isSome)=some true:=by kernel_rfl
theorem ar5:kN prog 407=(xh (List.replicate 64 0)).toArray:=by kernel_rfl
theorem aIA(v:N)(b:List UInt8)(w:M)(ab:b.length=64)(aA:bC w v 64 (br b)):
  bc prog 261 #[v] w λv' w'=>v'=.agg (xh (np b 64)).toArray/\H al w w':=by
 refine bz func261 ntmps261 λbk af=> ?_;obtain⟨la,Ai⟩:=aD ((xh (List.replicate 64 0)).toArray);have Ch:=ar5;rw[Ai]at Ch;simp[go_sem,ar4,Ch];have aY:=((H.refl al w).alloc (.cells la 407)).alloc (.cells la 407);have bu:=oF w (.cells la 407) (.cells la 407);have bt:=nM w (.cells la 407) (.cells la 407);revert aY bu bt;generalize(w.alloc (.cells la 407)).alloc (.cells la 407)=ai;generalize aH:w.1.size=g;intro aY bu bt;have Nw:la.size=64:=by rw[<-Ai];simp[aa4]
 refine di (λV f bI=>∃k,k<=64/\V=64 - k/\f 0=v/\f 2=az g/\f 3=.pointer (some ⟨g+1,0,none⟩)/\f 7=aa k/\
  H al w bI/\bI.1[g]? =some (.cells la 407 (0,0))/\bI.1[g+1]? =some (.cells (xh (FK b k)).toArray 407 (0,0))) 64
  ⟨0,by omega,rfl,by simp,by simp,by simp,by simp,aY,bu,by rw[show FK b 0=List.replicate 64 0 from rfl,Ai];exact bt⟩ ?_
 rintro cQ bJ _ f bI ⟨k,r,rfl,f0,bg,bR,bQ,Z,bu,oQ⟩;by_cases ar6:k<64
 ·have eo:(k:Int)<64:=by omega
  have ej:IntKind.i64.wrap ((k:Int)+1)=((k+1:Nat):Int):=by simp[cz];omega
  have aIB:bC bI v 64 (br b):=aA.ch Z λ_ _ e=>e;have CO:=aIy b ar6;have Vg:=λi=>dJ oQ i;have fo:bI.cell? ⟨g+1,k,none⟩=some (.int .u32 (0:Nat)):=by
   rw[aG oQ];refine ahO ?_;unfold FK;rw[DV (by rw[HV];omega),HV,DW,be (by omega)]
  have bU:∀(x:Nat) (f':Nat->N),(if k<16 then Nv b k else sL (np b k) k)=x->f' 0=v->f' 2=az g->f' 3=.pointer (some ⟨g+1,0,none⟩)->f' 7=aa ((k+1:Nat):Int)->cQ (64 -(k+1)) f' (bI.setCell ⟨g+1,k,none⟩ (.int .u32 x)).drew:=λx f' W a0 a2 a3 L_=>by
   refine bJ _ _ _ ⟨k+1,by omega,rfl,a0,a2,a3,L_,(Z.setCell (.inr (by grind)) _).drew,?_,?_⟩
   ·rw[xd,wH _ _ _ _ (by show g≠g+1;omega),bu]
   ·rw[xd,eU,oQ,fU,ar2,<-W,CO]
  have De:∀(x:Nat) (f':Nat->N),(if k<16 then Nv b k else sL (np b k) k)=x->f' 0=v->f' 2=az g->f' 3=.pointer (some ⟨g+1,0,none⟩)->f' 7=aa ((k+1:Nat):Int)->cQ (64 -(k+1)) f' (bI.setCell ⟨g+1,k,none⟩ (.int .u32 x)).drew.drew:=λx f' W a0 a2 a3 L_=>by
   refine bJ _ _ _ ⟨k+1,by omega,rfl,a0,a2,a3,L_,(Z.setCell (.inr (by grind)) _).drew.drew,?_,?_⟩
   ·rw[xd,xd,wH _ _ _ _ (by show g≠g+1;omega),bu]
   ·rw[xd,xd,eU,oQ,fU,ar2,<-W,CO]
  clear bJ;by_cases aIC:k<16
  ·have ahP:(k:Int)<16:=by omega
   have lI:∀j:Nat,j<4->∃a,(∀w',(Instr.indexAt 101 v (aa (4*(k:Int)+(j:Int)))).run prog w'=.ok (.pointer (some a)) w')/\bI.cell? a=some (.int .u8 (no b (4*k+j):Int)):=λj I=>by
    have Z:b[4*k+j]? =some (b.getD (4*k+j) 0):=by rw[lk,d_ (by omega)];rfl
    obtain⟨a,J,T,_⟩:=aIB.at lE (by rw[eO,ab]) (u:=.int .u8 (b.getD (4*k+j) 0).toNat) (ar7 Z);refine⟨a,λw'=> ?_,T⟩
    grind
   obtain⟨a0,mQ,kx⟩:=lI 0 (by omega);obtain⟨a1,oY,es⟩:=lI 1 (by omega);obtain⟨a2,jH,cX⟩:=lI 2 (by omega);obtain⟨a3,Ah,iq⟩:=lI 3 (by omega);replace mQ:∀w',(Instr.indexAt 101 v (aa (4*(k:Int)))).run prog w'=.ok (.pointer (some a0)) w':=λw'=>by
    grind
   replace oY:∀w',(Instr.indexAt 101 v (aa (4*(k:Int)+1))).run prog w'=.ok (.pointer (some a1)) w':=oY;replace jH:∀w',(Instr.indexAt 101 v (aa (4*(k:Int)+2))).run prog w'=.ok (.pointer (some a2)) w':=jH;replace Ah:∀w',(Instr.indexAt 101 v (aa (4*(k:Int)+3))).run prog w'=.ok (.pointer (some a3)) w':=Ah;have nX:IntKind.i64.wrap (4*(k:Int))=4*(k:Int):=by rw[cz];omega
   have si:IntKind.i64.wrap (4*(k:Int)+1)=4*(k:Int)+1:=by rw[cz];omega
   have cf:IntKind.i64.wrap (4*(k:Int)+2)=4*(k:Int)+2:=by rw[cz];omega
   have wD:IntKind.i64.wrap (4*(k:Int)+3)=4*(k:Int)+3:=by rw[cz];omega
   obtain⟨hE,xK⟩:=aD (no b (4*k));obtain⟨cC,vw⟩:=aD (no b (4*k+1));obtain⟨cj,qN⟩:=aD (no b (4*k+2));obtain⟨cp,Nx⟩:=aD (no b (4*k+3));rw[Ec,xK]at kx;rw[vw]at es;rw[qN]at cX;rw[Nx]at iq;have tb:hE<256:=by rw[<-xK];exact KQ _ _
   have mx:cC<256:=by rw[<-vw];exact KQ _ _
   have lh:cj<256:=by rw[<-qN];exact KQ _ _
   have qL:cp<256:=by rw[<-Nx];exact KQ _ _
   have tB:IntKind.u32.wrap (hE:Int)=hE:=by rw[ve];omega
   have gw:IntKind.u32.wrap (cC:Int)=cC:=by rw[ve];omega
   have u2:IntKind.u32.wrap (cj:Int)=cj:=by rw[ve];omega
   have jl:IntKind.u32.wrap (cp:Int)=cp:=by rw[ve];omega
   have aM:bits .or .u32 (bits .or .u32 (bits .or .u32 (IntKind.u32.wrap ((hE:Int)*16777216)) (IntKind.u32.wrap ((cC:Int)*65536))) (IntKind.u32.wrap ((cj:Int)*256))) (cp:Int)=((Nv b k:Nat):Int):=by
    have wo:IntKind.u32.wrap ((hE:Int)*16777216)=((hE*16777216:Nat):Int):=by rw[ve];omega
    have bK:IntKind.u32.wrap ((cC:Int)*65536)=((cC*65536:Nat):Int):=by rw[ve];omega
    have cR:IntKind.u32.wrap ((cj:Int)*256)=((cj*256:Nat):Int):=by rw[ve];omega
    have nL:hE*16777216|||cC*65536<4294967296:=BZ (n:=32) (by omega) (by omega);have hr:(hE*16777216|||cC*65536)|||cj*256<4294967296:=BZ (n:=32) nL (by omega);rw[wo,bK,cR,Xi _ _ (by omega) (by omega),Xi _ _ nL (by omega),Xi _ _ hr (by omega)];unfold Nv;rw[xK,vw,qN,Nx]
   simp[go_sem,bQ,eo,ahP];refine cT [F 0,F 1,F 2,F 3,F 4,F 5,F 6,F 7,F 8,F 9,F 10,F 11,F 12,F 13,F 14,F 15,F 16,F 17,F 18,F 19,F 20,F 21,F 22,F 23,F 24,F 25,F 26,F 27,F 28,F 29,F 30,F 31,F 32,F 33,F 34,(35,some [])] ?_;simp[go_sem,f0,bR,bQ,nX,si,cf,wD,mQ,oY,jH,Ah,kx,es,cX,iq,tB,gw,u2,jl,eo,aM,fo,Vg,ej];exact ct.intro _ (by omega) (bU _ _ (be aIC) (by simp[f0]) (by simp[bg]) (by simp[bR]) (by simp))
  ·have ahP:¬(k:Int)<16:=by omega
   have aa6:∀i,i<k->bI.cell? ⟨g+1,i,none⟩=some (.int .u32 ((np b k).getD i 0:Nat)):=λi ad=>by
    rw[aG oQ];exact ahO (aIz b ad)
   have aID:IntKind.i64.wrap ((k:Int) - 15)=((k - 15:Nat):Int):=by rw[cz];omega
   have cf:IntKind.i64.wrap ((k:Int) - 2)=((k - 2:Nat):Int):=by rw[cz];omega
   have Vy:IntKind.i64.wrap ((k:Int) - 16)=((k - 16:Nat):Int):=by rw[cz];omega
   have Vz:IntKind.i64.wrap ((k:Int) - 7)=((k - 7:Nat):Int):=by rw[cz];omega
   have aIE:((k - 15:Nat):Int)<64:=by omega
   have fl:((k - 2:Nat):Int)<64:=by omega
   have VA:((k - 16:Nat):Int)<64:=by omega
   have EH:((k - 7:Nat):Int)<64:=by omega
   obtain⟨BK,ahQ⟩:=aD ((np b k).getD (k - 15) 0);obtain⟨cX,yY⟩:=aD ((np b k).getD (k - 2) 0);obtain⟨ar8,ahR⟩:=aD ((np b k).getD (k - 16) 0);obtain⟨Kn,FC⟩:=aD ((np b k).getD (k - 7) 0);have ar9:=aa6 (k - 15) (by omega);have fv:=aa6 (k - 2) (by omega);have QX:=aa6 (k - 16) (by omega);have QY:=aa6 (k - 7) (by omega);rw[ahQ]at ar9;rw[yY]at fv;rw[ahR]at QX;rw[FC]at QY;have aa7:BK<4294967296:=by rw[<-ahQ];exact aa5 b (by omega)
   have lh:cX<4294967296:=by rw[<-yY];exact aa5 b (by omega)
   have aSA:ar8<4294967296:=by rw[<-ahR];exact aa5 b (by omega)
   have aSB:Kn<4294967296:=by rw[<-FC];exact aa5 b (by omega)
   simp[go_sem,bQ,eo,ahP];refine cT [F 0,F 1,F 2,F 3,F 4,F 5,F 6,F 7,F 8,F 9] ?_;simp[go_sem,bR,bQ,aID,cf,aIE,fl,ar9,fv];refine cT [F 0,F 1,F 2,F 3,F 4,F 5,F 7,F 10,F 11,F 14,F 15,F 16,F 17,F 19,F 21,F 24,F 25,(6,some [0,1,2,3,4,7,10,11,14,15,16,17,19,21,24,25]),(8,some [0,1,2,3,4,10,11,14,15,16,17,19,21,24,25]),F 9,F 12,F 13,F 18,(20,some [0,1,2,3,4,10,11,14,15,16,17,21,24,25,9,12,13,18]),(22,some [0,1,2,3,4,10,11,14,15,16,17,24,25,9,12,13,18]),F 23,F 26,F 27,F 28,(29,some [])] ?_;simp[go_sem,bR,bQ,Vy,Vz,VA,EH,QX,QY];refine(D_ BK 7 _ aa7 (by decide) (by decide)).mono ?_;rintro _ _ ⟨rfl,rfl⟩;simp[go_sem,bR,bQ,Vy,Vz,VA,EH,QX,QY];refine(D_ BK 18 _ aa7 (by decide) (by decide)).mono ?_;rintro _ _ ⟨rfl,rfl⟩;simp[go_sem,bR,bQ,Vy,Vz,VA,EH,QX,QY];refine(D_ cX 17 _ lh (by decide) (by decide)).mono ?_;rintro _ _ ⟨rfl,rfl⟩;simp[go_sem,bR,bQ,Vy,Vz,VA,EH,QX,QY];refine(D_ cX 19 _ lh (by decide) (by decide)).mono ?_;rintro _ _ ⟨rfl,rfl⟩;simp[go_sem,bR,bQ,Vy,Vz,VA,EH,QX,QY,eo,fo,Vg,ej];have aM:IntKind.u32.wrap (IntKind.u32.wrap (IntKind.u32.wrap ((ar8:Int)+bits .xor .u32 (bits .xor .u32 (li BK 7:Int) (li BK 18)) ((BK:Int) / 8))+Kn)+bits .xor .u32 (bits .xor .u32 (li cX 17:Int) (li cX 19)) ((cX:Int) / 1024))=((sL (np b k) k:Nat):Int):=by
    have hf:=DZ BK 7 aa7;have eI:=DZ BK 18 aa7;have jd:=DZ cX 17 lh;have fQ:=DZ cX 19 lh;have hw:li BK 7^^^li BK 18<4294967296:=Lt (n:=32) hf eI;have vj:li cX 17^^^li cX 19<4294967296:=Lt (n:=32) jd fQ;have mv:(BK:Int) / 8=((BK / 8:Nat):Int):=by omega
    have ue:(cX:Int) / 1024=((cX / 1024:Nat):Int):=by omega
    rw[AA _ _ hf eI,AA _ _ jd fQ,mv,ue,AA _ _ hw (by omega),AA _ _ vj (by omega),Dx,Dx,Dx];unfold sL;rw[ahQ,yY,ahR,FC];rfl
   rw[aM];exact ct.intro _ (by omega) (De _ _ (aQ (by omega)) (by simp[f0]) (by simp[bg]) (by simp[bR]) (by simp))
 ·obtain rfl:k=64:=by omega
  have VB:(xh (np b 64)).toArray.size=64:=by simp[aa4,HV]
  obtain⟨bw,jm⟩:=aD ((xh (np b 64)).toArray);have Ny:jx bw=true:=by rw[<-jm];exact ar1 _
  rw[show FK b 64=np b 64 by simp[FK]]at oQ;rw[jm]at oQ VB af;have aIF:bw.extract 0 64=bw:=by rw[show(64:Nat)=bw.size from VB.symm];simp
  have qj:(bI.setRow g bw).1[g]? =some (.cells bw 407 (0,0)):=by rw[gh,bu];rfl
  simp[go_sem,bg,bR,bQ,oQ,VB,aIF,bu,Nw,Ny,bS,qj];exact af _ _ ⟨rfl,Z.setRow (g:=g) (.inr (by omega)) _⟩
attribute [irreducible] np
def LQ:List Nat:=[1116352408,1899447441,3049323471,3921009573,961987163,1508970993,2453635748,2870763221,3624381080,310598401,607225278,1426881987,1925078388,2162078206,2614888103,3248222580,3835390401,4022224774,264347078,604807628,770255983,1249150122,1555081692,1996064986,2554220882,2821834349,2952996808,3210313671,3336571891,3584528711,113926993,338241895,666307205,773529912,1294757372,1396182291,1695183700,1986661051,2177026350,2456956037,2730485921,2820302411,3259730800,3345764771,3516065817,3600352804,4094571909,275423344,430227734,506948616,659060556,883997877,958139571,1322822218,1537002063,1747873779,1955562222,2024104815,2227730452,2361852424,2428436474,2756734187,3204031479,3329325298]
def jz(w:M):Prop:=∀i,i<64->w.cell? (bl 3 i)=some (.int .u32 (LQ.getD i 0:Nat))
theorem jz.ch{S:Nat->Prop}{w w':M}(h:jz w)(Z:H S w w')(aq:¬S 3):jz w':=λi ad=>Z.cell (h i ad) aq
structure hj where
 a:Nat
 b:Nat
 c:Nat
 d:Nat
 e:Nat
 f:Nat
 g:Nat
 h:Nat
deriving DecidableEq
def mN(s:hj):Array N:=#[.int .u32 s.a,.int .u32 s.b,.int .u32 s.c,.int .u32 s.d,.int .u32 s.e,.int .u32 s.f,.int .u32 s.g,.int .u32 s.h]
structure yv(s:hj):Prop where
 a:s.a<4294967296
 b:s.b<4294967296
 c:s.c<4294967296
 d:s.d<4294967296
 e:s.e<4294967296
 f:s.f<4294967296
 g:s.g<4294967296
 h:s.h<4294967296
def ar_(x:Nat):Nat:=(li x 6^^^li x 11)^^^li x 25
def ar'(x:Nat):Nat:=(li x 2^^^li x 13)^^^li x 22
def asa(e f g:Nat):Nat:=(e&&&f)^^^((4294967295^^^e)&&&g)
def asb(a b c:Nat):Nat:=((a&&&b)^^^(a&&&c))^^^(b&&&c)
def Nz(s:hj)(k w:Nat):Nat:=kr (kr (kr (kr s.h (ar_ s.e)) (asa s.e s.f s.g)) k) w
def VC(s:hj):Nat:=kr (ar' s.a) (asb s.a s.b s.c)
def aa8(s:hj)(k w:Nat):hj:=⟨kr (Nz s k w) (VC s),s.a,s.b,s.c,kr s.d (Nz s k w),s.e,s.f,s.g⟩
theorem aIG{s:hj}(ok:yv s)(k w:Nat):yv (aa8 s k w):=⟨Dw _ _,ok.a,ok.b,ok.c,Dw _ _,ok.e,ok.f,ok.g⟩
def oi(Y:List Nat):Nat->hj->hj
 |0,s=>s
 |k+1,s=>aa8 (oi Y k s) (LQ.getD k 0) (Y.getD k 0)
theorem asc{s:hj}(ok:yv s)(Y:List Nat)(k:Nat):yv (oi Y k s):=by
 induction k with
 |zero=>exact ok
 |succ k bL=>exact aIG bL _ _
def ahS(s V:hj):hj:=⟨kr s.a V.a,kr s.b V.b,kr s.c V.c,kr s.d V.d,kr s.e V.e,kr s.f V.f,kr s.g V.g,kr s.h V.h⟩
def BL(s:hj)(b:List UInt8):hj:=ahS s (oi (np b 64) 64 s)
theorem asd(s:hj)(b:List UInt8):yv (BL s b):=⟨Dw _ _,Dw _ _,Dw _ _,Dw _ _,Dw _ _,Dw _ _,Dw _ _,Dw _ _⟩
def HW(s V:hj)(k:Nat):hj:=⟨if 0<k then kr s.a V.a else s.a,if 1<k then kr s.b V.b else s.b,if 2<k then kr s.c V.c else s.c,if 3<k then kr s.d V.d else s.d,if 4<k then kr s.e V.e else s.e,if 5<k then kr s.f V.f else s.f,if 6<k then kr s.g V.g else s.g,if 7<k then kr s.h V.h else s.h⟩
theorem aIH(s V:hj):HW s V 8=ahS s V:=rfl
theorem aII(kM oe og rd lc t' rg yw df HX:Nat)(xi:lc<4294967296)(lf:t'<4294967296)(VD:rg<4294967296):
  IntKind.u32.wrap (IntKind.u32.wrap (IntKind.u32.wrap (IntKind.u32.wrap ((yw:Int)+bits .xor .u32 (bits .xor .u32 (li lc 6:Int) (li lc 11)) (li lc 25))+bits .xor .u32 (bits .and .u32 (lc:Int) t') (bits .and .u32 (bits .xor .u32 (if IntKind.u32.signed=true then(-1:Int)else IntKind.u32.max) lc) rg))+df)+HX)=(Nz ⟨kM,oe,og,rd,lc,t',rg,yw⟩ df HX:Int):=by
 have es:=DZ lc 6 xi;have cX:=DZ lc 11 xi;have iq:=DZ lc 25 xi;have vk:li lc 6^^^li lc 11<4294967296:=Lt (n:=32) es cX;have n0:(4294967295:Nat)<4294967296:=by omega
 have iW:(4294967295^^^lc)<4294967296:=Lt (n:=32) n0 xi;have kh:lc&&&t'<4294967296:=Ls (n:=32) _ lf;have jP:(4294967295^^^lc)&&&rg<4294967296:=Ls (n:=32) _ VD;have Mk:(if IntKind.u32.signed=true then(-1:Int)else IntKind.u32.max)=((4294967295:Nat):Int):=by simp[IntKind.signed,IntKind.max,IntKind.bits]
 rw[Mk,AA _ _ es cX,AA _ _ vk iq,RZ _ _ xi lf,AA _ _ n0 xi,RZ _ _ iW VD,AA _ _ kh jP,Dx,Dx,Dx,Dx];simp only[Nz,ar_,asa]
theorem aIJ(kM oe og rd lc t' rg yw:Nat)(hu:kM<4294967296)(lb:oe<4294967296)(NA:og<4294967296):
  IntKind.u32.wrap (bits .xor .u32 (bits .xor .u32 (li kM 2:Int) (li kM 13)) (li kM 22)+bits .xor .u32 (bits .xor .u32 (bits .and .u32 (kM:Int) oe) (bits .and .u32 (kM:Int) og)) (bits .and .u32 (oe:Int) og))=(VC ⟨kM,oe,og,rd,lc,t',rg,yw⟩:Int):=by
 have fh:=DZ kM 2 hu;have fv:=DZ kM 13 hu;have iY:=DZ kM 22 hu;have oz:li kM 2^^^li kM 13<4294967296:=Lt (n:=32) fh fv;have gD:kM&&&oe<4294967296:=Ls (n:=32) _ lb;have gc:kM&&&og<4294967296:=Ls (n:=32) _ NA;have jT:oe&&&og<4294967296:=Ls (n:=32) _ NA;have qd:(kM&&&oe)^^^(kM&&&og)<4294967296:=Lt (n:=32) gD gc;rw[AA _ _ fh fv,AA _ _ oz iY,RZ _ _ hu lb,RZ _ _ hu NA,RZ _ _ lb NA,AA _ _ gD gc,AA _ _ qd jT,Dx];simp only[VC,ar',asb]
theorem aIK(kM oe og rd lc t' rg yw df HX:Nat):aa8 ⟨kM,oe,og,rd,lc,t',rg,yw⟩ df HX=⟨kr (Nz ⟨kM,oe,og,rd,lc,t',rg,yw⟩ df HX) (VC ⟨kM,oe,og,rd,lc,t',rg,yw⟩),kM,oe,og,kr rd (Nz ⟨kM,oe,og,rd,lc,t',rg,yw⟩ df HX),lc,t',rg⟩:=rfl
theorem aIL(Y:List Nat)(k:Nat)(s:hj):oi Y (k+1) s=aa8 (oi Y k s) (LQ.getD k 0) (Y.getD k 0):=rfl
theorem aIM(s V:hj){j:Nat}(I:j<8):∃x y:Nat,#[Value.int .u32 V.a,Value.int .u32 V.b,Value.int .u32 V.c,Value.int .u32 V.d,Value.int .u32 V.e,Value.int .u32 V.f,Value.int .u32 V.g,Value.int .u32 V.h][j]? =some (.int .u32 y)/\(mN (HW s V j))[j]? =some (.int .u32 x)/\(mN (HW s V j)).setIfInBounds j (.int .u32 (kr x y))=mN (HW s V (j+1)):=by
 match j,I with
 |0,_=>exact⟨s.a,V.a,rfl,rfl,rfl⟩
 |1,_=>exact⟨s.b,V.b,rfl,rfl,rfl⟩
 |2,_=>exact⟨s.c,V.c,rfl,rfl,rfl⟩
 |3,_=>exact⟨s.d,V.d,rfl,rfl,rfl⟩
 |4,_=>exact⟨s.e,V.e,rfl,rfl,rfl⟩
 |5,_=>exact⟨s.f,V.f,rfl,rfl,rfl⟩
 |6,_=>exact⟨s.g,V.g,rfl,rfl,rfl⟩
 |7,_=>exact⟨s.h,V.h,rfl,rfl,rfl⟩
theorem ase(s:hj)(v:N)(b:List UInt8)(w:M)(ok:yv s)(ab:b.length=64)(aA:bC w v 64 (br b))(r:jz w):
  bc prog 239 #[.agg (mN s),v] w λv' w'=>v'=.agg (mN (BL s b))/\H al w w':=by
 refine bz func239 ntmps239 λbk af=> ?_;obtain⟨t,bj⟩:=aD (BL s b);rw[bj]at af;simp[go_sem,mN];have aY:=((H.refl al w).alloc (.cells #[.int .u32 s.a,.int .u32 s.b,.int .u32 s.c,.int .u32 s.d,.int .u32 s.e,.int .u32 s.f,.int .u32 s.g,.int .u32 s.h] 387)).alloc (.cells #[.int .u32 0,.int .u32 0,.int .u32 0,.int .u32 0,.int .u32 0,.int .u32 0,.int .u32 0,.int .u32 0] 387);have bu:=oF w (.cells #[.int .u32 s.a,.int .u32 s.b,.int .u32 s.c,.int .u32 s.d,.int .u32 s.e,.int .u32 s.f,.int .u32 s.g,.int .u32 s.h] 387) (.cells #[.int .u32 0,.int .u32 0,.int .u32 0,.int .u32 0,.int .u32 0,.int .u32 0,.int .u32 0,.int .u32 0] 387);have bt:=nM w (.cells #[.int .u32 s.a,.int .u32 s.b,.int .u32 s.c,.int .u32 s.d,.int .u32 s.e,.int .u32 s.f,.int .u32 s.g,.int .u32 s.h] 387) (.cells #[.int .u32 0,.int .u32 0,.int .u32 0,.int .u32 0,.int .u32 0,.int .u32 0,.int .u32 0,.int .u32 0] 387);revert aY bu bt;generalize(w.alloc (.cells #[.int .u32 s.a,.int .u32 s.b,.int .u32 s.c,.int .u32 s.d,.int .u32 s.e,.int .u32 s.f,.int .u32 s.g,.int .u32 s.h] 387)).alloc (.cells #[.int .u32 0,.int .u32 0,.int .u32 0,.int .u32 0,.int .u32 0,.int .u32 0,.int .u32 0,.int .u32 0] 387)=ai;generalize aH:w.1.size=g;intro aY bu bt;refine(aIA v b ai ab (aA.ch aY λ_ _ e=>e)).mono ?_;rintro _ an ⟨rfl,aK⟩;have bu:=aK.am bu id;have bt:=aK.am bt id;obtain⟨Y,fX⟩:=aD (np b 64);rw[fX];have aIN:Y.length=64:=by rw[<-fX,HV]
 have aSC:∀i,Y.getD i 0<4294967296:=λi=>by
  rw[lk]
  cases h:Y[i]? with
  |none=>decide
  |some x=>exact ar3 b 64 x (by grind)
 obtain⟨bw,jm⟩:=aD ((xh Y).toArray);have NB:bw.size=64:=by rw[<-jm];simp[aa4,aIN]
 have Ny:jx bw=true:=by rw[<-jm];exact ar1 _
 have amB:∀i,i<64->bw[i]? =some (.int .u32 (Y.getD i 0:Nat)):=λi ad=>by
  rw[<-jm];refine ahO ?_
  grind
 rw[jm];have asf:=ar5;obtain⟨la,Ai⟩:=aD ((xh (List.replicate 64 0)).toArray);rw[Ai]at asf;have Nw:la.size=64:=by rw[<-Ai];simp[aa4]
 simp[go_sem,ar4,asf,Nw,NB,Ny,bS];have aI:=(aY.trans aK).alloc (.cells bw 407);have Cm:=(H.refl al an).alloc (.cells bw 407);have dG:=cr an (.cells bw 407);have bu:=Cm.am bu id;have bt:=Cm.am bt id;have asg:=aK.size;have vw:=lt_of_block bt;clear Cm;revert aI dG bu bt vw;generalize an.alloc (.cells bw 407)=aJ;generalize Nj:an.1.size=hw;intro aI dG bu bt vw;have dk:=λi=>aG bu i;refine cT [F 0,F 1,F 2,F 3,F 4,F 5,F 6,F 7,F 8,F 9,F 10,F 11,F 12,F 13,F 14,F 15,F 16,F 17,F 18,F 19,F 20,F 21,F 22,F 23] ?_;simp[go_sem,dk];refine di (λV f bI=>∃k,k<=64/\V=64 - k/\f 2=az g/\f 4=.pointer (some ⟨g+1,0,none⟩)/\f 5=az hw/\f 37=aa k/\
  f 6=.int .u32 (oi Y k s).a/\f 7=.int .u32 (oi Y k s).b/\f 8=.int .u32 (oi Y k s).c/\f 9=.int .u32 (oi Y k s).d/\f 10=.int .u32 (oi Y k s).e/\f 11=.int .u32 (oi Y k s).f/\f 12=.int .u32 (oi Y k s).g/\f 13=.int .u32 (oi Y k s).h/\
  H al w bI/\bI.1[g]? =aJ.1[g]?/\bI.1[g+1]? =aJ.1[g+1]?/\bI.1[hw]? =aJ.1[hw]?) 64
  ⟨0,by omega,rfl,by simp,by simp,by simp,by simp,by simp[oi],by simp[oi],by simp[oi],by simp[oi],by simp[oi],by simp[oi],by simp[oi],by simp[oi],aI.drew,rfl,rfl,rfl⟩ ?_
 rintro cQ bJ _ f bI ⟨k,ar6,rfl,bg,ck,f5,ahT,f6,bQ,bB,dt,fA,gC,dj,fw,Z,bi,J,bH⟩;by_cases aO:k<64
 ·have eo:(k:Int)<64:=by omega
  have ej:IntKind.i64.wrap ((k:Int)+1)=((k+1:Nat):Int):=by simp[cz];omega
  have xb:=asc ok Y k;generalize ax:oi Y k s=V at*;obtain⟨kM,oe,og,rd,lc,t',rg,yw⟩:=V;simp only at f6 bQ bB dt fA gC dj fw;have VE:=(r.ch Z id) k aO;have VF:=(aG (bH.trans dG) k).trans (amB k aO);obtain⟨df,kZ⟩:=aD (LQ.getD k 0);obtain⟨HX,ash⟩:=aD (Y.getD k 0);rw[kZ]at VE;rw[ash]at VF;have hu:=xb.a;have lb:=xb.b;have NA:=xb.c;have xi:=xb.e;have lf:=xb.f;have VD:=xb.g;simp only at hu lb NA xi lf VD;simp[go_sem,ahT,eo];refine cT [F 0,F 1,F 3,F 6,F 10,F 11,F 12,F 13,F 14,F 15,F 16,F 17,F 19,F 20,F 21,F 23,F 24,F 25,(2,some [0,3,6,10,11,12,13,14,15,16,17,19,20,21,23,24,25]),(4,some [0,6,10,11,12,13,14,15,16,17,19,20,21,23,24,25]),F 5,(7,some [0,10,11,12,13,14,15,16,17,19,20,21,23,24,25,5]),F 8,F 9,F 18,F 22,F 26,F 27] ?_;simp[go_sem,f5,fA,gC,dj,fw,VE,VF,eo];refine(D_ lc 6 _ xi (by decide) (by decide)).mono ?_;rintro _ _ ⟨rfl,rfl⟩;simp[go_sem,f5,fA,gC,dj,fw,VE,VF,eo];refine(D_ lc 11 _ xi (by decide) (by decide)).mono ?_;rintro _ _ ⟨rfl,rfl⟩;simp[go_sem,f5,fA,gC,dj,fw,VE,VF,eo];refine(D_ lc 25 _ xi (by decide) (by decide)).mono ?_;rintro _ _ ⟨rfl,rfl⟩;simp[go_sem,f5,f6,fA,gC,dj,fw,VE,VF,eo];refine(D_ kM 2 _ hu (by decide) (by decide)).mono ?_;rintro _ _ ⟨rfl,rfl⟩;simp[go_sem,f6];refine(D_ kM 13 _ hu (by decide) (by decide)).mono ?_;rintro _ _ ⟨rfl,rfl⟩;simp[go_sem,f6];refine(D_ kM 22 _ hu (by decide) (by decide)).mono ?_;rintro _ _ ⟨rfl,rfl⟩;simp[go_sem,f6,bQ,bB,dt,fA,gC,dj,ahT,ej];obtain⟨bv,lv⟩:=aD (Nz ⟨kM,oe,og,rd,lc,t',rg,yw⟩ df HX);obtain⟨U,zX⟩:=aD (VC ⟨kM,oe,og,rd,lc,t',rg,yw⟩);have ahU:=aII kM oe og rd lc t' rg yw df HX xi lf VD;rw[lv]at ahU;have ahV:=aIJ kM oe og rd lc t' rg yw hu lb NA;rw[zX]at ahV;have tI:oi Y (k+1) s=⟨kr bv U,kM,oe,og,kr rd bv,lc,t',rg⟩:=by
   rw[aIL,ax,kZ,ash,aIK,lv,zX]
  refine ct.intro (64 -(k+1)) (by omega) (bJ _ _ _ ⟨k+1,by omega,rfl,by simp[bg],by simp[ck],by simp[f5],by simp,by rw[tI];simp[ahU,ahV,Dx],by rw[tI];simp,by rw[tI];simp,by rw[tI];simp,by rw[tI];simp[ahU,ahV,Dx],by rw[tI];simp,by rw[tI];simp,by rw[tI];simp,Z.drew,bi,J,bH⟩)
 ·obtain rfl:k=64:=by omega
  have xb:=asc ok Y 64;have wW:BL s b=ahS s (oi Y 64 s):=by unfold BL;rw[fX]
  generalize ax:oi Y 64 s=V at*;have bu:=bi.trans bu;have bt:=J.trans bt;have aq:∀a b:Nat,IntKind.u32.wrap ((a:Int)+b)=(kr a b:Int):=Dx;simp[go_sem,f6,bQ,bB,dt,fA,gC,dj,fw,ahT];refine di (λOU f' u=>∃j,j<=8/\OU=8 - j/\f' 2=az g/\f' 4=.pointer (some ⟨g+1,0,none⟩)/\f' 108=.agg #[.int .u32 V.a,.int .u32 V.b,.int .u32 V.c,.int .u32 V.d,.int .u32 V.e,.int .u32 V.f,.int .u32 V.g,.int .u32 V.h]/\f' 109=aa j/\
   H al w u/\u.1[g]? =some (.cells (mN (HW s V j)) 387 (0,0))/\u.1[g+1]? =bI.1[g+1]?) 8
   ⟨0,by omega,rfl,by simp[bg],by simp[ck],by simp,by simp,Z,by simpa[mN,HW]using bu,rfl⟩ ?_
  rintro cQ bJ _ f' u ⟨j,I,rfl,cj,cy,asi,asj,ahW,hT,cZ⟩;by_cases aa9:j<8
  ·have ly:(j:Int)<8:=by omega
   have dk:=λi=>aG hT i;have z0:=λi=>dJ hT i;have hD:∀(x:Nat) vs,(mN (HW s V j)).setIfInBounds j (.int .u32 x)=mN (HW s V (j+1))->vs 2=az g->vs 4=.pointer (some ⟨g+1,0,none⟩)->vs 108=.agg #[.int .u32 V.a,.int .u32 V.b,.int .u32 V.c,.int .u32 V.d,.int .u32 V.e,.int .u32 V.f,.int .u32 V.g,.int .u32 V.h]->vs 109=aa ((j+1:Nat):Int)->cQ (8 -(j+1)) vs (u.setCell ⟨g,j,none⟩ (.int .u32 x)):=λx vs W a2 a4 aIO aIP=>
    bJ _ _ _ ⟨j+1,by omega,rfl,a2,a4,aIO,aIP,ahW.setCell (.inr (by show w.1.size<=g;omega)) _,by rw[eU,hT,fU,W],by rw[wH _ _ _ _ (by show g+1≠g;omega),cZ]⟩
   clear bJ;obtain⟨x,y,hf,eI,jd⟩:=aIM s V aa9;have pB:=λw=>IF (P:=prog) (kd:=.i64) underlying387 Tryz.sizeOf40 Tryz.isAgg40 aa9 hf w;have fQ:=(dk j).trans eI;have hN:IntKind.i64.wrap ((j:Int)+1)=((j+1:Nat):Int):=by simp[cz];omega
   simp[go_sem,cj,asi,asj,pB,fQ,z0,aq,ly,hN];exact ct.intro _ (by omega) (hD _ _ jd (by simp[cj]) (by simp[cy]) (by simp[asi]) (by simp))
  ·obtain rfl:j=8:=by omega
   have Ba:HW s V 8=t:=by rw[<-bj,wW];exact aIH s V
   rw[Ba]at hT;have cZ:=cZ.trans bt;have dk:=λi=>aG hT i;have aL:=λi=>aG cZ i;have pk:=λi=>dJ cZ i;simp[go_sem,cj,cy,asj,dk,aL,pk,mN];exact af _ _ ⟨rfl,(((((((ahW.setCell (p:=⟨g+1,0,none⟩) (.inr (by show w.1.size<=g+1;omega)) _).setCell (p:=⟨g+1,1,none⟩) (.inr (by show w.1.size<=g+1;omega)) _).setCell (p:=⟨g+1,2,none⟩) (.inr (by show w.1.size<=g+1;omega)) _).setCell (p:=⟨g+1,3,none⟩) (.inr (by show w.1.size<=g+1;omega)) _).setCell (p:=⟨g+1,4,none⟩) (.inr (by show w.1.size<=g+1;omega)) _).setCell (p:=⟨g+1,5,none⟩) (.inr (by show w.1.size<=g+1;omega)) _).setCell (p:=⟨g+1,6,none⟩) (.inr (by show w.1.size<=g+1;omega)) _).setCell (p:=⟨g+1,7,none⟩) (.inr (by grind)) _⟩
attribute [irreducible] BL oi
end Go.Proofs.YtoohkhcpboldjaaGreatDoor
