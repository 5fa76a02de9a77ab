/- A piece taken in: package sha's take, as a contract on the call. Condition: the variable sha.constants holds what the text lays. -/
import Derived.Test.YtoohkhcpboldjaaGreatDoorAncA
set_option linter.unusedSimpArgs false
set_option linter.unusedVariables false
namespace Go.Proofs.YtoohkhcpboldjaaGreatDoor
open Go.RowKit Go.Kin
def uA(l:List Nat):List Value:=l.map λn:Nat=>Value.int .u32 n
theorem UB(l:List Nat):(uA l).length=l.length:=List.length_map ..
@[simp] theorem aj7(l:List Nat):jT (uA l).toArray=true:=yC (by
 intro u an;obtain⟨c,_,rfl⟩:=List.mem_map.1 an;rfl)
theorem aa'{l:List Nat}{i x:Nat}(h:l[i]? =some x):(uA l).toArray[i]? =some (.int .u32 x):=by
 rw[List.getElem?_toArray,uA,List.getElem?_map,h];rfl
theorem aj8(l:List Nat)(i x:Nat):(uA l).toArray.setIfInBounds i (.int .u32 x)=(uA (l.set i x)).toArray:=by
 apply Array.ext';simp[uA,List.map_set]
def jz(a b:Nat):Nat:=(a+b)%4294967296
theorem Ad(a b:Nat):jz a b<4294967296:=Nat.mod_lt _ (by decide)
theorem Ae(a b:Nat):IntKind.u32.wrap ((a:Int)+b)=(jz a b:Int):=by
 rfl
def B'(b:List UInt8)(i:Nat):Nat:=(b.getD i 0).toNat
theorem FV(b:List UInt8)(i:Nat):B' b i<256:=UInt8.toNat_lt _
def Ii(b:List UInt8)(i:Nat):Nat:=((B' b (4*i)*16777216|||B' b (4*i+1)*65536)|||B' b (4*i+2)*256)|||B' b (4*i+3)
theorem azt(b:List UInt8)(i:Nat):Ii b i<4294967296:=by
 have bf:=FV b (4*i);have H:=FV b (4*i+1);have I:=FV b (4*i+2);have af:=FV b (4*i+3);exact Nat.or_lt_two_pow (n:=32) (Nat.or_lt_two_pow (Nat.or_lt_two_pow (by omega) (by omega)) (by omega)) (by omega)
def azu(x:Nat):Nat:=(kg x 7^^^kg x 18)^^^(x / 8)
def azv(x:Nat):Nat:=(kg x 17^^^kg x 19)^^^(x / 1024)
def Lk(N:List Nat)(k:Nat):Nat:=jz (jz (jz (N.getD (k - 16) 0) (azu (N.getD (k - 15) 0))) (N.getD (k - 7) 0)) (azv (N.getD (k - 2) 0))
def mj(b:List UInt8):Nat->List Nat
 |0=>[]
 |k+1=>mj b k++[if k<16 then Ii b k else Lk (mj b k) k]
theorem DK(b:List UInt8)(k:Nat):(mj b k).length=k:=by
 induction k with
 |zero=>rfl
 |succ k bG=>simp[mj,bG]
theorem aj9(b:List UInt8)(k:Nat):∀x∈mj b k,x<4294967296:=by
 induction k with
 |zero=>simp[mj]
 |succ k bG=>
  intro x M;simp only[mj,List.mem_append,List.mem_singleton]at M;rcases M with M|rfl
  ·exact bG x M
  ·split
   ·exact azt _ _
   ·exact Ad _ _
def Ca(b:List UInt8)(k:Nat):List Nat:=mj b k++List.replicate (64 - k) 0
theorem azw(b:List UInt8){k:Nat}(h:k<64):(Ca b k).set k (if k<16 then Ii b k else Lk (mj b k) k)=Ca b (k+1):=by
 unfold Ca;rw[List.set_append_right _ _ (by rw[DK];omega),DK,Nat.sub_self,show 64 - k=(64 -(k+1))+1 by omega,List.replicate_succ,List.set_cons_zero];simp[mj]
theorem azx(b:List UInt8){k i:Nat}(h:i<k):(Ca b k)[i]? =some ((mj b k).getD i 0):=by
 unfold Ca;rw[List.getElem?_append_left (by rw[DK];exact h),List.getD_eq_getElem?_getD,List.getElem?_eq_getElem (by rw[DK];exact h)];rfl
theorem UC(b:List UInt8){k i:Nat}(h:i<k):(mj b k).getD i 0<4294967296:=by
 rw[List.getD_eq_getElem?_getD,List.getElem?_eq_getElem (by rw[DK];exact h)];exact aj9 b k _ (List.getElem_mem _)
theorem aj_:(Tryz.prog.info? 407).map (λi=>i.zero.isSome)=some true:=by kernel_rfl
theorem aj':ln Tryz.prog 407=(uA (List.replicate 64 0)).toArray:=by kernel_rfl
theorem azy(v:Value)(b:List UInt8)(w:World)(V:b.length=64)(aw:bD w v 64 (bm b)):
  aP Tryz.prog 261 #[v] w λW w'=>W=.agg (uA (mj b 64)).toArray/\D ak w w':=by
 refine bn Tryz.func261 Tryz.ntmps261 λaZ Z=> ?_;obtain⟨kb,wP⟩:=az ((uA (List.replicate 64 0)).toArray);have yF:=aj';rw[wP]at yF;simp[go_sem,aj_,yF];have aI:=((D.refl ak w).alloc (.cells kb 407)).alloc (.cells kb 407);have bj:=oa w (.cells kb 407) (.cells kb 407);have ba:=ny w (.cells kb 407) (.cells kb 407);revert aI bj ba;generalize(w.alloc (.cells kb 407)).alloc (.cells kb 407)=ab;generalize aF:w.1.size=g;intro aI bj ba;have Ij:kb.size=64:=by rw[<-wP];simp[UB]
 refine du (λJ f bE=>∃k,k<=64/\J=64 - k/\f 0=v/\f 2=.pointer (some ⟨g,0,none⟩)/\f 3=.pointer (some ⟨g+1,0,none⟩)/\f 7=.int .i64 k/\
  D ak w bE/\bE.1[g]? =some (.cells kb 407 (0,0))/\bE.1[g+1]? =some (.cells (uA (Ca b k)).toArray 407 (0,0))) 64
  ⟨0,by omega,rfl,by simp,by simp,by simp,by simp,aI,bj,by rw[show Ca b 0=List.replicate 64 0 from rfl,wP];exact ba⟩ ?_
 rintro cJ bK _ f bE ⟨k,r,rfl,f0,bh,bV,cg,T,bj,nq⟩;by_cases aka:k<64
 ·have ea:(k:Int)<64:=by omega
  have eo:IntKind.i64.wrap ((k:Int)+1)=((k+1:Nat):Int):=by simp[IntKind.wrap_i64];omega
  have azz:bD bE v 64 (bm b):=aw.ch T λ_ _ e=>e;have zj:=azw b aka;have akb:=λi=>dD nq i;have hR:bE.cell? ⟨g+1,k,none⟩=some (.int .u32 (0:Nat)):=by
   rw[aG nq];refine aa' ?_;unfold Ca;rw[List.getElem?_append_right (by rw[DK];omega),DK,List.getElem?_replicate,if_pos (by omega)]
  have bL:∀(x:Nat) (f':Nat->Value),(if k<16 then Ii b k else Lk (mj b k) k)=x->f' 0=v->f' 2=.pointer (some ⟨g,0,none⟩)->f' 3=.pointer (some ⟨g+1,0,none⟩)->f' 7=.int .i64 ((k+1:Nat):Int)->cJ (64 -(k+1)) f' (bE.setCell ⟨g+1,k,none⟩ (.int .u32 x)).drew:=λx f' M a0 a2 a3 Le=>by
   refine bK _ _ _ ⟨k+1,by omega,rfl,a0,a2,a3,Le,(T.setCell (.inr (by grind)) _).drew,?_,?_⟩
   ·rw[ye,t_ _ _ _ _ (by show g≠g+1;omega),bj]
   ·rw[ye,eY,nq,gp,aj8,<-M,zj]
  have zJ:∀(x:Nat) (f':Nat->Value),(if k<16 then Ii b k else Lk (mj b k) k)=x->f' 0=v->f' 2=.pointer (some ⟨g,0,none⟩)->f' 3=.pointer (some ⟨g+1,0,none⟩)->f' 7=.int .i64 ((k+1:Nat):Int)->cJ (64 -(k+1)) f' (bE.setCell ⟨g+1,k,none⟩ (.int .u32 x)).drew.drew:=λx f' M a0 a2 a3 Le=>by
   refine bK _ _ _ ⟨k+1,by omega,rfl,a0,a2,a3,Le,(T.setCell (.inr (by grind)) _).drew.drew,?_,?_⟩
   ·rw[ye,ye,t_ _ _ _ _ (by show g≠g+1;omega),bj]
   ·rw[ye,ye,eY,nq,gp,aj8,<-M,zj]
  clear bK;by_cases azA:k<16
  ·have aba:(k:Int)<16:=by omega
   have DB:∀j:Nat,j<4->∃a,(∀w',(Instr.indexAt 101 v (.int .i64 (4*(k:Int)+(j:Int)))).run Tryz.prog w'=.ok (.pointer (some a)) w')/\bE.cell? a=some (.int .u8 (B' b (4*k+j):Int)):=λj F=>by
    have T:b[4*k+j]? =some (b.getD (4*k+j) 0):=by rw[List.getD_eq_getElem?_getD,List.getElem?_eq_getElem (by omega)];rfl
    obtain⟨a,H,I,_⟩:=azz.at kB (by rw[eB,V]) (u:=.int .u8 (b.getD (4*k+j) 0).toNat) (akc T);refine⟨a,λw'=> ?_,I⟩
    grind
   obtain⟨a0,nv,lZ⟩:=DB 0 (by omega);obtain⟨a1,nZ,ey⟩:=DB 1 (by omega);obtain⟨a2,n_,cZ⟩:=DB 2 (by omega);obtain⟨a3,wJ,iq⟩:=DB 3 (by omega);replace nv:∀w',(Instr.indexAt 101 v (.int .i64 (4*(k:Int)))).run Tryz.prog w'=.ok (.pointer (some a0)) w':=λw'=>by
    grind
   replace nZ:∀w',(Instr.indexAt 101 v (.int .i64 (4*(k:Int)+1))).run Tryz.prog w'=.ok (.pointer (some a1)) w':=nZ;replace n_:∀w',(Instr.indexAt 101 v (.int .i64 (4*(k:Int)+2))).run Tryz.prog w'=.ok (.pointer (some a2)) w':=n_;replace wJ:∀w',(Instr.indexAt 101 v (.int .i64 (4*(k:Int)+3))).run Tryz.prog w'=.ok (.pointer (some a3)) w':=wJ;have mJ:IntKind.i64.wrap (4*(k:Int))=4*(k:Int):=by rw[IntKind.wrap_i64];omega
   have rj:IntKind.i64.wrap (4*(k:Int)+1)=4*(k:Int)+1:=by rw[IntKind.wrap_i64];omega
   have bY:IntKind.i64.wrap (4*(k:Int)+2)=4*(k:Int)+2:=by rw[IntKind.wrap_i64];omega
   have tX:IntKind.i64.wrap (4*(k:Int)+3)=4*(k:Int)+3:=by rw[IntKind.wrap_i64];omega
   obtain⟨kv,CG⟩:=az (B' b (4*k));obtain⟨cB,xn⟩:=az (B' b (4*k+1));obtain⟨cb,oA⟩:=az (B' b (4*k+2));obtain⟨cj,PD⟩:=az (B' b (4*k+3));rw[Nat.add_zero,CG]at lZ;rw[xn]at ey;rw[oA]at cZ;rw[PD]at iq;have uO:kv<256:=by rw[<-CG];exact FV _ _
   have lm:cB<256:=by rw[<-xn];exact FV _ _
   have jD:cb<256:=by rw[<-oA];exact FV _ _
   have nT:cj<256:=by rw[<-PD];exact FV _ _
   have rn:IntKind.u32.wrap (kv:Int)=kv:=by rw[IntKind.wrap_u32];omega
   have fz:IntKind.u32.wrap (cB:Int)=cB:=by rw[IntKind.wrap_u32];omega
   have fw:IntKind.u32.wrap (cb:Int)=cb:=by rw[IntKind.wrap_u32];omega
   have io:IntKind.u32.wrap (cj:Int)=cj:=by rw[IntKind.wrap_u32];omega
   have aS:bits .or .u32 (bits .or .u32 (bits .or .u32 (IntKind.u32.wrap ((kv:Int)*16777216)) (IntKind.u32.wrap ((cB:Int)*65536))) (IntKind.u32.wrap ((cb:Int)*256))) (cj:Int)=((Ii b k:Nat):Int):=by
    have tR:IntKind.u32.wrap ((kv:Int)*16777216)=((kv*16777216:Nat):Int):=by rw[IntKind.wrap_u32];omega
    have bt:IntKind.u32.wrap ((cB:Int)*65536)=((cB*65536:Nat):Int):=by rw[IntKind.wrap_u32];omega
    have cw:IntKind.u32.wrap ((cb:Int)*256)=((cb*256:Nat):Int):=by rw[IntKind.wrap_u32];omega
    have om:kv*16777216|||cB*65536<4294967296:=Nat.or_lt_two_pow (n:=32) (by omega) (by omega);have hL:(kv*16777216|||cB*65536)|||cb*256<4294967296:=Nat.or_lt_two_pow (n:=32) om (by omega);rw[tR,bt,cw,Rh _ _ (by omega) (by omega),Rh _ _ om (by omega),Rh _ _ hL (by omega)];unfold Ii;rw[CG,xn,oA,PD]
   simp[go_sem,cg,ea,aba];refine cD [A 0,A 1,A 2,A 3,A 4,A 5,A 6,A 7,A 8,A 9,A 10,A 11,A 12,A 13,A 14,A 15,A 16,A 17,A 18,A 19,A 20,A 21,A 22,A 23,A 24,A 25,A 26,A 27,A 28,A 29,A 30,A 31,A 32,A 33,A 34,(35,some [])] ?_;simp[go_sem,f0,bV,cg,mJ,rj,bY,tX,nv,nZ,n_,wJ,lZ,ey,cZ,iq,rn,fz,fw,io,ea,aS,hR,akb,eo];exact cH.intro _ (by omega) (bL _ _ (if_pos azA) (by simp[f0]) (by simp[bh]) (by simp[bV]) (by simp))
  ·have aba:¬(k:Int)<16:=by omega
   have UD:∀i,i<k->bE.cell? ⟨g+1,i,none⟩=some (.int .u32 ((mj b k).getD i 0:Nat)):=λi aa=>by
    rw[aG nq];exact aa' (azx b aa)
   have azB:IntKind.i64.wrap ((k:Int) - 15)=((k - 15:Nat):Int):=by rw[IntKind.wrap_i64];omega
   have bY:IntKind.i64.wrap ((k:Int) - 2)=((k - 2:Nat):Int):=by rw[IntKind.wrap_i64];omega
   have PE:IntKind.i64.wrap ((k:Int) - 16)=((k - 16:Nat):Int):=by rw[IntKind.wrap_i64];omega
   have HV:IntKind.i64.wrap ((k:Int) - 7)=((k - 7:Nat):Int):=by rw[IntKind.wrap_i64];omega
   have azC:((k - 15:Nat):Int)<64:=by omega
   have eM:((k - 2:Nat):Int)<64:=by omega
   have PF:((k - 16:Nat):Int)<64:=by omega
   have AS:((k - 7:Nat):Int)<64:=by omega
   obtain⟨yn,abb⟩:=az ((mj b k).getD (k - 15) 0);obtain⟨cZ,nO⟩:=az ((mj b k).getD (k - 2) 0);obtain⟨akd,abc⟩:=az ((mj b k).getD (k - 16) 0);obtain⟨KL,Ie⟩:=az ((mj b k).getD (k - 7) 0);have ake:=UD (k - 15) (by omega);have gN:=UD (k - 2) (by omega);have Ll:=UD (k - 16) (by omega);have Lm:=UD (k - 7) (by omega);rw[abb]at ake;rw[nO]at gN;rw[abc]at Ll;rw[Ie]at Lm;have UE:yn<4294967296:=by rw[<-abb];exact UC b (by omega)
   have jD:cZ<4294967296:=by rw[<-nO];exact UC b (by omega)
   have aIU:akd<4294967296:=by rw[<-abc];exact UC b (by omega)
   have aIV:KL<4294967296:=by rw[<-Ie];exact UC b (by omega)
   simp[go_sem,cg,ea,aba];refine cD [A 0,A 1,A 2,A 3,A 4,A 5,A 6,A 7,A 8,A 9] ?_;simp[go_sem,bV,cg,azB,bY,azC,eM,ake,gN];refine cD [A 0,A 1,A 2,A 3,A 4,A 5,A 7,A 10,A 11,A 14,A 15,A 16,A 17,A 19,A 21,A 24,A 25,(6,some [0,1,2,3,4,7,10,11,14,15,16,17,19,21,24,25]),(8,some [0,1,2,3,4,10,11,14,15,16,17,19,21,24,25]),A 9,A 12,A 13,A 18,(20,some [0,1,2,3,4,10,11,14,15,16,17,21,24,25,9,12,13,18]),(22,some [0,1,2,3,4,10,11,14,15,16,17,24,25,9,12,13,18]),A 23,A 26,A 27,A 28,(29,some [])] ?_;simp[go_sem,bV,cg,PE,HV,PF,AS,Ll,Lm];refine(AD yn 7 _ UE (by decide) (by decide)).mono ?_;rintro _ _ ⟨rfl,rfl⟩;simp[go_sem,bV,cg,PE,HV,PF,AS,Ll,Lm];refine(AD yn 18 _ UE (by decide) (by decide)).mono ?_;rintro _ _ ⟨rfl,rfl⟩;simp[go_sem,bV,cg,PE,HV,PF,AS,Ll,Lm];refine(AD cZ 17 _ jD (by decide) (by decide)).mono ?_;rintro _ _ ⟨rfl,rfl⟩;simp[go_sem,bV,cg,PE,HV,PF,AS,Ll,Lm];refine(AD cZ 19 _ jD (by decide) (by decide)).mono ?_;rintro _ _ ⟨rfl,rfl⟩;simp[go_sem,bV,cg,PE,HV,PF,AS,Ll,Lm,ea,hR,akb,eo];have aS:IntKind.u32.wrap (IntKind.u32.wrap (IntKind.u32.wrap ((akd:Int)+bits .xor .u32 (bits .xor .u32 (kg yn 7:Int) (kg yn 18)) ((yn:Int) / 8))+KL)+bits .xor .u32 (bits .xor .u32 (kg cZ 17:Int) (kg cZ 19)) ((cZ:Int) / 1024))=((Lk (mj b k) k:Nat):Int):=by
    have ig:=AC yn 7 UE;have fX:=AC yn 18 UE;have jV:=AC cZ 17 jD;have eQ:=AC cZ 19 jD;have gS:kg yn 7^^^kg yn 18<4294967296:=Nat.xor_lt_two_pow (n:=32) ig fX;have uT:kg cZ 17^^^kg cZ 19<4294967296:=Nat.xor_lt_two_pow (n:=32) jV eQ;have lk:(yn:Int) / 8=((yn / 8:Nat):Int):=by omega
    have rS:(cZ:Int) / 1024=((cZ / 1024:Nat):Int):=by omega
    rw[xe _ _ ig fX,xe _ _ jV eQ,lk,rS,xe _ _ gS (by omega),xe _ _ uT (by omega),Ae,Ae,Ae];unfold Lk;rw[abb,nO,abc,Ie];rfl
   rw[aS];exact cH.intro _ (by omega) (zJ _ _ (if_neg (by omega)) (by simp[f0]) (by simp[bh]) (by simp[bV]) (by simp))
 ·obtain rfl:k=64:=by omega
  have PG:(uA (mj b 64)).toArray.size=64:=by simp[UB,DK]
  obtain⟨bo,hu⟩:=az ((uA (mj b 64)).toArray);have Ik:jT bo=true:=by rw[<-hu];exact aj7 _
  rw[show Ca b 64=mj b 64 by simp[Ca]]at nq;rw[hu]at nq PG Z;have azD:bo.extract 0 64=bo:=by rw[show(64:Nat)=bo.size from PG.symm];simp
  have rG:(bE.setRow g bo).1[g]? =some (.cells bo 407 (0,0)):=by rw[gk,bj];rfl
  simp[go_sem,bh,bV,cg,nq,PG,azD,bj,Ij,Ik,bQ,rG];exact Z _ _ ⟨rfl,T.setRow (g:=g) (.inr (by omega)) _⟩
attribute [irreducible] mj
def zW:List Nat:=[1116352408,1899447441,3049323471,3921009573,961987163,1508970993,2453635748,2870763221,3624381080,310598401,607225278,1426881987,1925078388,2162078206,2614888103,3248222580,3835390401,4022224774,264347078,604807628,770255983,1249150122,1555081692,1996064986,2554220882,2821834349,2952996808,3210313671,3336571891,3584528711,113926993,338241895,666307205,773529912,1294757372,1396182291,1695183700,1986661051,2177026350,2456956037,2730485921,2820302411,3259730800,3345764771,3516065817,3600352804,4094571909,275423344,430227734,506948616,659060556,883997877,958139571,1322822218,1537002063,1747873779,1955562222,2024104815,2227730452,2361852424,2428436474,2756734187,3204031479,3329325298]
def ja(w:World):Prop:=∀i,i<64->w.cell? ⟨3,i,none⟩=some (.int .u32 (zW.getD i 0:Nat))
theorem ja.ch{S:Nat->Prop}{w w':World}(h:ja w)(T:D S w w')(av:¬S 3):ja w':=λi aa=>T.cell (h i aa) av
structure gj where
 a:Nat
 b:Nat
 c:Nat
 d:Nat
 e:Nat
 f:Nat
 g:Nat
 h:Nat
deriving DecidableEq
def lL(s:gj):Array Value:=#[.int .u32 s.a,.int .u32 s.b,.int .u32 s.c,.int .u32 s.d,.int .u32 s.e,.int .u32 s.f,.int .u32 s.g,.int .u32 s.h]
structure vA(s:gj):Prop where
 a:s.a<4294967296
 b:s.b<4294967296
 c:s.c<4294967296
 d:s.d<4294967296
 e:s.e<4294967296
 f:s.f<4294967296
 g:s.g<4294967296
 h:s.h<4294967296
def akf(x:Nat):Nat:=(kg x 6^^^kg x 11)^^^kg x 25
def akg(x:Nat):Nat:=(kg x 2^^^kg x 13)^^^kg x 22
def akh(e f g:Nat):Nat:=(e&&&f)^^^((4294967295^^^e)&&&g)
def aki(a b c:Nat):Nat:=((a&&&b)^^^(a&&&c))^^^(b&&&c)
def Il(s:gj)(k w:Nat):Nat:=jz (jz (jz (jz s.h (akf s.e)) (akh s.e s.f s.g)) k) w
def PH(s:gj):Nat:=jz (akg s.a) (aki s.a s.b s.c)
def UF(s:gj)(k w:Nat):gj:=⟨jz (Il s k w) (PH s),s.a,s.b,s.c,jz s.d (Il s k w),s.e,s.f,s.g⟩
theorem azE{s:gj}(ok:vA s)(k w:Nat):vA (UF s k w):=⟨Ad _ _,ok.a,ok.b,ok.c,Ad _ _,ok.e,ok.f,ok.g⟩
def mR(N:List Nat):Nat->gj->gj
 |0,s=>s
 |k+1,s=>UF (mR N k s) (zW.getD k 0) (N.getD k 0)
theorem akj{s:gj}(ok:vA s)(N:List Nat)(k:Nat):vA (mR N k s):=by
 induction k with
 |zero=>exact ok
 |succ k bG=>exact azE bG _ _
def abd(s J:gj):gj:=⟨jz s.a J.a,jz s.b J.b,jz s.c J.c,jz s.d J.d,jz s.e J.e,jz s.f J.f,jz s.g J.g,jz s.h J.h⟩
def yo(s:gj)(b:List UInt8):gj:=abd s (mR (mj b 64) 64 s)
theorem akk(s:gj)(b:List UInt8):vA (yo s b):=⟨Ad _ _,Ad _ _,Ad _ _,Ad _ _,Ad _ _,Ad _ _,Ad _ _,Ad _ _⟩
def DL(s J:gj)(k:Nat):gj:=⟨if 0<k then jz s.a J.a else s.a,if 1<k then jz s.b J.b else s.b,if 2<k then jz s.c J.c else s.c,if 3<k then jz s.d J.d else s.d,if 4<k then jz s.e J.e else s.e,if 5<k then jz s.f J.f else s.f,if 6<k then jz s.g J.g else s.g,if 7<k then jz s.h J.h else s.h⟩
theorem azF(s J:gj):DL s J 8=abd s J:=rfl
theorem azG(jQ mN mO rd kc rL rg vB c' wM:Nat)(uB:kc<4294967296)(lf:rL<4294967296)(PI:rg<4294967296):
  IntKind.u32.wrap (IntKind.u32.wrap (IntKind.u32.wrap (IntKind.u32.wrap ((vB:Int)+bits .xor .u32 (bits .xor .u32 (kg kc 6:Int) (kg kc 11)) (kg kc 25))+bits .xor .u32 (bits .and .u32 (kc:Int) rL) (bits .and .u32 (bits .xor .u32 (if IntKind.u32.signed=true then(-1:Int)else IntKind.u32.max) kc) rg))+c')+wM)=(Il ⟨jQ,mN,mO,rd,kc,rL,rg,vB⟩ c' wM:Int):=by
 have ey:=AC kc 6 uB;have cZ:=AC kc 11 uB;have iq:=AC kc 25 uB;have jk:kg kc 6^^^kg kc 11<4294967296:=Nat.xor_lt_two_pow (n:=32) ey cZ;have n0:(4294967295:Nat)<4294967296:=by omega
 have hY:(4294967295^^^kc)<4294967296:=Nat.xor_lt_two_pow (n:=32) n0 uB;have kA:kc&&&rL<4294967296:=Nat.and_lt_two_pow (n:=32) _ lf;have jE:(4294967295^^^kc)&&&rg<4294967296:=Nat.and_lt_two_pow (n:=32) _ PI;have GX:(if IntKind.u32.signed=true then(-1:Int)else IntKind.u32.max)=((4294967295:Nat):Int):=by simp[IntKind.signed,IntKind.max,IntKind.bits]
 rw[GX,xe _ _ ey cZ,xe _ _ jk iq,Mm _ _ uB lf,xe _ _ n0 uB,Mm _ _ hY PI,xe _ _ kA jE,Ae,Ae,Ae,Ae];simp only[Il,akf,akh]
theorem azH(jQ mN mO rd kc rL rg vB:Nat)(gA:jQ<4294967296)(lb:mN<4294967296)(Im:mO<4294967296):
  IntKind.u32.wrap (bits .xor .u32 (bits .xor .u32 (kg jQ 2:Int) (kg jQ 13)) (kg jQ 22)+bits .xor .u32 (bits .xor .u32 (bits .and .u32 (jQ:Int) mN) (bits .and .u32 (jQ:Int) mO)) (bits .and .u32 (mN:Int) mO))=(PH ⟨jQ,mN,mO,rd,kc,rL,rg,vB⟩:Int):=by
 have gM:=AC jQ 2 gA;have gN:=AC jQ 13 gA;have iO:=AC jQ 22 gA;have pj:kg jQ 2^^^kg jQ 13<4294967296:=Nat.xor_lt_two_pow (n:=32) gM gN;have gv:jQ&&&mN<4294967296:=Nat.and_lt_two_pow (n:=32) _ lb;have fl:jQ&&&mO<4294967296:=Nat.and_lt_two_pow (n:=32) _ Im;have iN:mN&&&mO<4294967296:=Nat.and_lt_two_pow (n:=32) _ Im;have ix:(jQ&&&mN)^^^(jQ&&&mO)<4294967296:=Nat.xor_lt_two_pow (n:=32) gv fl;rw[xe _ _ gM gN,xe _ _ pj iO,Mm _ _ gA lb,Mm _ _ gA Im,Mm _ _ lb Im,xe _ _ gv fl,xe _ _ ix iN,Ae];simp only[PH,akg,aki]
theorem azI(jQ mN mO rd kc rL rg vB c' wM:Nat):UF ⟨jQ,mN,mO,rd,kc,rL,rg,vB⟩ c' wM=⟨jz (Il ⟨jQ,mN,mO,rd,kc,rL,rg,vB⟩ c' wM) (PH ⟨jQ,mN,mO,rd,kc,rL,rg,vB⟩),jQ,mN,mO,jz rd (Il ⟨jQ,mN,mO,rd,kc,rL,rg,vB⟩ c' wM),kc,rL,rg⟩:=rfl
theorem azJ(N:List Nat)(k:Nat)(s:gj):mR N (k+1) s=UF (mR N k s) (zW.getD k 0) (N.getD k 0):=rfl
theorem azK(s J:gj){j:Nat}(F:j<8):∃x y:Nat,#[Value.int .u32 J.a,Value.int .u32 J.b,Value.int .u32 J.c,Value.int .u32 J.d,Value.int .u32 J.e,Value.int .u32 J.f,Value.int .u32 J.g,Value.int .u32 J.h][j]? =some (.int .u32 y)/\(lL (DL s J j))[j]? =some (.int .u32 x)/\(lL (DL s J j)).setIfInBounds j (.int .u32 (jz x y))=lL (DL s J (j+1)):=by
 match j,F with
 |0,_=>exact⟨s.a,J.a,rfl,rfl,rfl⟩
 |1,_=>exact⟨s.b,J.b,rfl,rfl,rfl⟩
 |2,_=>exact⟨s.c,J.c,rfl,rfl,rfl⟩
 |3,_=>exact⟨s.d,J.d,rfl,rfl,rfl⟩
 |4,_=>exact⟨s.e,J.e,rfl,rfl,rfl⟩
 |5,_=>exact⟨s.f,J.f,rfl,rfl,rfl⟩
 |6,_=>exact⟨s.g,J.g,rfl,rfl,rfl⟩
 |7,_=>exact⟨s.h,J.h,rfl,rfl,rfl⟩
theorem akl(s:gj)(v:Value)(b:List UInt8)(w:World)(ok:vA s)(V:b.length=64)(aw:bD w v 64 (bm b))(r:ja w):
  aP Tryz.prog 239 #[.agg (lL s),v] w λW w'=>W=.agg (lL (yo s b))/\D ak w w':=by
 refine bn Tryz.func239 Tryz.ntmps239 λaZ Z=> ?_;obtain⟨t,bd⟩:=az (yo s b);rw[bd]at Z;simp[go_sem,lL];have aI:=((D.refl ak w).alloc (.cells #[.int .u32 s.a,.int .u32 s.b,.int .u32 s.c,.int .u32 s.d,.int .u32 s.e,.int .u32 s.f,.int .u32 s.g,.int .u32 s.h] 387)).alloc (.cells #[.int .u32 0,.int .u32 0,.int .u32 0,.int .u32 0,.int .u32 0,.int .u32 0,.int .u32 0,.int .u32 0] 387);have bj:=oa w (.cells #[.int .u32 s.a,.int .u32 s.b,.int .u32 s.c,.int .u32 s.d,.int .u32 s.e,.int .u32 s.f,.int .u32 s.g,.int .u32 s.h] 387) (.cells #[.int .u32 0,.int .u32 0,.int .u32 0,.int .u32 0,.int .u32 0,.int .u32 0,.int .u32 0,.int .u32 0] 387);have ba:=ny w (.cells #[.int .u32 s.a,.int .u32 s.b,.int .u32 s.c,.int .u32 s.d,.int .u32 s.e,.int .u32 s.f,.int .u32 s.g,.int .u32 s.h] 387) (.cells #[.int .u32 0,.int .u32 0,.int .u32 0,.int .u32 0,.int .u32 0,.int .u32 0,.int .u32 0,.int .u32 0] 387);revert aI bj ba;generalize(w.alloc (.cells #[.int .u32 s.a,.int .u32 s.b,.int .u32 s.c,.int .u32 s.d,.int .u32 s.e,.int .u32 s.f,.int .u32 s.g,.int .u32 s.h] 387)).alloc (.cells #[.int .u32 0,.int .u32 0,.int .u32 0,.int .u32 0,.int .u32 0,.int .u32 0,.int .u32 0,.int .u32 0] 387)=ab;generalize aF:w.1.size=g;intro aI bj ba;refine(azy v b ab V (aw.ch aI λ_ _ e=>e)).mono ?_;rintro _ ai ⟨rfl,aA⟩;have bj:=aA.ah bj id;have ba:=aA.ah ba id;obtain⟨N,fu⟩:=az (mj b 64);rw[fu];have azL:N.length=64:=by rw[<-fu,DK]
 have aIW:∀i,N.getD i 0<4294967296:=λi=>by
  rw[List.getD_eq_getElem?_getD]
  cases h:N[i]? with
  |none=>decide
  |some x=>exact aj9 b 64 x (by grind)
 obtain⟨bo,hu⟩:=az ((uA N).toArray);have In:bo.size=64:=by rw[<-hu];simp[UB,azL]
 have Ik:jT bo=true:=by rw[<-hu];exact aj7 _
 have akm:∀i,i<64->bo[i]? =some (.int .u32 (N.getD i 0:Nat)):=λi aa=>by
  rw[<-hu];refine aa' ?_
  grind
 rw[hu];have akn:=aj';obtain⟨kb,wP⟩:=az ((uA (List.replicate 64 0)).toArray);rw[wP]at akn;have Ij:kb.size=64:=by rw[<-wP];simp[UB]
 simp[go_sem,aj_,akn,Ij,In,Ik,bQ];have aE:=(aI.trans aA).alloc (.cells bo 407);have sG:=(D.refl ak ai).alloc (.cells bo 407);have dj:=cl ai (.cells bo 407);have bj:=sG.ah bj id;have ba:=sG.ah ba id;have ako:=aA.size;have xn:=lt_of_block ba;clear sG;revert aE dj bj ba xn;generalize ai.alloc (.cells bo 407)=aC;generalize HQ:ai.1.size=gS;intro aE dj bj ba xn;have cR:=λi=>aG bj i;refine cD [A 0,A 1,A 2,A 3,A 4,A 5,A 6,A 7,A 8,A 9,A 10,A 11,A 12,A 13,A 14,A 15,A 16,A 17,A 18,A 19,A 20,A 21,A 22,A 23] ?_;simp[go_sem,cR];refine du (λJ f bE=>∃k,k<=64/\J=64 - k/\f 2=.pointer (some ⟨g,0,none⟩)/\f 4=.pointer (some ⟨g+1,0,none⟩)/\f 5=.pointer (some ⟨gS,0,none⟩)/\f 37=.int .i64 k/\
  f 6=.int .u32 (mR N k s).a/\f 7=.int .u32 (mR N k s).b/\f 8=.int .u32 (mR N k s).c/\f 9=.int .u32 (mR N k s).d/\f 10=.int .u32 (mR N k s).e/\f 11=.int .u32 (mR N k s).f/\f 12=.int .u32 (mR N k s).g/\f 13=.int .u32 (mR N k s).h/\
  D ak w bE/\bE.1[g]? =aC.1[g]?/\bE.1[g+1]? =aC.1[g+1]?/\bE.1[gS]? =aC.1[gS]?) 64
  ⟨0,by omega,rfl,by simp,by simp,by simp,by simp,by simp[mR],by simp[mR],by simp[mR],by simp[mR],by simp[mR],by simp[mR],by simp[mR],by simp[mR],aE.drew,rfl,rfl,rfl⟩ ?_
 rintro cJ bK _ f bE ⟨k,aka,rfl,bh,cr,cN,abe,f6,cg,bz,ef,eE,gD,dA,eW,T,bf,H,bC⟩;by_cases aO:k<64
 ·have ea:(k:Int)<64:=by omega
  have eo:IntKind.i64.wrap ((k:Int)+1)=((k+1:Nat):Int):=by simp[IntKind.wrap_i64];omega
  have Cb:=akj ok N k;generalize ap:mR N k s=J at*;obtain⟨jQ,mN,mO,rd,kc,rL,rg,vB⟩:=J;simp only at f6 cg bz ef eE gD dA eW;have PJ:=(r.ch T id) k aO;have PK:=(aG (bC.trans dj) k).trans (akm k aO);obtain⟨c',pC⟩:=az (zW.getD k 0);obtain⟨wM,akp⟩:=az (N.getD k 0);rw[pC]at PJ;rw[akp]at PK;have gA:=Cb.a;have lb:=Cb.b;have Im:=Cb.c;have uB:=Cb.e;have lf:=Cb.f;have PI:=Cb.g;simp only at gA lb Im uB lf PI;simp[go_sem,abe,ea];refine cD [A 0,A 1,A 3,A 6,A 10,A 11,A 12,A 13,A 14,A 15,A 16,A 17,A 19,A 20,A 21,A 23,A 24,A 25,(2,some [0,3,6,10,11,12,13,14,15,16,17,19,20,21,23,24,25]),(4,some [0,6,10,11,12,13,14,15,16,17,19,20,21,23,24,25]),A 5,(7,some [0,10,11,12,13,14,15,16,17,19,20,21,23,24,25,5]),A 8,A 9,A 18,A 22,A 26,A 27] ?_;simp[go_sem,cN,eE,gD,dA,eW,PJ,PK,ea];refine(AD kc 6 _ uB (by decide) (by decide)).mono ?_;rintro _ _ ⟨rfl,rfl⟩;simp[go_sem,cN,eE,gD,dA,eW,PJ,PK,ea];refine(AD kc 11 _ uB (by decide) (by decide)).mono ?_;rintro _ _ ⟨rfl,rfl⟩;simp[go_sem,cN,eE,gD,dA,eW,PJ,PK,ea];refine(AD kc 25 _ uB (by decide) (by decide)).mono ?_;rintro _ _ ⟨rfl,rfl⟩;simp[go_sem,cN,f6,eE,gD,dA,eW,PJ,PK,ea];refine(AD jQ 2 _ gA (by decide) (by decide)).mono ?_;rintro _ _ ⟨rfl,rfl⟩;simp[go_sem,f6];refine(AD jQ 13 _ gA (by decide) (by decide)).mono ?_;rintro _ _ ⟨rfl,rfl⟩;simp[go_sem,f6];refine(AD jQ 22 _ gA (by decide) (by decide)).mono ?_;rintro _ _ ⟨rfl,rfl⟩;simp[go_sem,f6,cg,bz,ef,eE,gD,dA,abe,eo];obtain⟨bl,kp⟩:=az (Il ⟨jQ,mN,mO,rd,kc,rL,rg,vB⟩ c' wM);obtain⟨U,wx⟩:=az (PH ⟨jQ,mN,mO,rd,kc,rL,rg,vB⟩);have abf:=azG jQ mN mO rd kc rL rg vB c' wM uB lf PI;rw[kp]at abf;have abg:=azH jQ mN mO rd kc rL rg vB gA lb Im;rw[wx]at abg;have te:mR N (k+1) s=⟨jz bl U,jQ,mN,mO,jz rd bl,kc,rL,rg⟩:=by
   rw[azJ,ap,pC,akp,azI,kp,wx]
  refine cH.intro (64 -(k+1)) (by omega) (bK _ _ _ ⟨k+1,by omega,rfl,by simp[bh],by simp[cr],by simp[cN],by simp,by rw[te];simp[abf,abg,Ae],by rw[te];simp,by rw[te];simp,by rw[te];simp,by rw[te];simp[abf,abg,Ae],by rw[te];simp,by rw[te];simp,by rw[te];simp,T.drew,bf,H,bC⟩)
 ·obtain rfl:k=64:=by omega
  have Cb:=akj ok N 64;have zO:yo s b=abd s (mR N 64 s):=by unfold yo;rw[fu]
  generalize ap:mR N 64 s=J at*;have bj:=bf.trans bj;have ba:=H.trans ba;have av:∀a b:Nat,IntKind.u32.wrap ((a:Int)+b)=(jz a b:Int):=Ae;simp[go_sem,f6,cg,bz,ef,eE,gD,dA,eW,abe];refine du (λRq f' u=>∃j,j<=8/\Rq=8 - j/\f' 2=.pointer (some ⟨g,0,none⟩)/\f' 4=.pointer (some ⟨g+1,0,none⟩)/\f' 108=.agg #[.int .u32 J.a,.int .u32 J.b,.int .u32 J.c,.int .u32 J.d,.int .u32 J.e,.int .u32 J.f,.int .u32 J.g,.int .u32 J.h]/\f' 109=.int .i64 j/\
   D ak w u/\u.1[g]? =some (.cells (lL (DL s J j)) 387 (0,0))/\u.1[g+1]? =bE.1[g+1]?) 8
   ⟨0,by omega,rfl,by simp[bh],by simp[cr],by simp,by simp,T,by simpa[lL,DL]using bj,rfl⟩ ?_
  rintro cJ bK _ f' u ⟨j,F,rfl,cb,dw,akq,akr,abh,ht,db⟩;by_cases aks:j<8
  ·have nl:(j:Int)<8:=by omega
   have cR:=λi=>aG ht i;have z0:=λi=>dD ht i;have md:∀(x:Nat) sS,(lL (DL s J j)).setIfInBounds j (.int .u32 x)=lL (DL s J (j+1))->sS 2=.pointer (some ⟨g,0,none⟩)->sS 4=.pointer (some ⟨g+1,0,none⟩)->sS 108=.agg #[.int .u32 J.a,.int .u32 J.b,.int .u32 J.c,.int .u32 J.d,.int .u32 J.e,.int .u32 J.f,.int .u32 J.g,.int .u32 J.h]->sS 109=.int .i64 ((j+1:Nat):Int)->cJ (8 -(j+1)) sS (u.setCell ⟨g,j,none⟩ (.int .u32 x)):=λx sS M a2 a4 azM azN=>
    bK _ _ _ ⟨j+1,by omega,rfl,a2,a4,azM,azN,abh.setCell (.inr (by show w.1.size<=g;omega)) _,by rw[eY,ht,gp,M],by rw[t_ _ _ _ _ (by show g+1≠g;omega),db]⟩
   clear bK;obtain⟨x,y,ig,fX,jV⟩:=azK s J aks;have mu:=λw=>Eo (P:=Tryz.prog) (kd:=.i64) Tryz.underlying387 Tryz.sizeOf40 Tryz.isAgg40 aks ig w;have eQ:=(cR j).trans fX;have kJ:IntKind.i64.wrap ((j:Int)+1)=((j+1:Nat):Int):=by simp[IntKind.wrap_i64];omega
   simp[go_sem,cb,akq,akr,mu,eQ,z0,av,nl,kJ];exact cH.intro _ (by omega) (md _ _ jV (by simp[cb]) (by simp[dw]) (by simp[akq]) (by simp))
  ·obtain rfl:j=8:=by omega
   have ph:DL s J 8=t:=by rw[<-bd,zO];exact azF s J
   rw[ph]at ht;have db:=db.trans ba;have cR:=λi=>aG ht i;have aK:=λi=>aG db i;have oM:=λi=>dD db i;simp[go_sem,cb,dw,akr,cR,aK,oM,lL];exact Z _ _ ⟨rfl,(((((((abh.setCell (p:=⟨g+1,0,none⟩) (.inr (by show w.1.size<=g+1;omega)) _).setCell (p:=⟨g+1,1,none⟩) (.inr (by show w.1.size<=g+1;omega)) _).setCell (p:=⟨g+1,2,none⟩) (.inr (by show w.1.size<=g+1;omega)) _).setCell (p:=⟨g+1,3,none⟩) (.inr (by show w.1.size<=g+1;omega)) _).setCell (p:=⟨g+1,4,none⟩) (.inr (by show w.1.size<=g+1;omega)) _).setCell (p:=⟨g+1,5,none⟩) (.inr (by show w.1.size<=g+1;omega)) _).setCell (p:=⟨g+1,6,none⟩) (.inr (by show w.1.size<=g+1;omega)) _).setCell (p:=⟨g+1,7,none⟩) (.inr (by grind)) _⟩
attribute [irreducible] yo mR
end Go.Proofs.YtoohkhcpboldjaaGreatDoor
