/- A hash: Sum, as a contract on the call. Conditions: the variable sha.constants holds what the text lays; sizes. -/
import Derived.ArgAppend
import Derived.Deep.Upon
import Derived.Test.YtoohkhcpboldjaaGreatDoorShaC
set_option linter.unusedSimpArgs false
set_option linter.unusedVariables false
namespace Go.Kin
open Go Go.RowKit
variable {P:Program}{w:M}{t e:TypeId}{z:N}{bytes:Nat}
theorem bC.asl{v:N}{n:Nat}{xs:List N}(h:bC w v n xs)(bv:sd P t e z bytes):
  ∃A,bC w (.slice A n n) n xs/\(Value.slice A n n).ownBlock=v.ownBlock/\∀w',(Instr.sliceAt t v none (some (aa n)) (some (aa n))).run P w'=.ok (.slice A n n) w':=by
 obtain⟨A,c,rfl,J,T,ag⟩:=h;obtain⟨i,ad,_,cU,_⟩:=info_parts bv.yR;have OR:¬c<n:=by omega
 have fp:(if n=0 then A else A.map (·.add (0*1)))=A:=by
  cases A with
  |none=>simp
  |some bx=>split<;>simp[Addr.add]
 refine⟨A,⟨A,n,rfl,c_ _,by omega,ag⟩,by cases A<;>rfl,λw'=> ?_⟩;have:(Instr.sliceAt t (.slice A n c) none (some (aa n)) (some (aa n))).run P w'=.ok (.slice (if n=0 then A else A.map (·.add (0*1))) n n) w':=by
  simp[Instr.sliceAt,Instr.slice,Instr.sliceBounds,Instr.sliceBound,asIntOf,run_underlying bv.oX,sizeOf,typeInfo,ad,OR]
 rw[fp]at this;exact this
theorem aIQ(bv:sd P t e z bytes){A:Option Addr}{n m:Nat}{xs ys:List N}{y:N}{bV:TypeId}{K:N->M->Prop}(W:bC w (.slice A n n) n xs)(lj:xs.length=n)(ar:bC w y m ys)(Em:ys.length=m)(J:∀u∈ys,u.oneCell'=true)(th:n+m<=maxLen)(ti:(n+m)*bytes<=140737488355328)
  (h:∀v' w',bC w' v' (n+m) (xs++ys)->H al w w'->(v'.ownBlock=(Value.slice A n n).ownBlock\/gr w.1.size v')->K v' w'):pN P .append #[t,t] bV #[.slice A n n,y] w K:=by
 obtain⟨i,ad,hz,cU,AF⟩:=info_parts bv.yR;by_cases aC:m=0
 ·subst aC;obtain rfl:ys=[]:=wh Em;have aA:Src P i.size t y 0 [] w:=by
   obtain⟨vA,aK,rfl,_⟩:=ar
   cases vA with
   |none=>exact Src.ofNil w bv.oX aK
   |some bx=>exact Src.ofSlice w bv.oX bx 0 aK [] (by simp) (by simp) (by simp)
  refine KR (run_append_nothing (P:=P) w t t bV e i bv.oX ad A n n (c_ _) y aA) (h _ _ (by simpa using W) (H.refl _ _) (.inl rfl))
 ·cases A with
  |none=>
   obtain⟨gM,dA,aM,_,_,ag⟩:=id W;have qV:n=0:=by
    apply yE;intro aq;obtain⟨bx,HH,_⟩:=ag (by omega);injection aM with aL;rw[<-aL]at HH
    cases HH
   subst qV;obtain rfl:xs=[]:=wh lj;obtain⟨v',w',ax,bn,bh,bA⟩:=ada bv bV (pA _ _ _ _) ar Em J th ti;exact KR ax (h _ _ (bC.fF bn) (bh.mono λk _ e=>by simp[Value.ownBlock]at e) bA)
  |some b=>
   obtain⟨vA,aK,rfl,_,_,Z⟩:=ar;obtain⟨bx,rfl,qy⟩:=Z (by omega);have ahX:∀j u,xs[j]? =some u->w.cell? (b.add j)=some u:=λj u ap=>by
    obtain⟨gM,dA,aM,_,_,ag⟩:=id W
    grind
   obtain⟨v',w',ax,bn,bh⟩:=run_append_arg_grows (P:=P) w t bV e i z 1 bytes bv.oX ad hz cU AF bv.one (by decide) b n n xs (by omega) ahX bx m aK ys (by omega) qy (by omega) th ti;refine KR ax (h _ _ (bC.fF bn) (H.yQ bh|>.mono λk _ e=>by cases e) (.inr λk r=> ?_));rcases bn.2 with⟨aM,_⟩|⟨g,cap,dF,aM,aH,_⟩
   ·omega
   ·rw[aM]at r;simp[Value.ownBlock]at r;omega
theorem aIR(bv:sd P t e z bytes){A:Option Addr}{n m:Nat}{xs ys:List N}{y:N}{bV:TypeId}{K:N->M->Prop}(W:bC w (.slice A n n) n xs)(lj:xs.length=n)(ar:bC w y m ys)(Em:ys.length=m)(bi:0<m)(J:∀u∈ys,u.oneCell'=true)(th:n+m<=maxLen)(ti:(n+m)*bytes<=140737488355328)
  (h:∀v' w',w'.ownsRow 0 e 1 v' (n+m) (xs++ys)->H al w w'->gr w.1.size v'->K v' w'):pN P .append #[t,t] bV #[.slice A n n,y] w K:=by
 obtain⟨i,ad,hz,cU,AF⟩:=info_parts bv.yR
 cases A with
 |none=>
  obtain⟨gM,dA,aM,_,_,ag⟩:=id W;have qV:n=0:=by
   apply yE;intro aq;obtain⟨bx,HH,_⟩:=ag (by omega);injection aM with aL;rw[<-aL]at HH
   cases HH
  subst qV;obtain rfl:xs=[]:=wh lj;obtain⟨v',w',ax,bn,bh,bA⟩:=ada bv bV (pA _ _ _ _) ar Em J th ti;exact KR ax (h _ _ bn (bh.mono λk _ e=>by simp[Value.ownBlock]at e) (by
   rcases bA with bA|bA
   ·intro k r;rw[bA]at r;simp[Value.ownBlock]at r
   ·exact bA))
 |some b=>
  obtain⟨vA,aK,rfl,_,_,Z⟩:=ar;obtain⟨bx,rfl,qy⟩:=Z (by omega);have ahX:∀j u,xs[j]? =some u->w.cell? (b.add j)=some u:=λj u ap=>by
   obtain⟨gM,dA,aM,_,_,ag⟩:=id W
   grind
  obtain⟨v',w',ax,bn,bh⟩:=run_append_arg_grows (P:=P) w t bV e i z 1 bytes bv.oX ad hz cU AF bv.one (by decide) b n n xs (by omega) ahX bx m aK ys (by omega) qy (by omega) th ti;refine KR ax (h _ _ ⟨bn.1,bn.2.imp id λ⟨g,cap,dF,aM,aH,V⟩=>⟨g,cap,dF,aM,gG _,V⟩⟩ (H.yQ bh|>.mono λk _ e=>by cases e) λk r=> ?_);rcases bn.2 with⟨aM,_⟩|⟨g,cap,dF,aM,aH,_⟩
  ·omega
  ·rw[aM]at r;simp[Value.ownBlock]at r;omega
end Go.Kin
namespace Go.Proofs.YtoohkhcpboldjaaGreatDoor
open Go.RowKit Go.Kin Tryz
def first:hj:=⟨1779033703,3144134277,1013904242,2773480762,1359893119,2600822924,528734635,1541459225⟩
theorem asm:yv first:=⟨by decide,by decide,by decide,by decide,by decide,by decide,by decide,by decide⟩
def aa_:hj:=⟨0,0,0,0,0,0,0,0⟩
theorem aIS:yv aa_:=⟨by decide,by decide,by decide,by decide,by decide,by decide,by decide,by decide⟩
def KS:Nat->hj->List UInt8->hj×List UInt8
 |0,s,l=>(s,l)
 |n+1,s,l=>if 64<=l.length then KS n (BL s (l.take 64)) (l.drop 64)else(s,l)
def ld(s:hj)(l:List UInt8):hj×List UInt8:=KS l.length s l
theorem asn:∀(n m:Nat) (s:hj) (l:List UInt8),l.length<=n->l.length<=m->KS n s l=KS m s l
 |0,0,_,_,_,_=>rfl
 |0,m+1,s,l,h,_=>by simp[KS,XE.1 (Nat.le_zero.1 h)]
 |n+1,0,s,l,_,h=>by simp[KS,XE.1 (Nat.le_zero.1 h)]
 |n+1,m+1,s,l,J,T=>by
  simp only[KS];split
  ·exact asn n m _ _ (by rw[xv];omega) (by rw[xv];omega)
  ·rfl
theorem QZ{s:hj}{l:List UInt8}(h:64<=l.length):ld s l=ld (BL s (l.take 64)) (l.drop 64):=by
 unfold ld;obtain⟨n,aq⟩:∃n,l.length=n+1:=⟨l.length - 1,by omega⟩;rw[aq];show(if 64<=l.length then _ else _)=_;rw[be h];exact asn _ _ _ _ (by rw[xv];omega) (c_ _)
theorem KT{s:hj}{l:List UInt8}(h:l.length<64):ld s l=(s,l):=by
 unfold ld
 cases aq:l.length with
 |zero=>simp[KS]
 |succ n=>
  show(if 64<=l.length then _ else _)=_;rw[aQ (by omega)]
theorem aIT:∀(n:Nat) (s:hj) (l:List UInt8),l.length<=n->(ld s l).2.length<64:=by
 intro n
 induction n with
 |zero=>intro s l h;rw[KT (by omega)];show l.length<64;omega
 |succ n bL=>
  intro s l h;by_cases lw:64<=l.length
  ·rw[QZ lw]
   grind
  ·rw[KT (by omega)];show l.length<64;omega
theorem aso:∀(n:Nat) (s:hj) (l V:List UInt8),l.length<=n->ld s (l++V)=ld (ld s l).1 ((ld s l).2++V):=by
 intro n
 induction n with
 |zero=>
  intro s l V h;have:l=[]:=XE.1 (by omega);subst this;rfl
 |succ n bL=>
  intro s l V h;by_cases lw:64<=l.length
  ·rw[QZ lw,QZ (l:=l++V) (by grind),ak6 lw,ak7 lw]
   grind
  ·rw[KT (s:=s) (l:=l) (by omega)]
attribute [irreducible] ld
theorem aIU(w:M):bc prog 260 #[] w λv' w'=>v'=.agg (mN first)/\H al w w':=by
 refine bz func260 ntmps260 λbk af=> ?_;simp[go_sem];exact af _ _ ⟨rfl,(H.refl al w).alloc _⟩
def fd(s:hj)(v:N)(n:Nat)(on:Bool):Array N:=#[.int .u32 s.a,.int .u32 s.b,.int .u32 s.c,.int .u32 s.d,.int .u32 s.e,.int .u32 s.f,.int .u32 s.g,.int .u32 s.h,v,.int .u64 n,.bool on]
def NC(w:M)(g:Nat)(m:List UInt8):Prop:=
 ∃s v on,w.1[g]? =some (.cells (fd s v m.length on) 389 (0,0))/\bC w v (ld first m).2.length (br (ld first m).2)/\v.ownBlock≠some g/\(if on=true then s else first)=(ld first m).1/\yv s
def KU(w:M)(g:Nat)(s:hj):M:=(((((((w.setCell ⟨g,0,none⟩ (.int .u32 s.a)).setCell ⟨g,1,none⟩ (.int .u32 s.b)).setCell ⟨g,2,none⟩ (.int .u32 s.c)).setCell ⟨g,3,none⟩ (.int .u32 s.d)).setCell ⟨g,4,none⟩ (.int .u32 s.e)).setCell ⟨g,5,none⟩ (.int .u32 s.f)).setCell ⟨g,6,none⟩ (.int .u32 s.g)).setCell ⟨g,7,none⟩ (.int .u32 s.h)
theorem ahY{S:Nat->Prop}{w0 w:M}{g:Nat}{s:hj}(Z:H S w0 w)(aH:S g\/w0.1.size<=g):H S w0 (KU w g s):=
 (((((((Z.setCell (p:=bl g 0) aH _).setCell (p:=bl g 1) aH _).setCell (p:=bl g 2) aH _).setCell (p:=bl g 3) aH _).setCell (p:=bl g 4) aH _).setCell (p:=bl g 5) aH _).setCell (p:=bl g 6) aH _).setCell (p:=bl g 7) aH _
def Q_(cs:Array N)(s:hj):Array N:=(((((((cs.setIfInBounds 0 (.int .u32 s.a)).setIfInBounds 1 (.int .u32 s.b)).setIfInBounds 2 (.int .u32 s.c)).setIfInBounds 3 (.int .u32 s.d)).setIfInBounds 4 (.int .u32 s.e)).setIfInBounds 5 (.int .u32 s.f)).setIfInBounds 6 (.int .u32 s.g)).setIfInBounds 7 (.int .u32 s.h)
theorem asp{w:M}{g:Nat}{s':hj}{cs:Array N}{bv:TypeId}(ab:w.1[g]? =some (.cells cs bv (0,0))):(KU w g s').1[g]? =some (.cells (Q_ cs s') bv (0,0)):=by
 unfold KU Q_
 simp_all
theorem aIV(s s':hj)(v:N)(n:Nat)(on:Bool):Q_ (fd s v n on) s'=fd s' v n on:=by simp[Q_,fd]
theorem aIW(s s':hj):Q_ (mN s) s'=mN s':=by simp[Q_,mN]
theorem aIX{w:M}{g n:Nat}{s s':hj}{v:N}{on:Bool}{bv:TypeId}(ab:w.1[g]? =some (.cells (fd s v n on) bv (0,0))):(KU w g s').1[g]? =some (.cells (fd s' v n on) bv (0,0)):=by
 rw[asp ab,aIV]
theorem aIY{w:M}{g:Nat}{s s':hj}{bv:TypeId}(ab:w.1[g]? =some (.cells (mN s) bv (0,0))):(KU w g s').1[g]? =some (.cells (mN s') bv (0,0)):=by
 rw[asp ab,aIW]
theorem asq(g:Nat)(s:hj)(v:N)(n:Nat)(on:Bool)(w:M)(ab:w.1[g]? =some (.cells (fd s v n on) 389 (0,0))):
  bc prog 238 #[az g] w λv' w'=>v'=.agg (mN (if on=true then s else first))/\H al w w':=by
 refine bz func238 ntmps238 λbk af=> ?_;have e:=λi=>aG ab i;have aY:=(H.refl al w).alloc (.cells #[.int .u32 0,.int .u32 0,.int .u32 0,.int .u32 0,.int .u32 0,.int .u32 0,.int .u32 0,.int .u32 0] 387);have cZ:=aY.am ab id;have aL:=λi=>aG cZ i
 cases on
 ·simp[go_sem,e,aL,fd];refine(aIU _).mono ?_;rintro _ an ⟨rfl,aK⟩;have Ep:=aK.am (cr w (.cells #[.int .u32 0,.int .u32 0,.int .u32 0,.int .u32 0,.int .u32 0,.int .u32 0,.int .u32 0,.int .u32 0] 387)) id;have ahZ:=λi=>aG Ep i;have agJ:=λi=>dJ Ep i;have kb:=ahY (s:=first) (g:=w.1.size) (aY.trans aK) (.inr (c_ _));simp[go_sem,mN,ahZ,agJ];exact af _ _ ⟨rfl,kb⟩
 ·simp[go_sem,e,aL,fd];exact af _ _ ⟨rfl,(H.refl al w).alloc _⟩
theorem aIZ:(prog.info? 389).map (λi=>i.zero.isSome)=some true:=by kernel_rfl
theorem aI0:kN prog 389=fd aa_ (.slice none 0 0) 0 false:=by kernel_rfl
theorem aI1{w:M}{K:N->M->Prop}:jb prog 389 [] w K=K (.agg (fd aa_ (.slice none 0 0) 0 false)) w:=
 ma underlying389 aIZ (places:=#[(0,8),(8,1),(9,1),(10,1)]) (by simp[go_sem]) (by simp[jw,aI0])
theorem aI2(w:M):bc prog 203 #[] w λv' w'=>v'=.pointer (some ⟨w.1.size,0,none⟩)/\NC w' w.1.size []/\H al w w':=by
 refine bz func203 ntmps203 λbk af=> ?_;simp[go_sem,aI1];refine af _ _ ⟨rfl,?_,(H.refl al w).alloc _⟩;have ao:ld first []=(first,[]):=KT (by decide)
 refine⟨aa_,.slice none 0 0,false,cr _ _,?_,by simp[Value.ownBlock],?_,aIS⟩
 ·rw[ao];exact bC.nil _
 ·rw[ao];rfl
theorem asr(g:Nat)(m:List UInt8)(v:N)(b:List UInt8)(w:M)(aT:NC w g m)(aA:bC w v b.length (br b))(aM:v.ownBlock≠some g)(cu:m.length+b.length<=1000000)(r:jz w)(uH:g≠3):
  bc prog 204 #[az g,v] w λv' w'=>v'=.tuple #[]/\NC w' g (m++b)/\H (only g) w w':=by
 obtain⟨s,v0,on,ab,GD,Vf,eS,Q'⟩:=aT;refine bz func204 ntmps204 λbk af=> ?_;have jj:=lt_of_block ab;have e:=λi=>aG ab i;have z:=λi=>dJ ab i;have Tq:=aA.len underlying101 3;have gw:IntKind.u64.wrap (b.length:Int)=b.length:=by rw[tg];omega
 have u2:IntKind.u64.wrap ((m.length:Int)+b.length)=((m.length+b.length:Nat):Int):=by rw[tg];omega
 simp[go_sem,e,z,fd,Tq,gw];rw[u2];generalize dO:m.length+b.length=bd at*;have cZ:(w.setCell ⟨g,9,none⟩ (.int .u64 bd)).1[g]? =some (.cells (fd s v0 bd on) 389 (0,0)):=by
  rw[eU,ab,fU];simp[fd]
 have aY:=(H.refl (only g) w).setCell (p:=bl g 9) (.inl rfl) (.int .u64 bd);have aa':∀{v:N},v.ownBlock≠some g->∀k,v.ownBlock=some k->¬only g k:=λh k r e=>h (by rw[r,e]);have gF:=aA.ch aY (aa' aM);have aba:=GD.ch aY (aa' Vf);revert cZ aY gF aba;generalize w.setCell ⟨g,9,none⟩ (.int .u64 bd)=ai;intro cZ aY gF aba;have aL:=λi=>aG cZ i;have ah0:=aIT m.length first m (c_ _)
 generalize KV:(ld first m).2=cP at*;have pD:=aba.len underlying101 3;obtain⟨A,ah1,ass,ah2⟩:=aba.asl lE;refine cT [F 0,F 1,F 2,F 3,F 4,F 5,F 6,F 7,F 8,F 9,F 10,F 11,F 12,F 13,F 14,F 15,(16,some []),F 17] ?_;simp[go_sem,aL,fd,pD,ah2];refine aIQ lE (ah1.drew) (eO _) (gF.drew) (eO _) (AB _) (by unfold maxLen;omega) (by omega) λv4 an bn bh bA=> ?_;have bh:=(H.refl al ai).drew.trans bh;have dm:=bh.am cZ id;have Tr:v4.ownBlock≠some g:=by
  rcases bA with bA|bA
  ·rw[bA,ass];exact Vf
  ·intro h;have:=bA g h
   simp_all
 have eh:(cP++b).length<=1000000+64:=by rw[kR];omega
 have VG:bC an v4 (cP++b).length (br (cP++b)):=by rw[Gc,kR];exact bn
 have gE:ld first (m++b)=ld (if on=true then s else first) (cP++b):=by
  rw[aso m.length first m b (c_ _),eS,KV]
 simp[go_sem];refine di (λV f bI=>∃(l:List UInt8) (s':hj) (HY:Bool),V=l.length/\l.length<=1000064/\f 0=az g/\bC bI (f 4) l.length (br l)/\(f 4).ownBlock≠some g/\bI.1[g]? =some (.cells (fd s' v0 bd HY) 389 (0,0))/\yv s'/\
  ld first (m++b)=ld (if HY=true then s' else first) l/\H (only g) w bI) (cP++b).length
  ⟨cP++b,s,on,rfl,eh,by simp,by simpa using VG,by simpa using Tr,dm,Q',gE,aY.trans (bh.mono λ_ _ e=>e.elim)⟩ ?_
 rintro cQ bJ _ f bI ⟨l,s',HY,rfl,yW,f0,Dp,abb,aaS,sf,Ra,Z⟩;have ast:=Dp.len underlying101 3;by_cases lw:64<=l.length
 ·have ah3:(64:Int)<=l.length:=by omega
  obtain⟨v5,EU,SF,_,KW,_⟩:=Dp.rz lE (eO l) 0 64 (by omega) lw;replace KW:∀w',(Instr.sliceAt 101 (f 4) none (some (aa 64)) none).run prog w'=.ok v5 w':=KW rfl;obtain⟨oy,zM,Eo,_,_,FL⟩:=Dp.rz lE (eO l) 64 l.length lw (c_ _);replace FL:∀w',(Instr.sliceAt 101 (f 4) (some (aa 64)) none none).run prog w'=.ok oy w':=FL rfl;have EU:bC bI v5 64 (br (l.take 64)):=by
   rw[br,LB];simpa[br]using EU
  have zM:bC bI oy (l.drop 64).length (br (l.drop 64)):=by
   rw[xv,br,OI];have h:=zM;rw[show l.length=(br l).length from(eO l).symm,wm]at h;simpa[br]using h
  have asu:(l.take 64).length=64:=by rw[ol];omega
  simp[go_sem,ast,ah3];refine cT [F 0,F 1,F 2,F 4,F 5,(3,some [0,1,4,5]),(6,some [0,1]),F 7,F 8,(9,some [1]),F 10,F 11,(12,some [])] ?_;simp[go_sem,f0,KW];refine(asq g s' v0 bd HY bI.drew aaS).mono ?_;rintro _ aJ ⟨rfl,aI⟩;have aI:=(H.refl al bI).drew.trans aI;have fx:yv (if HY=true then s' else first):=by cases HY<;>simp[asm,sf]
  generalize cl:(if HY=true then s' else first)=S at*;simp[go_sem,f0,KW];refine(ase S v5 (l.take 64) aJ fx asu (EU.ch aI λ_ _ e=>e) (r.ch (Z.trans (aI.mono λ_ _ e=>e.elim)) (by simp only[only];exact λe=>uH e.symm))).mono ?_;rintro _ bs ⟨rfl,bo⟩;have zm:=aI.trans bo;have ht:=zm.am aaS id;have Vx:=asd S (l.take 64);have ah4:ld first (m++b)=ld (BL S (l.take 64)) (l.drop 64):=by rw[Ra,QZ lw]
  generalize bj:BL S (l.take 64)=t at*;have md:=aIX (s':=t) ht;have qY:=ahY (s:=t) (g:=g) (H.refl (only g) bs) (.inl rfl);have ug:((KU bs g t).setCell ⟨g,10,none⟩ (.bool true)).1[g]? =some (.cells (fd t v0 bd true) 389 (0,0)):=by
   rw[eU,md,fU];simp[fd]
  have qY:=qY.setCell (p:=bl g 10) (.inl rfl) (.bool true);have dl:=λi=>aG ht i;have z4:=λi=>dJ ht i;simp[go_sem,f0,mN,dl,z4,fd,FL];have Bh:oy.ownBlock≠some g:=by rw[Eo];exact abb
  refine ct.intro (l.drop 64).length (by rw[xv];omega) (bJ _ _ ((KU bs g t).setCell ⟨g,10,none⟩ (.bool true)) ⟨l.drop 64,t,true,rfl,by rw[xv];omega,by simp[f0],?_,by simpa using Bh,ug,Vx,ah4,(Z.trans (zm.mono λ_ _ e=>e.elim)).trans qY⟩);have:=(zM.ch zm λ_ _ e=>e).ch qY (aa' Bh);simpa using this
 ·have ah3:¬(64:Int)<=l.length:=by omega
  simp[go_sem,ast,ah3,f0];refine Lx lE (pA bI 0 5 1) Dp (eO _) (AB _) (by unfold maxLen;omega) (by omega) λah5 cE iB oN zB=> ?_;have dE:H al bI cE:=oN.mono λk _ e=>by simp[Value.ownBlock]at e
  have UX:=dE.am aaS id;have asv:ah5.ownBlock≠some g:=by
   rcases zB with zB|zB
   ·rw[zB];simp[Value.ownBlock]
   ·intro h;have J:=zB g h
    grind
  have BF:=bC.fF iB;obtain⟨agb,asw,SG,rfl⟩:∃A m c,ah5=.slice A m c:=by
   obtain⟨A,c,h,_⟩:=id BF;exact⟨A,_,c,h⟩
  have hX:=λi=>aG UX i;have aI3:=λi=>dJ UX i;have aI4:ld first (m++b)=((if HY=true then s' else first),l):=by rw[Ra,KT (by omega)]
  have qY:=(H.refl (only g) cE).setCell (p:=bl g 8) (.inl rfl) (.slice agb asw SG);have PT:=BF.ch qY (aa' asv);simp[go_sem,f0,hX,aI3,fd];refine af _ _ ⟨rfl,⟨s',.slice agb asw SG,HY,?_,?_,asv,by rw[aI4],sf⟩,(Z.trans (dE.mono λ_ _ e=>e.elim)).trans qY⟩
  ·rw[eU,UX,fU,kR,dO];simp[fd]
  grind
theorem aI5:∀(n:Nat) (s:hj) (l:List UInt8),l.length<=n->(ld s l).2.length=l.length%64:=by
 intro n
 induction n with
 |zero=>intro s l h;rw[KT (by omega)];show l.length=_;omega
 |succ n bL=>
  intro s l h;by_cases lw:64<=l.length
  ·rw[QZ lw,bL _ _ (by rw[xv];omega),xv];omega
  ·rw[KT (by omega)];show l.length=_;omega
def Dy(x j:Nat):List UInt8:=(List.range j).map λi=>UInt8.ofNat (x / 2^(56 - 8*i))
theorem aI6(x j:Nat):Dy x (j+1)=Dy x j++[UInt8.ofNat (x / 2^(56 - 8*j))]:=by simp[Dy,IH]
theorem aI7(x j:Nat):(Dy x j).length=j:=by simp[Dy]
def VH(n:Nat):List UInt8:=[128]++dh ((119 - n%64)%64)++Dy (8*n) 8
def ua(x:Nat):List UInt8:=[UInt8.ofNat (x / 16777216),UInt8.ofNat (x / 65536),UInt8.ofNat (x / 256),UInt8.ofNat x]
def VI(s:hj):List UInt8:=ua s.a++(ua s.b++(ua s.c++(ua s.d++(ua s.e++(ua s.f++(ua s.g++ua s.h))))))
theorem asx(s:hj):(VI s).length=32:=rfl
def KX(m:List UInt8):List UInt8:=VI (ld first (m++VH m.length)).1
theorem asy(m:List UInt8):(KX m).length=32:=rfl
def hO(s:hj)(k:Nat):Nat:=[s.a,s.b,s.c,s.d,s.e,s.f,s.g,s.h].getD k 0
def HZ(s:hj)(k:Nat):List UInt8:=(VI s).take (4*k)++dh (32 - 4*k)
theorem aI8(s:hj){k:Nat}(r:k<8):((((HZ s k).set (4*k) (UInt8.ofNat (hO s k / 16777216))).set (4*k+1) (UInt8.ofNat (hO s k / 65536))).set (4*k+2) (UInt8.ofNat (hO s k / 256))).set (4*k+3) (UInt8.ofNat (hO s k))=HZ s (k+1):=by
 match k,r with
 |0,_=>rfl
 |1,_=>rfl
 |2,_=>rfl
 |3,_=>rfl
 |4,_=>rfl
 |5,_=>rfl
 |6,_=>rfl
 |7,_=>rfl
theorem aI9(s:hj){k:Nat}(r:k<8):(mN s)[k]? =some (.int .u32 (hO s k:Nat)):=by
 match k,r with
 |0,_=>rfl
 |1,_=>rfl
 |2,_=>rfl
 |3,_=>rfl
 |4,_=>rfl
 |5,_=>rfl
 |6,_=>rfl
 |7,_=>rfl
theorem aI_{s:hj}(ok:yv s){k:Nat}(r:k<8):hO s k<4294967296:=by
 match k,r with
 |0,_=>exact ok.a
 |1,_=>exact ok.b
 |2,_=>exact ok.c
 |3,_=>exact ok.d
 |4,_=>exact ok.e
 |5,_=>exact ok.f
 |6,_=>exact ok.g
 |7,_=>exact ok.h
theorem aI'(s:hj){k:Nat}(r:k<=8):(HZ s k).length=32:=by
 simp[HZ,asx,nu];omega
attribute [irreducible] VI
theorem aJa(q k x:Nat)(l:List UInt8)(bv:TypeId)(w:M)(r:k<8)(ak:l.length=32)(W:x<4294967296)(ab:w.1[q]? =some (.cells (br l).toArray bv (0,0))):
  bc prog 240 #[aa k,.int .u32 x,az q] w λv' w'=>v'=.tuple #[]/\H (only q) w w'/\
   w'.1[q]? =some (.cells (br ((((l.set (4*k) (UInt8.ofNat (x / 16777216))).set (4*k+1) (UInt8.ofNat (x / 65536))).set (4*k+2) (UInt8.ofNat (x / 256))).set (4*k+3) (UInt8.ofNat x))).toArray bv (0,0)):=by
 refine bz func240 ntmps240 λbk af=> ?_;have nX:IntKind.i64.wrap (4*(k:Int))=4*(k:Int):=by rw[cz];omega
 have si:IntKind.i64.wrap (4*(k:Int)+1)=4*(k:Int)+1:=by rw[cz];omega
 have cf:IntKind.i64.wrap (4*(k:Int)+2)=4*(k:Int)+2:=by rw[cz];omega
 have wD:IntKind.i64.wrap (4*(k:Int)+3)=4*(k:Int)+3:=by rw[cz];omega
 have iE:4*(k:Int)<32:=by omega
 have ND:4*(k:Int)+1<32:=by omega
 have fl:4*(k:Int)+2<32:=by omega
 have Ml:4*(k:Int)+3<32:=by omega
 have n0:(0:Int)<=4*(k:Int):=by omega
 have iW:(0:Int)<=4*(k:Int)+1:=by omega
 have kh:(0:Int)<=4*(k:Int)+2:=by omega
 have jP:(0:Int)<=4*(k:Int)+3:=by omega
 have t0:(4*(k:Int)).toNat=4*k:=by omega
 have t1:(4*(k:Int)+1).toNat=4*k+1:=by omega
 have el:(4*(k:Int)+2).toNat=4*k+2:=by omega
 have t3:(4*(k:Int)+3).toNat=4*k+3:=by omega
 have v0:IntKind.u8.wrap ((x:Int) / 16777216)=((x / 16777216%256:Nat):Int):=by rw[Gh];omega
 have fY:IntKind.u8.wrap ((x:Int) / 65536)=((x / 65536%256:Nat):Int):=by rw[Gh];omega
 have hk:IntKind.u8.wrap ((x:Int) / 256)=((x / 256%256:Nat):Int):=by rw[Gh];omega
 have v3:IntKind.u8.wrap (x:Int)=((x%256:Nat):Int):=by rw[Gh];omega
 have aH:∀i,i<32->∃c,(br l).toArray[i]? =some (ce c):=λi ad=>by
  refine⟨l[i]'(by omega),?_⟩;rw[yL];exact ar7 (d_ (by omega))
 obtain⟨gs,fa⟩:=aH (4*k) (by omega);obtain⟨aY,hf⟩:=aH (4*k+1) (by omega);obtain⟨aK,eI⟩:=aH (4*k+2) (by omega);obtain⟨aI,jd⟩:=aH (4*k+3) (by omega);have mQ:=(aG ab (4*k)).trans fa;have oY:=(aG ab (4*k+1)).trans hf;have jH:=(aG ab (4*k+2)).trans eI;have Ah:=(aG ab (4*k+3)).trans jd;have z:=λi=>dJ ab i;simp[go_sem,nX,si,cf,wD,iE,ND,fl,Ml,n0,iW,kh,jP,t0,t1,el,t3,mQ,oY,jH,Ah,z];rw[v0,fY,hk,v3];refine af _ _ ⟨rfl,((((H.refl (only q) w).setCell (p:=bl q (4*k)) (.inl rfl) _).setCell (p:=bl q (4*k+1)) (.inl rfl) _).setCell (p:=bl q (4*k+2)) (.inl rfl) _).setCell (p:=bl q (4*k+3)) (.inl rfl) _,?_⟩;rw[eU,eU,eU,eU,ab];simp only[fU,<-adn,aJb]
theorem aJc(g:Nat)(m:List UInt8)(w:M)(aT:NC w g m)(cu:m.length<=1000000)(r:jz w)(uH:g≠3):
  bc prog 205 #[az g] w λv' w'=>v'=.agg (br (KX m)).toArray/\H al w w':=by
 obtain⟨s,v0,on,ab,GD,Vf,eS,Q'⟩:=aT;refine bz func205 ntmps205 λbk af=> ?_;obtain⟨la,Ai⟩:=aD ((br (dh 32)).toArray);have Ch:kN prog 41=la:=by rw[<-Ai];kernel_rfl
 have nR:(prog.info? 41).map (λi=>i.zero.isSome)=some true:=by kernel_rfl
 simp[go_sem,nR,Ch];have aY:=(H.refl al w).alloc (.cells la 41);have bt:=cr w (.cells la 41);have cZ:=aY.am ab id;have gF:=GD.ch aY λ_ _ e=>e;have dx:=r.ch aY id;have xA:(w.alloc (.cells la 41)).1.size=w.1.size+1:=by simp
 revert bt aY cZ gF dx xA;generalize w.alloc (.cells la 41)=ai;generalize au:w.1.size=q;intro aY bt cZ gF dx xA;have aL:=λi=>aG cZ i;have asz:=aI5 m.length first m (c_ _)
 have BG:KX m=VI (ld (if on=true then s else first) ((ld first m).2++VH m.length)).1:=by
  unfold KX;rw[aso m.length first m _ (c_ _),eS]
 generalize KV:(ld first m).2=cP at*;have pD:=gF.len underlying101 3;obtain⟨A,ah1,ass,ah2⟩:=gF.asl lE;refine cT [F 0,F 1,F 2,F 3,F 4,F 5,F 6,F 7,F 8,F 9,F 10,F 11,F 12,F 13,F 14,(15,some [0,1,2,3,4,5,6,7,8,9,10,11,12,13,14]),(16,some []),F 17] ?_;have abc:=(H.refl al ai).alloc (.cells #[.int .u8 128] 5);have dm:=abc.am cZ id;have aR:=λi=>aG dm i;simp[go_sem,aL,aR,fd,pD,ah2];have aJd:=cr ai (.cells #[.int .u8 128] 5);have VG:=(bC.Gb aJd (n:=1) (c:=1) (off:=0) (xs:=br [128]) (c_ _) (by decide) rfl).drew;have ah6:=((ah1.ch abc λ_ _ e=>e).drew);have aSD:cP.length<64:=by rw[asz];exact IE _ (by decide)
 have ah7:((ai.alloc (.cells #[.int .u8 128] 5)).drew).1[g]? =some (.cells (fd s v0 m.length on) 389 (0,0)):=dm;have zK:((ai.alloc (.cells #[.int .u8 128] 5)).drew).1[q]? =some (.cells la 41 (0,0)):=abc.am bt id;have abd:=(aY.trans abc).drew;revert VG ah6 ah7 zK abd;generalize(ai.alloc (.cells #[.int .u8 128] 5)).drew=an;intro VG ah6 ah7 zK abd;refine aIR lE ah6 (eO _) VG rfl (by decide) (AB _) (by unfold maxLen;omega) (by omega) λv4 bs bn bh bA=> ?_;have NE:kD 5 an v4 (cP.length+1) (br (cP++[128])) bs:=⟨by rw[Gc];exact bn,bh,bA⟩;have abe:∀{u:M},H al an u->u.1[g]? =some (.cells (fd s v0 m.length on) 389 (0,0))/\u.1[q]? =some (.cells la 41 (0,0)):=λh=>⟨h.am ah7 id,h.am zK id⟩;simp[go_sem];have sC:∀{u:M} {v:N} {n:Nat} {l:List UInt8} (c:UInt8) {K:N->M->Prop} {bV:TypeId},kD 5 an v n (br l) u->n<=1000->(∀v' cq,kD 5 an v' (n+1) (br (l++[c])) cq->K v' cq)->pN prog .append #[101,101] bV #[v,.slice (some ⟨u.1.size,0,none⟩) 1 1] (u.alloc (.cells #[.int .u8 c.toNat] 5)) K:=by
  intro u v n l c K bV J ag aP;refine HP lE J.own rfl (by unfold maxLen;omega) (by omega) λv' cq iB oN zB=> ?_;have bH:=J.grow iB oN zB;exact aP _ _ (by rw[Gc];exact bH)
 generalize DX:(119 - cP.length)%64=Rb;refine di (λV f u=>∃j,j<=Rb/\V=Rb - j/\f 0=az g/\f 2=az q/\kD 5 an (f 3) (cP.length+1+j) (br (cP++[128]++dh j)) u) Rb
  ⟨0,by omega,rfl,by simp,by simp,by simpa[dh]using NE⟩ ?_
 rintro cQ bJ _ f u ⟨j,I,rfl,f0,bg,aC⟩;have Rc:=aC.dR.len underlying101 3;have ah8:((cP.length:Int)+1+j).tmod 64=(((cP.length+1+j)%64:Nat):Int):=by rw[Sm (by omega)];omega
 by_cases aSE:j<Rb
 ·have dn:((((cP.length+1+j)%64:Nat):Int)!=56)=true:=by
   rw[bne,hv (by omega)];rfl
  simp[go_sem,Rc,ah8];rw[show(((cP.length:Int)+1+j)%64 !=56)=true by grind];simp[go_sem];refine sC 0 aC (by omega) λv' cq NF=> ?_;simp[go_sem];refine ct.intro (Rb -(j+1)) (by omega) (bJ _ _ _ ⟨j+1,by omega,rfl,by simp[f0],by simp[bg],?_⟩);have e:cP++[128]++dh (j+1)=cP++[128]++dh j++[0]:=by
   rw[show dh (j+1)=dh j++[0]by unfold dh;rw[ac3]];simp
  rw[e];simpa[yH]using NF
 ·obtain rfl:j=Rb:=by omega
  have dn:((((cP.length+1+j)%64:Nat):Int)!=56)=false:=by
   rw[show(cP.length+1+j)%64=56 by omega];rfl
  simp[go_sem,Rc,ah8];have KM:(((cP.length:Int)+1+j)%64 !=56)=false:=by
   have:((cP.length:Int)+1+j)%64=56:=by omega
   rw[this];decide
  rw[KM];simp[go_sem];have aJe:VH m.length=[128]++dh j++Dy (8*m.length) 8:=by unfold VH;rw[<-asz,DX]
  clear bJ cQ dn ah8 Rc;obtain⟨pV,zY⟩:=aD (cP++[128]++dh j);obtain⟨iW,tS⟩:=aD (cP.length+1+j);have aJf:pV.length=iW:=by rw[<-zY,<-tS];simp[nu];omega
  rw[zY,tS]at aC;have aSF:iW%64=56:=by omega
  have aSG:iW<=200:=by omega
  refine di (λV f u=>∃i,i<=8/\V=8 - i/\f 0=az g/\f 2=az q/\f 4=aa (56 - 8*(i:Int))/\kD 5 an (f 3) (iW+i) (br (pV++Dy (8*m.length) i)) u) 8
   ⟨0,by omega,rfl,by simp[f0],by simp[bg],by simp,by simpa[Dy]using aC⟩ ?_
  clear aC f0 bg f;rintro cQ bJ _ f u ⟨i,ad,rfl,f0,bg,ck,aC⟩;by_cases asA:i<8
  ·have fy:(0:Int)<=56 - 8*(i:Int):=by omega
   have CV:8*(i:Int)<=56:=by omega
   have asB:f 4=aa ((56 - 8*i:Nat):Int):=by grind
   have Ae:=(abe aC.ch).1;have ah9:u.cell? (bl g 9)=some (.int .u64 (m.length:Nat)):=(aG Ae 9).trans (by simp[fd]);have yF:IntKind.u64.wrap (8*(m.length:Int))=((8*m.length:Nat):Int):=by rw[tg];omega
   have ec:IntKind.i64.wrap (((56 - 8*i:Nat):Int) - 8)=56 - 8*((i+1:Nat):Int):=by rw[cz];omega
   have aJg:(0:Int)<=((56 - 8*i:Nat):Int):=by omega
   generalize Z:56 - 8*i=gJ at*;simp[go_sem,f0,asB,ah9,yF,aJg];have AF:IntKind.u8.wrap (8*(m.length:Int) / 2^gJ)=((UInt8.ofNat (8*m.length / 2^gJ)).toNat:Int):=by
    rw[show 8*(m.length:Int) / 2^gJ=((8*m.length / 2^gJ:Nat):Int)by simp,Gh,acn];omega
   rw[AF];refine sC _ aC (by omega) λv' cq NF=> ?_;simp[go_sem,asB,ec];refine ct.intro (8 -(i+1)) (by omega) (bJ _ _ _ ⟨i+1,by omega,rfl,by simp[f0],by simp[bg],by simp,?_⟩);rw[aI6,Z,<-nv];simpa[yH]using NF
  ·obtain rfl:i=8:=by omega
   have CV:¬8*((8:Nat):Int)<=56:=by omega
   simp[go_sem,ck];have Ae:=(abe aC.ch).1;rw[f0];refine(asq g s v0 m.length on u Ae).mono ?_;rintro _ jl ⟨rfl,aI⟩;have fx:yv (if on=true then s else first):=by cases on<;>simp[asm,Q']
   have hF:cP++VH m.length=pV++Dy (8*m.length) 8:=by rw[aJe,<-zY];simp
   rw[hF]at BG;obtain⟨VJ,asC⟩:=aD (pV++Dy (8*m.length) 8);have aSH:VJ.length=iW+8:=by rw[<-asC,kR,aJf,aI7]
   rw[asC]at BG aC;generalize aSI:(if on=true then s else first)=nq at*;simp[go_sem,mN];have bo:=(H.refl al jl).alloc (.cells #[.int .u32 nq.a,.int .u32 nq.b,.int .u32 nq.c,.int .u32 nq.d,.int .u32 nq.e,.int .u32 nq.f,.int .u32 nq.g,.int .u32 nq.h] 387);have dG:=cr jl (.cells #[.int .u32 nq.a,.int .u32 nq.b,.int .u32 nq.c,.int .u32 nq.d,.int .u32 nq.e,.int .u32 nq.f,.int .u32 nq.g,.int .u32 nq.h] 387);have zx:=(aC.step aI).step bo;clear bo;revert dG zx;generalize jl.alloc (.cells #[.int .u32 nq.a,.int .u32 nq.b,.int .u32 nq.c,.int .u32 nq.d,.int .u32 nq.e,.int .u32 nq.f,.int .u32 nq.g,.int .u32 nq.h] 387)=rE;generalize Nj:jl.1.size=hw;intro dG zx;have aSJ:an.1.size<=hw:=by rw[<-Nj];exact(aC.ch.trans aI).size
   have zl:∀df,(f 3).ownBlock=some df->df<hw:=λdf kZ=>by
    have:=adm (aC.step aI).own df kZ;omega
   clear Ae;refine di (λV f' x=>∃(l:List UInt8) (S:hj),V=l.length/\l.length%64=0/\l.length<=1000/\f' 2=az q/\f' 5=az hw/\bC x (f' 3) l.length (br l)/\(f' 3).ownBlock=(f 3).ownBlock/\x.1[hw]? =some (.cells (mN S) 387 (0,0))/\yv S/\ld nq VJ=ld S l/\H al an x) VJ.length
    ⟨VJ,nq,rfl,by omega,by omega,by simp[bg],by simp,by have:=zx.dR;simp_all,by simp,dG,fx,rfl,zx.ch⟩ ?_
   rintro cQ bJ _ f' x ⟨l,S,rfl,asu,Tq,cj,cO,lx,xM,vc,asD,asE,cx⟩;have yW:=lx.len underlying101 3;by_cases bi:0<l.length
   ·have tx:(0:Int)<l.length:=by omega
    have lw:64<=l.length:=by omega
    obtain⟨v5,EU,SF,_,KW,_⟩:=lx.rz lE (eO l) 0 64 (by omega) lw;replace KW:∀w',(Instr.sliceAt 101 (f' 3) none (some (aa 64)) none).run prog w'=.ok v5 w':=KW rfl;obtain⟨oy,zM,Eo,_,_,FL⟩:=lx.rz lE (eO l) 64 l.length lw (c_ _);replace FL:∀w',(Instr.sliceAt 101 (f' 3) (some (aa 64)) none none).run prog w'=.ok oy w':=FL rfl;have EU:bC x v5 64 (br (l.take 64)):=by
     rw[br,LB];simpa[br]using EU
    have zM:bC x oy (l.drop 64).length (br (l.drop 64)):=by
     rw[xv,br,OI];have h:=zM;rw[show l.length=(br l).length from(eO l).symm,wm]at h;simpa[br]using h
    have aJh:(l.take 64).length=64:=by rw[ol];omega
    have gL:=λi=>aG vc i;simp[go_sem,yW,tx,bi];refine cT [F 0,F 1,F 2,(3,some []),(4,some [])] ?_;simp[go_sem,cO,KW,gL,mN];refine(ase S v5 (l.take 64) x.drew asD aJh EU.drew (r.ch ((abd.trans cx).drew) id)).mono ?_;rintro _ cX ⟨rfl,aK⟩;have aK:=(H.refl al x).drew.trans aK;have dm:=aK.am vc id;have Vx:=asd S (l.take 64);have ah4:ld nq VJ=ld (BL S (l.take 64)) (l.drop 64):=by rw[asE,QZ lw]
    generalize bj:BL S (l.take 64)=t at*;have fm:=aIY (s':=t) dm;have qY:=ahY (s:=t) (g:=hw) (H.refl (only hw) cX) (.inl rfl);have aR:=λi=>aG dm i;have sp:=λi=>dJ dm i;simp[go_sem,cO,mN,aR,sp,FL];have asF:oy.ownBlock=(f 3).ownBlock:=by rw[Eo,xM]
    refine ct.intro (l.drop 64).length (by rw[xv];omega) (bJ _ _ (KU cX hw t) ⟨l.drop 64,t,rfl,by rw[xv];omega,by rw[xv];omega,by simp[cj],by simp[cO],?_,by simpa using asF,fm,Vx,ah4,(cx.trans aK).bZ qY (λaJi qz e=>by simp only[only]at e;omega)⟩);have:=(zM.ch aK λ_ _ e=>e).ch qY (λdf kZ e=>by
     rw[asF]at kZ;have:=zl df kZ;simp only[only]at e;omega)
    simpa using this
   ·have tx:¬(0:Int)<l.length:=by omega
    have pD:l=[]:=XE.1 (by omega);subst pD;rw[asE,KT (by decide)]at BG;have cF:=(H.refl al x).alloc (.cells la 41);have gj:=cr x (.cells la 41);have ug:=cF.am vc id;have Az:=cF.am (abe cx).2 id;have je:=λi=>aG ug i;have Cu:=cx.trans cF;have Nw:la.size=32:=by rw[<-Ai];simp[eO,nu]
    have apC:an.1.size<=x.1.size:=cx.size;have Vp:q<x.1.size:=lt_of_block (abe cx).2;simp[go_sem,yW,nR,Ch,cO,je,mN];clear cF je;revert gj ug Az Cu;generalize x.alloc (.cells la 41)=IT;generalize x.1.size=vj at*;intro gj ug Az Cu;refine di (λV vs y=>∃k,k<=8/\V=8 - k/\vs 2=az q/\vs 6=az vj/\vs 7=.func (.func 240) #[] #[az vj]/\vs 65=.agg (mN S)/\vs 66=aa k/\
     y.1[vj]? =some (.cells (br (HZ S k)).toArray 41 (0,0))/\y.1[q]? =some (.cells la 41 (0,0))/\H al an y) 8
     ⟨0,by omega,rfl,by simp[cj],by simp,by simp,by simp[mN],by simp,by rw[show HZ S 0=dh 32 from rfl,Ai];exact gj,Az,Cu⟩ ?_
    clear bJ cQ;rintro cQ bJ _ vs y ⟨k,mT,rfl,T,cS,fi,asG,ah_,Do,ah',fI⟩;by_cases fH:k<8
    ·have eo:(k:Int)<8:=by omega
     have ej:IntKind.i64.wrap ((k:Int)+1)=((k+1:Nat):Int):=by simp[cz];omega
     have pB:=λw=>IF (P:=prog) (kd:=.i64) underlying387 Tryz.sizeOf40 Tryz.isAgg40 fH (aI9 S fH) w;simp[go_sem,fi,asG,ah_,eo,pB];have oC:∀(a:List N) (w:M),(callFunc 240 a.toArray).run prog w=.ok (.enter 240 a.toArray) w:=λa w=>by simp[go_sem]
     rw[EJ _ _ _ _ [az vj] _ (oC _ _)];refine(aJa vj k (hO S k) (HZ S k) _ y fH (aI' S mT) (aI_ asD fH) Do).mono ?_;rintro _ fv ⟨rfl,aK,KP⟩;rw[aI8 S fH]at KP;simp[go_sem,ah_,ej];exact ct.intro (8 -(k+1)) (by omega) (bJ _ _ _ ⟨k+1,by omega,rfl,by simp[T],by simp[cS],by simp[fi],by simp[asG],by simp,KP,aK.am ah' (by simp only[only];omega),fI.bZ aK (λaJi qz e=>by simp only[only]at e;omega)⟩)
    ·obtain rfl:k=8:=by omega
     have QV:HZ S 8=KX m:=by
      rw[BG];unfold HZ;simp only[];rw[mP (by rw[asx];decide)];simp[dh]
     rw[QV]at Do;obtain⟨bw,jm⟩:=aD ((br (KX m)).toArray);have NB:bw.size=32:=by rw[<-jm];simp[eO,asy]
     have Ny:jx bw=true:=by rw[<-jm];exact aia _
     have aib:bw.extract 0 32=bw:=by rw[show(32:Nat)=bw.size from NB.symm];simp
     rw[jm]at Do af;have qj:(y.setRow q bw).1[q]? =some (.cells bw 41 (0,0)):=by rw[gh,ah'];rfl
     simp[go_sem,T,cS,ah_,Do,ah',NB,aib,Nw,Ny,bS,qj];exact af _ _ ⟨rfl,(abd.trans fI).setRow (g:=q) (.inr (by omega)) _⟩
end Go.Proofs.YtoohkhcpboldjaaGreatDoor
