/- The maker tells that a whole tree is old. Conditions: the variables ptr.wide, tree.hole and sha.constants lie among the blocks that are kept. -/
import Derived.Test.YtoohkhcpboldjaaGreatDoorMcH
set_option maxRecDepth 100000
set_option maxHeartbeats 4000000
set_option linter.unusedSimpArgs false
set_option linter.unusedVariables false
namespace Go.Proofs.YtoohkhcpboldjaaGreatDoor
open Go.RowKit Go.Kin
def kZ(n:Nat)(s:ao)(w d j:Nat):ao×List Nat:=if d=0 then((s.ju n 0 j).1,(s.ju n 0 j).2++[0,0])else(((s.ju n 0 w).1.ju n 1 j).1,(s.ju n 0 w).2++((s.ju n 0 w).1.ju n 1 j).2)
def xx(n:Nat)(s:ao)(w d:Nat):ao×List Nat:=if d=0 then kZ n s w 0 0 else if d=1 then kZ n s w 1 0 else kZ n s w 1 w
theorem afa(n:Nat)(s:ao)(d j:Nat):(s.ju n d j).2.length=2:=by
 unfold ao.ju
 grind
theorem aqu{n:Nat}{s:ao}{w d j:Nat}(bH:w<=2)(bi:d<2)(F:j<w):kZ n s w d (j+1)=(((kZ n s w d j).1.alloc n d).1,(kZ n s w d j).2.set (2*d+j) ((kZ n s w d j).1.alloc n d).2):=by
 have RU:d=0\/d=1:=by omega
 have mA:j=0\/j=1:=by omega
 have al:=afa n s 0 w;obtain⟨x,y,e⟩:∃x y,(s.ju n 0 w).2=[x,y]:=by
  match h:(s.ju n 0 w).2,al with
  |[x,y],_=>exact⟨x,y,rfl⟩
 rcases RU with rfl|rfl
 ·rcases mA with rfl|rfl<;>simp[kZ,ao.ju]
 ·rcases mA with rfl|rfl<;>simp[kZ,e]<;>simp[ao.ju]
theorem XD(n:Nat)(s:ao)(w d j:Nat):(kZ n s w d j).2.length=4:=by
 unfold kZ;split<;>simp[afa]
theorem afb(n:Nat)(s:ao)(w:Nat):xx n s w 0=(s,[0,0,0,0]):=by simp[xx,kZ,ao.ju]
theorem aqv{n:Nat}{s:ao}{w d:Nat}(bi:d<2):xx n s w d=kZ n s w d 0:=by
 have:d=0\/d=1:=by omega
 rcases this with rfl|rfl<;>simp[xx]
theorem afc{n:Nat}{s:ao}{w d:Nat}(bi:d<2):kZ n s w d w=xx n s w (d+1):=by
 have:d=0\/d=1:=by omega
 rcases this with rfl|rfl
 ·simp[xx,kZ,ao.ju]
 ·simp[xx]
theorem aqw(n:Nat)(s:ao)(w:Nat):xx n s w 2=s.u' n w:=by simp[xx,kZ,ao.u']
theorem XE{n:Nat}(s:ao)(d:Nat)(av:n<=65536):(s.alloc n d).2<65536:=by
 unfold ao.alloc;split
 ·omega
 ·rcases RV n s d with⟨e,_⟩|⟨_,h,_⟩
  ·omega
  ·simp only;omega
theorem afd{n:Nat}{s:ao}{w d:Nat}(bH:w<=2)(bi:d<2)(av:n<=65536):∀j,j<=w->∀x∈(kZ n s w d j).2,x<65536:=by
 have I:∀(s:ao) (d j:Nat),∀x∈(s.ju n d j).2,x<65536:=λs d j x M=>by
  unfold ao.ju at M;split at M
  ·simp at M;omega
  ·split at M
   ·simp at M;rcases M with rfl|rfl
    ·exact XE _ _ av
    ·decide
   ·simp at M;rcases M with rfl|rfl
    ·exact XE _ _ av
    ·exact XE _ _ av
 intro j _ x M;unfold kZ at M
 grind
theorem afe(n:Nat)(s:ao)(d w:Nat):hx s (s.ju n d w).1:=by
 have am:∀s:ao,hx s (s.alloc n d).1:=λs=>by
  unfold ao.alloc;split
  ·exact hx.refl s
  ·exact hx.hf _ _ _ _
 unfold ao.ju;split
 ·exact hx.refl s
 ·split
  ·exact am s
  ·exact(am s).trans (am _)
theorem XF(n:Nat)(s:ao)(w:Nat):hx s (s.u' n w).1:=(afe n s 0 w).trans (afe n _ 1 w)
theorem hx.kI{s s':ao}{c:Nat}(h:hx s s')(f:s.g_ c):s'.g_ c:=⟨by rw[h.P];exact f.dq,by rw[h.au];exact f.bB,by rw[h.au];exact f.fv,by rw[h.ep];exact f.ep,by rw[h.e_];exact f.e_,by rw[h.dx];exact f.dx⟩
theorem aqx(q:Pt)(x:Nat):(Y q).setIfInBounds 4 (.int .u64 x)=Y {q with b:=x}:=by
 apply Array.ext';simp[Y]
section
variable{w w':World}{k m p n aT:Nat}{z:fe}{t:dy}{aL ed:Value}{ag:Nat->Nat->Prop}{S:Nat->Prop}
theorem aff(h:km w k m p n z aT t aL ag ed)(q:Pt)(ok:bN q)(gy:aT<18446744073709551616)(av:n<=65536)(b:cX)(V:b.length=512)(v:Value)(aS:bD w v 512 (bm b))(hS:∀j,v.ownBlock=some j->¬nh k m p z aL ag ed j/\j<w.1.size)(bH:lN w)(r:ja w)
  (aF:∀j,(j=0\/j=3)->¬nh k m p z aL ag ed j){c:Nat}(kI:t.s.g_ c)(T:c<=700000)(aH:t.bI.length<=700000):
  aP Tryz.prog 125 #[.pointer (some ⟨k,0,none⟩),.agg (Y q),v] w λW w'=>W=.tuple #[.agg (Y (hg n aT t q b).2.1),.int .i64 (hg n aT t q b).2.2]/\
   (∃jb gh CL,km w' k m p n z aT (hg n aT t q b).1 jb gh CL/\∀j,nh k m p z jb gh CL j->ax (nh k m p z aL ag ed) w w' j)/\D (nh k m p z aL ag ed) w w':=by
 refine bn Tryz.func125 Tryz.ntmps125 λaZ Z=> ?_;have cU:=bW ok;have cT:=dW ok;have dN:=bW cE;have iz:=dW cE;have al:=h.lt;have aY:=((D.refl ak w).alloc (.cells (Y q) 44)).alloc (.cells (Y ad) 44);have bj:=oa w (.cells (Y q) 44) (.cells (Y ad) 44);have ba:=ny w (.cells (Y q) 44) (.cells (Y ad) 44);simp[go_sem,cU,cT,gm,gn];obtain⟨ab,de⟩:=az ((w.alloc (.cells (Y q) 44)).alloc (.cells (Y ad) 44));rw[de]at aY bj ba⊢;obtain⟨g,aqy⟩:=az (w.1.size);rw[aqy]at bj ba⊢;have H:=h.ch aY λ_ _ e=>e;have hr:ab.cell? ⟨k,2,none⟩=some (.int .u64 aT):=aG H.blk 2;have cR:=aG bj;have z0:=λi=>dD bj i;obtain⟨a0,a1,a2,a3,uc,_⟩:=a4 ok;have jk:=(cR 4).trans QV;have RW:=(cR 37).trans (lO ok (i:=0) (by rw[uc];rfl));have RX:=(cR 38).trans (lO ok (i:=1) (by rw[uc];rfl));have RY:=(cR 39).trans (lO ok (i:=2) (by rw[uc];rfl));have RZ:=(cR 40).trans (lO ok (i:=3) (by rw[uc];rfl));simp[go_sem,hr,jk,RW,RX,RY,RZ,z0];obtain⟨fC,CM⟩:=az ({q with b:=aT,a:=[0,0,0,0]}:Pt);have aA:=(((((D.refl (aj g) ab).setCell (p:=⟨g,4,none⟩) (.inl rfl) (.int .u64 aT)).setCell (p:=⟨g,37,none⟩) (.inl rfl) (.int .u16 0)).setCell (p:=⟨g,38,none⟩) (.inl rfl) (.int .u16 0)).setCell (p:=⟨g,39,none⟩) (.inl rfl) (.int .u16 0)).setCell (p:=⟨g,40,none⟩) (.inl rfl) (.int .u16 0);have cC:(((((ab.setCell ⟨g,4,none⟩ (.int .u64 aT)).setCell ⟨g,37,none⟩ (.int .u16 0)).setCell ⟨g,38,none⟩ (.int .u16 0)).setCell ⟨g,39,none⟩ (.int .u16 0)).setCell ⟨g,40,none⟩ (.int .u16 0)).1[g]? =some (.cells (Y fC) 44 (0,0)):=by
  rw[eY,eY,eY,eY,eY,bj,gp,gp,gp,gp,gp,aqx];have zl:=Jc (p:={q with b:=aT}) ok.h 0 0;have gM:=Jc (p:={q with b:=aT,a:=q.a.set 0 0}) ok.h 1 0;have gN:=Jc (p:={q with b:=aT,a:=(q.a.set 0 0).set 1 0}) ok.h 2 0;have iO:=Jc (p:={q with b:=aT,a:=((q.a.set 0 0).set 1 0).set 2 0}) ok.h 3 0;simp only[Nat.reduceAdd]at zl gM gN iO;have JI:(Value.int .u16 0)=.int .u16 ((0:Nat):Int):=rfl;rw[JI,zl,gM,gN,iO,<-CM,uc];rfl
 obtain⟨ai,hd⟩:=az (((((ab.setCell ⟨g,4,none⟩ (.int .u64 aT)).setCell ⟨g,37,none⟩ (.int .u16 0)).setCell ⟨g,38,none⟩ (.int .u16 0)).setCell ⟨g,39,none⟩ (.int .u16 0)).setCell ⟨g,40,none⟩ (.int .u16 0));rw[hd]at aA cC⊢;have AW:∀j,nh k m p z aL ag ed j->j<g:=λj F=>by have:=al j F;omega
 have I:=H.ch aA λj F e=>by simp only[aj]at e;have:=AW j F;omega
 have aqz:=aA.obj ba (show¬aj g (g+1)by simp only[aj];omega);have xc:bN fC:=by rw[<-CM];exact⟨ok.k,ok.l,ok.o,ok.f,gy,ok.h,rfl,by simp⟩
 have aqA:fC.k=q.k:=by rw[<-CM]
 have aHf:fm q.k<=2:=by unfold fm;split;omega;split<;>omega
 obtain⟨N,fu⟩:=az (fm q.k);have hd:lN ai:=(bH.ch aY id).ch aA (by simp only[aj];have:=bH.lt;omega);have CN:∀d j,d<2->j<=N->bN {fC with a:=(kZ n t.s N d j).2}:=λd j bi F=>⟨xc.k,xc.l,xc.o,xc.f,xc.b,xc.h,XD _ _ _ _ _,λx M=>afd (by omega) bi av j F x M⟩;refine du (λJ f bE=>∃d,d<=2/\J=2 - d/\f 0=.pointer (some ⟨k,0,none⟩)/\f 2=v/\f 4=.pointer (some ⟨g,0,none⟩)/\f 6=.pointer (some ⟨g+1,0,none⟩)/\f 17=.int .i64 d/\km bE k m p n z aT ⟨(xx n t.s N d).1,t.bI,t.fL⟩ aL ag ed/\bE.1[g]? =some (.cells (Y {fC with a:=(xx n t.s N d).2}) 44 (0,0))/\bE.1[g+1]? =some (.cells (Y ad) 44 (0,0))/\D (λj=>jc z j\/j=g) ai bE) 2
  ⟨0,by omega,rfl,by simp,by simp,by simp,by simp,by simp,by rw[afb];exact I,by rw[afb,<-CM];rw[<-CM]at cC;exact cC,aqz,D.refl _ _⟩ ?_
 rintro cJ bK _ f bE ⟨d,RU,rfl,f0,bh,cr,f6,lz,hh,ht,db,ud⟩;by_cases bi:d<2
 ·have AX:(d:Int)<2:=by omega
  have pm:IntKind.i64.wrap ((d:Int)+1)=((d+1:Nat):Int):=by rw[IntKind.wrap_i64];omega
  have zl:bE.cell? ⟨g,0,none⟩=some (.int .u8 q.k):=by rw[<-aqA];exact(aG ht 0).trans Cl
  have XG:∀j,(jc z j\/j=g)->¬j=0:=λj F e=>by
   rcases F with F|F
   ·exact aF j (.inl e) (.inl (sc z m p aL ag j F))
   ·have:=bH.lt;omega
  simp[go_sem,f0,cr,lz,AX,zl];refine(afg q.k bE ok.k (hd.ch ud λe=>XG _ e rfl)).mono ?_;rintro _ rn ⟨rfl,rfl⟩;rw[fu];simp[go_sem];rw[aqv bi]at hh ht;refine du (λJ f bE=>∃j,j<=N/\J=N - j/\f 0=.pointer (some ⟨k,0,none⟩)/\f 2=v/\f 4=.pointer (some ⟨g,0,none⟩)/\f 6=.pointer (some ⟨g+1,0,none⟩)/\f 17=.int .i64 d/\f 8=.int .i64 d/\f 22=.int .i64 N/\f 23=.int .i64 j/\km bE k m p n z aT ⟨(kZ n t.s N d j).1,t.bI,t.fL⟩ aL ag ed/\bE.1[g]? =some (.cells (Y {fC with a:=(kZ n t.s N d j).2}) 44 (0,0))/\bE.1[g+1]? =some (.cells (Y ad) 44 (0,0))/\D (λj=>jc z j\/j=g) ai bE) N
   ⟨0,Nat.zero_le _,rfl,by simp[f0],by simp[bh],by simp[cr],by simp[f6],by simp[lz],by simp,by simp,by simp,hh,ht,db,ud⟩ ?_
  clear f0 bh cr f6 lz hh ht db ud zl f;rintro CO pV _ f bE ⟨j,aqB,rfl,f0,bh,cr,f6,lz,bz,f22,f23,hh,ht,db,ud⟩;by_cases F:j<N
  ·have jt:(j:Int)<N:=by omega
   have kJ:IntKind.i64.wrap ((j:Int)+1)=((j+1:Nat):Int):=by rw[IntKind.wrap_i64];omega
   have afh:IntKind.i64.wrap (2*(d:Int))=2*d:=by rw[IntKind.wrap_i64];omega
   obtain⟨jL,pT⟩:=az (2*d+j);have rp:IntKind.i64.wrap (2*(d:Int)+j)=(jL:Int):=by rw[IntKind.wrap_i64];omega
   have cK:bE.cell? ⟨k,1,none⟩=some (.pointer (some ⟨z.b_,0,none⟩)):=aG hh.blk 1;simp[go_sem,f0,bz,lz,f22,f23,jt,F,afh,rp,cK];refine(aqC hh.nE bi av).mono ?_;rintro _ fz ⟨rfl,af,aE⟩;have oe:D (jc z) bE fz:=aE.mono λa _ e=>MX z bi a e;have ue:∀a,a<g+2->g<=a->¬jc z a:=λa _ am e=>by have:=AW a (.inl (sc z m p aL ag a e));omega
   have XH:=oe.obj ht (ue g (by omega) (by omega));have Wq:=oe.obj db (ue (g+1) (by omega) (by omega));have EN:=hh.MY af oe t.fL;obtain⟨yV,xy⟩:∃yV,(kZ n t.s N d j).2[jL]? =some yV:=⟨_,List.getElem?_eq_getElem (by rw[XD];omega)⟩;have gM:=(aG XH (37+jL)).trans (lO (CN d j bi aqB) xy);have ip:=λi=>dD XH i;have xz:jL<4:=by omega
   have aqD:(jL:Int)<4:=by omega
   have el:=aqu (n:=n) (s:=t.s) (show N<=2 by omega) bi F;have cs:=(D.refl (aj g) fz).setCell (p:=⟨g,37+jL,none⟩) (.inl rfl) (.int .u16 ((kZ n t.s N d j).1.alloc n d).2);have dk:(fz.setCell ⟨g,37+jL,none⟩ (.int .u16 ((kZ n t.s N d j).1.alloc n d).2)).1[g]? =some (.cells (Y {fC with a:=(kZ n t.s N d (j+1)).2}) 44 (0,0)):=by
    have iO:=Jc (p:={fC with a:=(kZ n t.s N d j).2}) xc.h jL ((kZ n t.s N d j).1.alloc n d).2;rw[eY,XH,gp,iO,el,pT]
   simp[go_sem,cr,bz,f23,afh,rp,xz,aqD,gM,ip,kJ];refine cH.intro (N -(j+1)) (by omega) (pV _ _ _ ⟨j+1,by omega,rfl,by simpa using f0,by simpa using bh,by simpa using cr,by simpa using f6,by simpa using lz,by simpa using bz,by simpa using f22,by simp,?_,dk,cs.obj Wq (show¬aj g (g+1)by simp only[aj];omega),(ud.trans (oe.mono λa _ e=>.inl e)).trans (cs.mono λa _ e=>.inr e)⟩);rw[el];exact EN.ch cs λa am e=>by simp only[aj]at e;have:=AW a am;omega
  ·obtain rfl:j=N:=by omega
   rw[afc bi]at hh ht;simp[go_sem,lz,f22,f23,pm];exact cH.intro (2 -(d+1)) (by omega) (bK _ _ _ ⟨d+1,by omega,rfl,by simpa using f0,by simpa using bh,by simpa using cr,by simpa using f6,by simp,hh,ht,db,ud⟩)
 ·obtain rfl:d=2:=by omega
  have zm:bN {fC with a:=(xx n t.s N 2).2}:=by
   have:=CN 1 N (by omega) (Nat.le_refl _);rwa[afc (by omega)]at this
  rw[aqw]at hh ht zm;obtain⟨aR,gJ⟩:=az (t.s.u' n N);rw[gJ]at hh ht zm;obtain⟨zl,gM,gN,iO,zn,uO,lm,jD,nT⟩:=a4 zm;simp only at zn;have cR:=aG ht;have RW:=(cR 37).trans (lO zm (i:=0) (by simp only;rw[zn];rfl));have RX:=(cR 38).trans (lO zm (i:=1) (by simp only;rw[zn];rfl));have RY:=(cR 39).trans (lO zm (i:=2) (by simp only;rw[zn];rfl));have RZ:=(cR 40).trans (lO zm (i:=3) (by simp only;rw[zn];rfl));have hz:∀w,(Op.equalIn 10000 42 (.agg #[.int .u16 zl,.int .u16 gM,.int .u16 gN,.int .u16 iO]) (.agg #[.int .u16 0,.int .u16 0,.int .u16 0,.int .u16 0])).run Tryz.prog w=.ok (decide (aR.2=[0,0,0,0])) w:=λw=>by
   rw[zn];exact Wa w 9998 _ _ 4 Tryz.underlying42 Tryz.underlying39 Tryz.sizeOf39 Tryz.isAgg39 [zl,gM,gN,iO] [0,0,0,0] rfl rfl
  have pW:D (λj=>nh k m p z aL ag ed j) w bE:=by
   refine((aY.mono λ_ _ e=>e.elim).bJ aA λj F e=> ?_).bJ ud λj F e=> ?_
   ·simp only[aj]at e;omega
   ·rcases e with e|e
    ·exact .inl (sc z m p aL ag j e)
    ·omega
  have aqE:=pW.size;by_cases JI:aR.2=[0,0,0,0]
  ·have g':hg n aT t q b=({t with s:=aR.1},ad,30):=by
    unfold hg;rw[fu,gJ];simp only[JI,if_true]
   rw[g']at Z;have cm:(bE.setRow (g+1) (Y ad)).1[g+1]? =some (.cells (Y ad) 44 (0,0)):=by rw[gk,db];rfl
   simp[go_sem,cr,f6,lz,RW,RX,RY,RZ,hz,JI,oz,db,dN,iz,bQ,cm];have kn:=(D.refl (aj (g+1)) bE).setRow (g:=g+1) (.inl rfl) (Y ad);refine Z _ _ ⟨rfl,⟨aL,ag,ed,hh.ch kn λa am e=> ?_,λa am=>.inl am⟩,pW.bJ kn λa am e=> ?_⟩
   ·simp only[aj]at e;have:=AW a am;omega
   ·simp only[aj]at e;omega
  ·have g':hg n aT t q b=({s:=(aR.1.ha n (sd aT q b aR.2) b).1,bI:=t.bI++[sd aT q b aR.2],fL:=t.fL},sd aT q b aR.2,(aR.1.ha n (sd aT q b aR.2) b).2):=by
    unfold hg;rw[fu,gJ];simp only[JI,if_false]
   rw[g']at Z;have afi:=bW zm;have aqF:=dW zm;simp[go_sem,bh,cr,lz,RW,RX,RY,RZ,hz,JI,ht,afi,aqF];have afj:∀j,(j=0\/j=3)->¬nh k m p z aL ag ed j:=aF;have aqG:ja bE:=r.ch pW (afj _ (.inr rfl));have wb:lN bE:=bH.ch pW (afj _ (.inl rfl));have afk:bD bE v b.length (bm b):=by rw[V];exact aS.ch pW λj F e=>(hS j F).1 e
   have pK:∀j,v.ownBlock=some j->j<bE.1.size:=λj F=>Nat.lt_of_lt_of_le (hS j F).2 aqE;refine(aqH {fC with a:=aR.2} v b bE zm afk pK (by omega) aqG).mono ?_;rintro _ fz ⟨rfl,aE⟩;obtain⟨Q,eP⟩:=az (sd aT q b aR.2);have afl:MZ {fC with a:=aR.2} b=Q:=by rw[<-eP,<-CM];rfl
   have M_:bN Q:=afl▸afm zm b;rw[afl];rw[eP]at Z;have JJ:=bW M_;have R_:=dW M_;have XI:=hh.ch aE λ_ _ e=>e;have afn:=aE.obj ht id;have aqI:=aE.obj db id;simp[go_sem,cr,afn,afi,JJ,bQ];have bv:=(D.refl (aj g) fz).setRow (g:=g) (.inl rfl) (Y Q);have afo:(fz.setRow g (Y Q)).1[g]? =some (.cells (Y Q) 44 (0,0)):=by rw[gk,afn];rfl
   have aqJ:∀a,nh k m p z aL ag ed a->¬aj g a:=λa am e=>by simp only[aj]at e;have:=AW a am;omega
   have afp:=XI.ch bv aqJ;have afq:=bv.obj aqI (show¬aj g (g+1)by simp only[aj];omega);obtain⟨fw,uX⟩:=az (fz.setRow g (Y Q));rw[uX]at bv afo afp afq⊢;have R':=bv.size;have aHg:=aE.size;refine cD [A 0,A 1,A 2,A 3,A 4,A 5,(6,some [0,1,2,3,4]),(7,some [0]),A 8,A 9,(10,some [])] ?_;have dU:=(D.refl ak fw).drew;have wc:=afp.ch dU λ_ _ e=>e;have Sa:=dU.obj afo id;have afr:=dU.obj afq id;obtain⟨io,aqK⟩:=az (fw.drew);rw[aqK]at dU wc Sa afr⊢;obtain⟨G',XJ,afs,Sb⟩:∃ag n c,ed=.slice ag n c:=by
    rcases wc.fc.2 with⟨e,_⟩|⟨_,_,_,e,_⟩
    ·exact⟨_,_,_,e⟩
    ·exact⟨_,_,_,e⟩
   have ei:io.cell? ⟨k,3,none⟩=some (.slice G' XJ afs):=by rw[<-Sb];exact aG wc.blk 3
   simp[↓yK,go_sem,f0,cr,ei,Sa,JJ,R_];refine AH (aft M_ _) ?_;have XK:=(D.refl ak io).alloc (.cells (Y Q) 44);have aqL:(io.alloc (.cells (Y Q) 44)).cell? ⟨k,3,none⟩=some (.slice G' XJ afs):=XK.cell ei id;have aqM:=XK.obj Sa id;have XL:=wc.fc;rw[Sb]at XL;have aHh:XJ=t.bI.length:=by
    rcases XL.2 with⟨e,cR⟩|⟨_,_,_,e,_⟩
    ·grind
    ·cases e
     rfl
   simp[go_sem,f0,aqL,aqM,JJ,R_];rw[show io.alloc (.cells (Y Q) 44)=io.alloc (.cells (Y Q).toList.toArray 44)by simp];refine va (w:=io) (n:=t.bI.length) (us:=(Y Q).toList) afu XL (by rw[Array.length_toList,JJ]) (CP (sN Q)) (Nat.le_trans (show t.bI.length+1<=700001 by omega) (by decide)) (by omega) λkD cd rq rr xA=> ?_;have XM:cd.ownsRow 0 44 41 kD (t.bI++[Q]).length (dv Y (t.bI++[Q])):=by
    rw[xi,yE,List.length_append];exact rq
   obtain⟨k_,CQ,aHi,xB,_⟩:=zb rq (by omega);subst xB;have M':D (λj=>ed.ownBlock=some j) io cd:=by rw[Sb];exact rr
   have afv:(Value.slice (some ⟨k_,0,none⟩) (t.bI.length+1) CQ).ownBlock=ed.ownBlock\/fZ io.1.size (Value.slice (some ⟨k_,0,none⟩) (t.bI.length+1) CQ):=by rw[Sb];exact xA
   have aqN:¬ed.ownBlock=some k:=λe=>(wc.iP k e).2 rfl;have XN:=M'.obj wc.blk aqN;have XO:=aG XN 3;have aqO:=dD XN 3;have aHj:∀a,nh k m p z aL ag ed a->a<g:=AW;have afw:∀a,g<=a->¬ed.ownBlock=some a:=λa am e=>by have:=AW a (.inr (.inr e));omega
   have aqP:=M'.obj Sa (afw g (Nat.le_refl _));have aqQ:=M'.obj afr (afw (g+1) (by omega));simp[go_sem,f0,XO,aqO,CR];have se:∀a,fR z m p aL ag a->a≠k:=λa am e=>wc.ni (e▸am);have Na:=(D.refl (aj k) cd).setCell (p:=⟨k,3,none⟩) (.inl rfl) (.slice (some ⟨k_,0,none⟩) (t.bI.length+1) CQ);have aHk:k_≠k:=λe=>by
    grind
   have aHl:¬fR z m p aL ag k_:=λe=>by
    rcases afv with aK|aK
    ·exact(wc.iP k_ (by rw[<-aK];simp[Value.ownBlock])).1 e
    ·have:=aK k_ (by simp[Value.ownBlock]);have:=wc.nE.gK k_ e;omega
   have afx:km (cd.setCell ⟨k,3,none⟩ (.slice (some ⟨k_,0,none⟩) (t.bI.length+1) CQ)) k m p n z aT ⟨aR.1,t.bI++[Q],t.fL⟩ aL ag (.slice (some ⟨k_,0,none⟩) (t.bI.length+1) CQ):=by
    refine⟨(wc.nE.ch M' λa am e=>(wc.iP a e).1 am).ch Na λa am e=>se a am e,?_,ej XM Na λa am e=> ?_,λXP AY=> ?_,wc.ni,λa am=> ?_⟩
    ·rw[eY,XN,gp];rfl
    ·simp[Value.ownBlock]at am;simp only[aj]at e;omega
    ·rcases List.mem_append.1 AY with AY|AY
     ·exact wc.nD XP AY
     ·rw[List.mem_singleton]at AY;rw[AY];exact M_
    ·simp[Value.ownBlock]at am
     grind
   have aHm:k<g:=AW k (.inr (.inl rfl));have afy:=Na.obj aqP (show¬aj k g by simp only[aj];omega);have afz:=Na.obj aqQ (show¬aj k (g+1)by simp only[aj];omega);have aqR:D (λj=>nh k m p z aL ag ed j) w io:=((pW.trans (aE.mono λ_ _ e=>e.elim)).bJ bv λj F e=>by simp only[aj]at e;omega).trans (dU.mono λ_ _ e=>e.elim);have afA:=(aqR.trans (M'.mono λa _ e=>.inr (.inr e))).trans (Na.mono λa _ e=>.inr (.inl e));obtain⟨cF,uf⟩:=az (cd.setCell ⟨k,3,none⟩ (.slice (some ⟨k_,0,none⟩) (t.bI.length+1) CQ));rw[uf]at afx afy afz afA⊢;refine cD [A 0,A 1,A 2,A 3,A 4,A 5,A 6,(7,some [0]),(8,some []),A 9] ?_;have xC:=(D.refl ak cF).drew;have zo:=afx.ch xC λ_ _ e=>e;have XQ:=xC.obj afy id;have afB:=xC.obj afz id;have JK:=afA.trans (xC.mono λ_ _ e=>e.elim);obtain⟨eA,EO⟩:=az (cF.drew);rw[EO]at zo XQ afB JK⊢;have gq:eA.cell? ⟨k,0,none⟩=some (.pointer (some ⟨m,0,none⟩)):=aG zo.blk 0;have aqS:=JK.size;simp[go_sem,f0,bh,cr,f6,gq,XQ,JJ,R_];have aqT:aR.1.g_ c:=by rw[<-gJ];exact(XF n t.s N).kI kI
   have aqU:bD eA v b.length (bm b):=by rw[V];exact aS.ch JK λj F e=>(hS j F).1 e
   have aqV:j' eA m p n z aR.1 (fR z m p aL ag):=⟨aL,ag,zo.nE,λ_ e=>e,zo.nE.gK⟩;refine(aqW aqV Q M_ (bH.ch JK (aF _ (.inl rfl))) (r.ch JK (aF _ (.inr rfl))) b v aqU (λj F=>Nat.lt_of_lt_of_le (hS j F).2 aqS) (λ_ j F e=>(hS j F).1 (.inl e)) (by omega) aqT (by omega)).mono ?_;rintro _ dC ⟨rfl,⟨Sc,Sd,Se,afC,_⟩,dX⟩;have aHn:=zo.nE.gK;have aHo:k<w.1.size:=al k (.inr (.inl rfl));have afD:¬fR z m p aL ag k:=zo.ni;have aqX:=dX.obj zo.blk afD;have afE:∀a,g<=a->¬fR z m p aL ag a:=λa am e=>by have:=AW a (.inl e);omega
   have afF:=dX.obj XQ (afE g (Nat.le_refl _));have afG:=dX.obj afB (afE (g+1) (by omega));have XR:∀a,a<eA.1.size->¬fR z m p aL ag a->¬fR z m p Sc Sd a:=λa H I e=>by
    rcases afC a e with e|e
    ·exact I e
    ·omega
   have XS:∀a,(Value.slice (some ⟨k_,0,none⟩) (t.bI.length+1) CQ).ownBlock=some a->¬fR z m p aL ag a/\a≠k:=zo.iP;have afH:km dC k m p n z aT ⟨(aR.1.ha n Q b).1,t.bI++[Q],t.fL⟩ Sc Sd (.slice (some ⟨k_,0,none⟩) (t.bI.length+1) CQ):=by
    refine⟨Se,aqX,ej zo.fc dX λa am e=>(XS a am).1 e,zo.nD,XR k (by omega) afD,λa am=>⟨XR a (oJ zo.fc a am) (XS a am).1,(XS a am).2⟩⟩
   have aqY:D (λj=>nh k m p z aL ag ed j) w dC:=JK.trans (dX.mono λa _ e=>.inl e);have JL:(dC.setRow (g+1) (Y Q)).1[g+1]? =some (.cells (Y Q) 44 (0,0)):=by rw[gk,afG];rfl
   have Sf:(dC.setRow (g+1) (Y Q)).1[g]? =some (.cells (Y Q) 44 (0,0)):=((D.refl (aj (g+1)) dC).setRow (g:=g+1) (.inl rfl) (Y Q)).obj afF (by simp only[aj];omega);simp[go_sem,cr,f6,afF,afG,JJ,R_,dN,bQ,JL,Sf];have kn:=(D.refl (aj (g+1)) dC).setRow (g:=g+1) (.inl rfl) (Y Q);have Md:=dX.size;have afI:∀a,nh k m p z Sc Sd (.slice (some ⟨k_,0,none⟩) (t.bI.length+1) CQ) a->nh k m p z aL ag ed a\/(w.1.size<=a/\a≠g+1/\a<dC.1.size):=λa am=>by
    have aO:=afH.lt a am;rcases am with am|am|am
    ·rcases afC a am with e|e
     ·exact .inl (.inl e)
     grind
    ·exact .inl (.inr (.inl am))
    ·rcases afv with aK|aK
     ·exact .inl (.inr (.inr (by rw[<-aK];exact am)))
     ·have H:=aK a am
      grind
   refine Z _ _ ⟨rfl,⟨Sc,Sd,_,afH.ch kn λa am e=> ?_,λa am=> ?_⟩,aqY.bJ kn λa am e=> ?_⟩
   ·simp only[aj]at e;rcases afI a am with h|h
    ·have:=AW a h;omega
    ·omega
   ·have gu:=kn.size;exact(afI a am).imp id λh=>⟨h.1,by omega⟩
   ·simp only[aj]at e;omega
end
theorem aqZ:∃i m s,Tryz.prog.info? 161=some i/\i.methods.find? (·.name== "Read")=some m/\m.path.toList=[s]/\s.struct=163/\s.index=0/\s.deref=true/\m.func=some (99,true):=by
 have H:(Tryz.prog.info? 161).map (λi=>(i.methods.find? (·.name== "Read")).map λm=>(m.path.toList.map λs=>(s.struct,s.index,s.deref)))=some (some [(163,0,true)]):=by kernel_rfl
 have I:(Tryz.prog.info? 161).map (λi=>(i.methods.find? (·.name== "Read")).map λm=>m.func)=some (some (some (99,true))):=by kernel_rfl
 cases aa:Tryz.prog.info? 161 with
 |none=>rw[aa]at H;cases H
 |some i=>
  rw[aa]at H I;simp only[Option.map_some,Option.some.injEq]at H I
  cases aH:i.methods.find? (·.name== "Read")with
  |none=>rw[aH]at H;cases H
  |some m=>
   simp_all
abbrev Sg(k:Nat):Value:=.iface 161 (.pointer (some ⟨k,0,none⟩))
theorem aq0{k m:Nat}{w:World}(h:w.cell? ⟨k,0,none⟩=some (.pointer (some ⟨m,0,none⟩)))(n:Nat):(method (n+1) 161 (.pointer (some ⟨k,0,none⟩)) "Read").run Tryz.prog w=.ok (99,.pointer (some ⟨m,0,none⟩)) w:=by
 obtain⟨i,aHp,s,H,I,af,aU,bC,cG,eD⟩:=aqZ;simp[method,typeInfo,H,I,af,eD,follow,aU,bC,cG,receiverAt,Place.get,go_sem,h]
theorem aq1{k m:Nat}(x:Value){w:World}(h:w.cell? ⟨k,0,none⟩=some (.pointer (some ⟨m,0,none⟩))):(callMethod (Sg k) "Read" #[x]).run Tryz.prog w=.ok (.enter 99 #[.pointer (some ⟨m,0,none⟩),x]) w:=by
 unfold callMethod;simp[go_sem,aq0 h]
theorem aq2(k:Nat)(x y:Value)(w:World):(callMethod (Sg k) "New" #[x,y]).run Tryz.prog w=.ok (.enter 125 #[.pointer (some ⟨k,0,none⟩),x,y]) w:=by kernel_rfl
theorem aq3(k:Nat)(x:Value)(w:World):(callMethod (Sg k) "Old" #[x]).run Tryz.prog w=.ok (.enter 124 #[.pointer (some ⟨k,0,none⟩),x]) w:=by kernel_rfl
def dy.Fn(t:dy)(c:Nat):Prop:=t.s.g_ c/\t.bI.length<=c
def jM(cp:dy->Nat):Prop:=∀t:dy,(t.Fn (cp t)/\∀c,t.Fn c->cp t<=c)\/((∀c,¬t.Fn c)/\cp t=700000)
theorem aq4{P:Nat->Prop}:∀c,P c->∃c,P c/\∀d,P d->c<=d:=by
 intro c
 induction c using Nat.strongRecOn with
 |_ c bG=>
  grind
theorem aq5:∃cp,jM cp:=by
 have:∀t:dy,∃c,(t.Fn c/\∀d,t.Fn d->c<=d)\/((∀c,¬t.Fn c)/\c=700000):=λt=>by
  by_cases h:∃c,t.Fn c
  ·obtain⟨c,h⟩:=h;obtain⟨c,H,I⟩:=aq4 c h
   grind
  grind
 exact Classical.axiomOfChoice this
def f_(cp:dy->Nat)(t:dy):Nat:=700000 - cp t
section
variable{cp:dy->Nat}{t er:dy}
theorem Nb(h:jM cp)(aH:16<=f_ cp t):t.s.g_ (cp t)/\t.bI.length<=cp t/\cp t<=699984:=by
 unfold f_ at aH;rcases h t with H|H
 ·exact⟨H.1.1,H.1.2,by omega⟩
 ·omega
theorem XT(h:jM cp)(bU:∀c,t.Fn c->er.Fn (c+9)):f_ cp t<=f_ cp er+16:=by
 unfold f_;rcases h t with H|H
 ·rcases h er with I|I
  ·grind
  grind
 ·omega
theorem afJ(h:jM cp)(n:Nat)(t:dy)(p:Pt):f_ cp t<=f_ cp (hH n t p).1+16:=
 XT h λc T=>⟨(T.1.mB p false).mono (by omega),Nat.le_trans T.2 (by omega)⟩
theorem Nc(h:jM cp)(n aT:Nat)(t:dy)(p:Pt)(b:cX):f_ cp t<=f_ cp (hg n aT t p b).1+16:=
 XT h λc T=>by
  have gJ:=(XF n t.s (fm p.k)).kI T.1;unfold hg;simp only;split
  ·exact⟨gJ.mono (by omega),Nat.le_trans T.2 (by omega)⟩
  ·refine⟨(gJ.ha _ b).mono (by omega),?_⟩;have:=T.2
   grind
theorem Sh(h:jM cp)(n:Nat)(t:dy)(p:Pt):f_ cp t<=f_ cp (kK n t p)+16:=
 XT h λc T=>⟨(((EP (by decide) (k' p) t.s).1).kI T.1).mono (by omega),Nat.le_trans T.2 (by omega)⟩
end
def ga(k m p n:Nat)(z:fe)(aT:Nat)(ee:World)(es:Nat->Prop)(t:dy):h_:=λw O=>∃aL ag ed,km w k m p n z aT t aL ag ed/\(∀j,nh k m p z aL ag ed j->O j/\¬es j)/\(∀j,es j->O j/\w.1[j]? =ee.1[j]?)/\∀j,O j->j<w.1.size
def jl(k:Nat):Prop:=Ju k\/k=3\/k=1
theorem JM{w ee:World}{j:Nat}(h:w.1[j]? =ee.1[j]?)(i:Nat):w.cell? ⟨j,i,none⟩=ee.cell? ⟨j,i,none⟩:=by
 unfold World.cell?;rw[h]
section
variable{k m p n aT:Nat}{z:fe}{ee w w':World}{es:Nat->Prop}{t:dy}{O:Nat->Prop}{cp:dy->Nat}
theorem ga.ok(k m p n:Nat)(z:fe)(aT:Nat)(ee:World)(es:Nat->Prop)(t:dy):kk (ga k m p n z aT ee es t):=by
 refine⟨?_,?_,?_⟩
 ·rintro w O ⟨aL,ag,ed,H,I,af,aU⟩;exact aU
 ·rintro w w' O S ⟨aL,ag,ed,H,I,af,aU⟩ T cf;refine⟨aL,ag,ed,H.ch T λj F=>cf j (I j F).1,I,λj F=>⟨(af j F).1,?_⟩,λj F=>Nat.lt_of_lt_of_le (aU j F) T.size⟩;have aO:=aU j (af j F).1;obtain⟨o,aB⟩:∃o,w.1[j]? =some o:=⟨_,Array.getElem?_eq_getElem aO⟩;rw[T.obj aB (cf j (af j F).1),<-(af j F).2,aB]
 ·rintro w O O' ⟨aL,ag,ed,H,I,af,aU⟩ h h';exact⟨aL,ag,ed,H,λj F=>⟨h j (I j F).1,(I j F).2⟩,λj F=>⟨h j (af j F).1,(af j F).2⟩,h'⟩
structure rs(ee:World)(es:Nat->Prop):Prop where
 ck:hj ee
 fd:ja ee
 fo:qs ee
 dJ:∀j,jl j->es j
theorem ga.ck(h:ga k m p n z aT ee es t w O)(e:rs ee es):hj w/\ja w/\qs w:=by
 obtain⟨aL,ag,ed,H,I,af,aU⟩:=h;have aw:∀j,jl j->w.1[j]? =ee.1[j]? :=λj F=>(af j (e.dJ j F)).2;refine⟨⟨λi x M=> ?_,?_⟩,λi aa=> ?_,λi x M=> ?_⟩
 ·rw[JM (aw _ (.inl (.inl rfl)))];exact e.ck.qt i x M
 ·obtain⟨cs,bl,fr,ey,cZ,iq⟩:=e.ck.mx;exact⟨cs,bl,fr,(aw _ (.inl (.inr rfl))).trans ey,cZ,iq⟩
 ·rw[JM (aw _ (.inr (.inl rfl)))];exact e.fd i aa
 ·rw[JM (aw _ (.inr (.inr rfl)))];exact e.fo i x M
theorem ga.dJ(e:rs ee es):ik (ga k m p n z aT ee es) O:=.inr λ_ _ _ h=>(h.ck e).1
theorem ga.step{er:dy}{aL jb ed CL:Value}{ag gh:Nat->Nat->Prop}{S:Nat->Prop}(H:km w k m p n z aT t aL ag ed)(I:∀j,nh k m p z aL ag ed j->O j/\¬es j)(af:∀j,es j->O j/\w.1[j]? =ee.1[j]?)(aU:∀j,O j->j<w.1.size)
  (h':km w' k m p n z aT er jb gh CL)(eV:∀j,nh k m p z jb gh CL j->ax (nh k m p z aL ag ed) w w' j)(T:D S w w')(cf:∀j,S j->nh k m p z aL ag ed j):ga k m p n z aT ee es er w' (ax O w w')/\D O w w':=by
 refine⟨⟨jb,gh,CL,h',λj F=> ?_,λj F=>⟨.inl (af j F).1,?_⟩,ax.lt aU T.size⟩,T.mono λj _ e=>(I j (cf j e)).1⟩
 ·rcases eV j F with e|e
  ·exact⟨.inl (I j e).1,(I j e).2⟩
  ·exact⟨.inr e,λV=>by grind⟩
 ·have aO:=aU j (af j F).1;obtain⟨o,aB⟩:∃o,w.1[j]? =some o:=⟨_,Array.getElem?_eq_getElem aO⟩;rw[T.obj aB λe=>(I j (cf j e)).2 F,<-(af j F).2,aB]
theorem afK(n:Nat)(s:ao)(q:Pt)(all:Bool):(s.mB n q all).2.1.length<=512:=by
 have yZ:∀l:List Nat,∀x:Ha,(∀b,x.blk=some b->b.length=512)->∀b,(l.foldl (s.step n q) x).blk=some b->b.length=512:=by
  intro l
  induction l with
  |nil=>grind
  |cons a l bG=>
   intro x M b V;rw[List.foldl_cons]at V;refine bG _ (λnV sf=> ?_) b V;unfold ao.step at sf
   cases aF:s.ko n q a with
   |none=>
    grind
   |some y=>
    have ar:y.length=512:=by
     unfold ao.ko at aF;split at aF
     ·obtain⟨_,I⟩:=Option.filter_eq_some_iff.1 aF;exact XU I
     ·cases aF
    grind
 unfold ao.mB;split
 ·simp only
  cases V:(s.run n q (s.og n q all)).blk with
  |none=>simp
  |some b=>simp only;exact Nat.le_of_eq (yZ _ _ (λb V=>by cases V) b V)
 ·simp
theorem afL(gy:aT<18446744073709551616)(av:n<=65536){q:Pt}(ok:bN q)(b:cX):bN (hg n aT t q b).2.1:=by
 unfold hg;simp only;split
 ·exact cE
 ·have aO:=afd (s:=t.s) (w:=fm q.k) (d:=1) (n:=n) (by unfold fm;split;omega;split<;>omega) (by omega) av (fm q.k) (Nat.le_refl _);have gJ:kZ n t.s (fm q.k) 1 (fm q.k)=t.s.u' n (fm q.k):=by simp[kZ,ao.u']
  rw[gJ]at aO;have AZ:(t.s.u' n (fm q.k)).2.length=4:=by rw[<-gJ];exact XD _ _ _ _ _
  exact⟨ok.k,ok.l,ok.o,ok.f,gy,JN _ b,AZ,aO⟩
theorem EQ(ds:jM cp)(e:rs ee es)(gy:aT<18446744073709551616)(av:n<=65536):vb (ga k m p n z aT ee es) (f_ cp) (hH n) (hg n aT) (kK n) (Sg k) where
 rd:=⟨afJ ds n,λt w O q K aH h ok ck aF eS=>by
  obtain⟨kp,bT,_⟩:=h.ck e;obtain⟨aL,ag,ed,H,I,af,aU⟩:=h;obtain⟨a_,bh,bV⟩:=Nb ds aH;rw[Si (aq1 _ (aG H.blk 0))];have hm:j' w m p n z t.s (fR z m p aL ag):=⟨aL,ag,H.nE,λ_ e=>e,H.nE.gK⟩;refine(afM hm q ok kp.qt bT a_ (by omega) λx=>(I _ (.inl x)).2 (e.dJ _ (.inr (.inl rfl)))).mono ?_;rintro _ w' ⟨u,rfl,aD⟩;obtain⟨O',⟨jb,gh,gM,gN,iO⟩,pj,uY⟩:=aD.dn;have gu:=aD.ch.size;have M:∀j,fR z m p jb gh j->fR z m p aL ag j\/(w.1.size<=j/\j<w'.1.size):=λj F=>pj j (gN j F);have AG:k<w.1.size:=lt_of_block H.blk;have hh:km w' k m p n z aT (hH n t q).1 jb gh ed:=by
   refine⟨gM,aD.ch.obj H.blk H.ni,ej H.fc aD.ch λj F x=>(H.iP j F).1 x,H.nD,λx=> ?_,λj F=>⟨λx=> ?_,(H.iP j F).2⟩⟩
   ·rcases M _ x with x|x
    ·exact H.ni x
    ·omega
   ·have i':=oJ H.fc j F;rcases M _ x with x|x
    ·exact(H.iP j F).1 x
    ·omega
  obtain⟨cB,cb⟩:=ga.step H I af aU hh (λj F=>by
   rcases F with F|F
   ·rcases M j F with x|x
    ·exact .inl (.inl x)
    ·exact .inr x
   ·exact .inl (.inr F)) aD.ch λj F=>.inl F
  exact eS u w' aD.dI (Nat.le_trans (afK n t.s q false) (by decide)) cB cb⟩
 XV:=λt q b=>Nc ds n aT t q b
 Sj:=λt q=>Sh ds n t q
 nw t w O q b v K aH h ok V aS hS ck aF eS:=by
  obtain⟨kp,bT,_⟩:=h.ck e;obtain⟨aL,ag,ed,H,I,af,aU⟩:=h;obtain⟨a_,bh,bV⟩:=Nb ds aH;rw[Si (aq2 k _ _ w)];refine(aff H q ok gy av b V v aS (λj F=>⟨λx=>(hS j F).1 (I j x).1,(hS j F).2⟩) kp.qt bT (λj F x=>(I j x).2 (e.dJ j (by rcases F with rfl|rfl;exact .inl (.inl rfl);exact .inr (.inl rfl)))) a_ (by omega) (by omega)).mono ?_;rintro _ w' ⟨rfl,⟨jb,gh,CL,gM,gN⟩,c⟩;obtain⟨cB,cb⟩:=ga.step H I af aU gM gN c λj F=>F;exact eS w' (afL gy av ok b) cB cb
 bM t w O q K aH h ok ck aF eS:=by
  obtain⟨aL,ag,ed,H,I,af,aU⟩:=h;rw[Si (aq3 k _ w)];refine(afN H q ok).mono ?_;rintro W w' ⟨_,gM,c⟩;obtain⟨cB,cb⟩:=ga.step H I af aU gM (λj F=>.inl F) c λj F=>.inl (sc z m p aL ag j F);exact eS W w' cB cb
end
section
variable{k m p:Nat}{z:fe}{ee w w':World}{es:Nat->Prop}{t:dy}{O:Nat->Prop}{cp:dy->Nat}{c:hT}
theorem XW(h:ga k m p c.n z c.aT ee es t w O)(q:Pt)(ok:bN q):aP Tryz.prog 124 #[.pointer (some ⟨k,0,none⟩),.agg (Y q)] w λW w'=>W=.tuple #[]/\ga k m p c.n z c.aT ee es (kK c.n t q) w' (ax O w w')/\D O w w':=by
 obtain⟨aL,ag,ed,H,I,af,aU⟩:=h;refine(afN H q ok).mono ?_;rintro W w' ⟨rfl,gM,c⟩;obtain⟨cB,cb⟩:=ga.step H I af aU gM (λj F=>.inl F) c λj F=>.inl (sc z m p aL ag j F);exact⟨rfl,cB,cb⟩
theorem aq6(ds:jM cp)(e:rs ee es)(gy:c.aT<18446744073709551616)(av:c.n<=65536)(h:ga k m p c.n z c.aT ee es t w O)(aH:144<=f_ cp t)(bu:Pt)(ok:bN bu):
  aP Tryz.prog 174 #[.pointer (some ⟨k,0,none⟩),.agg (Y bu)] w λW w'=>W=.int .i64 (sg (ms c) t bu).2.2/\ga k m p c.n z c.aT ee es (sg (ms c) t bu).1 w' (ax O w w')/\D O w w':=by
 refine bn Tryz.func174 Tryz.ntmps174 λaZ Z=> ?_;have cU:=bW ok;have cT:=dW ok;have aN:=ga.ok k m p c.n z c.aT ee es;have al:=(aN t).lt h;simp[go_sem,cU,cT];have aY:=(D.refl ak w).alloc (.cells (Y bu) 44);have bj:=cl w (.cells (Y bu) 44);obtain⟨ab,de⟩:=az (w.alloc (.cells (Y bu) 44));rw[de]at aY bj⊢;have H:=(aN t).ch h aY λ_ _ e=>e;have bt:=aY.size;refine(XX (EQ ds e gy av).rd aH aN H bu ok (H.ck e).1 (ga.dJ e)).mono ?_;have tL:(ms c).rd=hH c.n:=rfl;have xD:(ms c).bM=kK c.n:=rfl;have JO:sg (ms c) t bu=if(gU (hH c.n) t bu).2.2.2≠0 then((gU (hH c.n) t bu).1,(),(gU (hH c.n) t bu).2.2.2)else(((gU (hH c.n) t bu).2.1.map (·.2)++(gU (hH c.n) t bu).2.2.1).foldl (kK c.n) (gU (hH c.n) t bu).1,(),0):=rfl
 rw[JO]at Z;obtain⟨oN,ez,fo,xE⟩:=XY (hH c.n) t bu ok;obtain⟨x,M⟩:=az (gU (hH c.n) t bu);rw[M]at Z oN ez fo xE⊢;rintro _ ai ⟨gY,hb,iK,rfl,Nd,Nf,I,JP,pK,pn,aA⟩;obtain⟨dK,df,ce,A_⟩:=x;simp only at Z oN ez fo xE Nd Nf I pK pn;have yQ:=(aN dK).lt I;have cw:=aA.size;have Hb:∀j,iK j->ax O w ai j:=λj F=>(JP j F).imp id λe=>⟨by omega,e.2⟩;have eF:D O w ai:=(aY.mono λ_ _ e=>e.elim).trans aA;simp[go_sem];by_cases Hc:A_=0
 ·subst Hc;have lA:((0:Int)!=0)=false:=by decide
  have CS:fA ai gY (λx=>(et x).toList) 42 df:=fA.fp Nd λx M=>mC (oN x M);have Ng:fA ai hb (λx=>(Y x).toList) 41 ce:=fA.fp Nf λx M=>bW (ez x M);have aq7:=CS.len Tryz.underlying223 3;have XZ:=Ng.len Tryz.underlying87 3;rw[if_neg (by decide)]at Z;obtain⟨g,aF⟩:=az (ai.1.size);have aq8:∀{u:World} {t3:dy} {Q:Nat->Prop},ga k m p c.n z c.aT ee es t3 u Q->(∀j,Q j->ax iK ai u j)->D iK ai u->ga k m p c.n z c.aT ee es t3 u (ax O w u)/\D O w u:=λ{u t3 Q} h eP aJ=>by
   have A':=aJ.size;refine⟨(aN _).ex h (λj F=> ?_) (ax.lt al (by omega)),eF.bJ aJ λj F e=> ?_⟩
   ·rcases eP j F with e|e
    ·exact(Hb j e).imp id λe=>⟨e.1,by omega⟩
    ·exact .inr ⟨by omega,e.2⟩
   ·exact(Hb j e).elim id λe=>by omega
  simp[go_sem,lA,aq7];refine du (λJ f u=>∃i Q,J=df.length - i/\i<=df.length/\f 0=.pointer (some ⟨k,0,none⟩)/\f 23=gY/\f 24=.int .i64 df.length/\f 25=.int .i64 (i:Nat)/\f 6=hb/\
    ga k m p c.n z c.aT ee es (((df.take i).map (·.2)).foldl (kK c.n) dK) u Q/\(∀j,Q j->ax iK ai u j)/\D iK ai u) df.length
   ⟨0,iK,rfl,Nat.zero_le _,by simp,by simp,by simp,by simp,by simp,by simpa using I,λj F=>.inl F,D.refl _ _⟩ ?_
  rintro cJ bK _ f u ⟨i,Q,rfl,aa,f0,f23,f24,f25,f6,an,eP,aJ⟩;by_cases aO:i<df.length
  case neg=>
   have jm:¬(i:Int)<df.length:=by omega
   have zq:i=df.length:=by omega
   subst zq;rw[List.take_length]at an;simp[go_sem,f24,f25,f6,XZ];refine du (λJ f u=>∃i Q,J=ce.length - i/\i<=ce.length/\f 0=.pointer (some ⟨k,0,none⟩)/\f 34=hb/\f 35=.int .i64 ce.length/\f 36=.int .i64 (i:Nat)/\
     ga k m p c.n z c.aT ee es ((df.map (·.2)++ce.take i).foldl (kK c.n) dK) u Q/\(∀j,Q j->ax iK ai u j)/\D iK ai u) ce.length
    ⟨0,Q,rfl,Nat.zero_le _,by simp[f0],by simp[f6],by simp,by simp,by simpa using an,eP,aJ⟩ ?_
   clear an eP aJ f0 f23 f24 f25 f6 bK;rintro cJ bK _ f u ⟨i,Q,rfl,aa,f0,Hd,Sk,X_,an,eP,aJ⟩;by_cases aO:i<ce.length
   case neg=>
    have jm:¬(i:Int)<ce.length:=by omega
    have zq:i=ce.length:=by omega
    subst zq;rw[List.take_length]at an;obtain⟨gM,gN⟩:=aq8 an eP aJ;simp[go_sem,Sk,X_];exact Z _ _ ⟨rfl,gM,gN⟩
   have jm:(i:Int)<ce.length:=by omega
   obtain⟨x,M⟩:∃x,ce[i]? =some x:=⟨_,List.getElem?_eq_getElem aO⟩;have dh:=ez x (List.mem_of_getElem? M);obtain⟨fF,nF,iZ,JQ,JR,JS,CT,ia,ug,ew⟩:=(Ng.Nh aJ λb V=>(pn b V).1).CU (by decide) (λa am=>bW (ez a am)) M;have eU:=bW dh;have gs:=dW dh;have dN:=bW cE;have gO:IntKind.i64.wrap ((i:Int)+1)=((i+1:Nat):Int):=by rw[IntKind.wrap_i64];omega
   have aE:=(D.refl ak u).alloc (.cells (Y x) 44);have cm:=cl u (.cells (Y x) 44);obtain⟨aC,hk⟩:=az (u.alloc (.cells (Y x) 44));rw[hk]at aE cm;have af:=(aN _).ch an aE λ_ _ e=>e;have afO:=Hd;rw[CT]at afO;simp[go_sem,afO,Sk,X_,aO,jm,ia,ug,ew,gm,gn,dN,eU,gs,bQ,hk,cm,f0];refine(XW af x dh).mono ?_;rintro _ be ⟨rfl,aU,bv⟩;have gL:=aE.size;have hv:=bv.size;have He:=aJ.size;simp[go_sem,Hd,Sk,X_,gO];refine cH.intro (ce.length -(i+1)) (by omega) (bK _ _ _ ⟨i+1,ax Q aC be,rfl,by omega,by simp[f0],by simp[Hd],by simp[Sk],by simp,?_,λj F=> ?_,?_⟩)
   ·have e:df.map (·.2)++ce.take (i+1)=(df.map (·.2)++ce.take i)++[x]:=by rw[List.take_add_one,M];simp
    rw[e,List.foldl_append];exact aU
   ·rcases F with F|F
    ·exact(eP j F).imp id λe=>⟨e.1,by omega⟩
    ·exact .inr ⟨by omega,F.2⟩
   ·exact(aJ.bJ aE λj F e=>e.elim).bJ bv λj F e=>(eP j e).elim id λe=>by omega
  have jm:(i:Int)<df.length:=by omega
  obtain⟨x,M⟩:∃x,df[i]? =some x:=⟨_,List.getElem?_eq_getElem aO⟩;have dh:=oN x (List.mem_of_getElem? M);obtain⟨fF,nF,iZ,JQ,JR,JS,CT,ia,ug,ew⟩:=(CS.Nh aJ λb V=>(pK b V).1).CU (by decide) (λa am=>mC (oN a am)) M;have eU:=mC dh;have gs:=Ni dh;have mD:=Sl dh;have dN:=mC ER;have uh:=bW dh.p;have gO:IntKind.i64.wrap ((i:Int)+1)=((i+1:Nat):Int):=by rw[IntKind.wrap_i64];omega
  have aE:=(D.refl ak u).alloc (.cells (et x) 229);have cm:=cl u (.cells (et x) 229);obtain⟨aC,hk⟩:=az (u.alloc (.cells (et x) 229));rw[hk]at aE cm;have af:=(aN _).ch an aE λ_ _ e=>e;have afP:=f23;rw[CT]at afP;simp[go_sem,afP,f24,f25,aO,jm,ia,ug,ew,CV,Hf,Hg,dN,eU,gs,bQ,hk,cm,mD,f0];refine(XW af x.2 dh.p).mono ?_;rintro _ be ⟨rfl,aU,bv⟩;have gL:=aE.size;have hv:=bv.size;have He:=aJ.size;simp[go_sem,f23,f24,f25,f6,gO];refine cH.intro (df.length -(i+1)) (by omega) (bK _ _ _ ⟨i+1,ax Q aC be,rfl,by omega,by simp[f0],by simp[f23],by simp[f24],by simp,by simp[f6],?_,λj F=> ?_,?_⟩)
  ·have e:(df.take (i+1)).map (·.2)=(df.take i).map (·.2)++[x.2]:=by rw[List.take_add_one,M];simp
   rw[e,List.foldl_append];exact aU
  ·rcases F with F|F
   ·exact(eP j F).imp id λe=>⟨e.1,by omega⟩
   ·exact .inr ⟨by omega,F.2⟩
  ·exact(aJ.bJ aE λj F e=>e.elim).bJ bv λj F e=>(eP j e).elim id λe=>by omega
 ·have jR:(A_ !=0)=true:=by simpa using Hc
  rw[if_pos (by simpa using Hc)]at Z;simp[go_sem,jR];exact Z _ _ ⟨rfl,(aN dK).ex I Hb (ax.lt al (by omega)),eF⟩
end
end Go.Proofs.YtoohkhcpboldjaaGreatDoor
