/- What an overlay has of a number's leaves, in order. No condition but on sizes. -/
import Derived.Test.YtoohkhcpboldjaaGreatDoorTbF
import Derived.Shelf.SlSortCmp.WholeK
set_option maxRecDepth 100000
set_option maxHeartbeats 4000000
set_option linter.unusedSimpArgs false
set_option linter.unusedVariables false
namespace Go.Proofs.YtoohkhcpboldjaaGreatDoor
open Go.RowKit Go.Kin Go.Maps Tryz
section
variable {w w':M}{S:Nat->Prop}{o n:Nat}{base fZ:N}{D:cV}{X bw:Nat->Prop}{z:zE}
theorem aAU(h:jg w o base fZ n D X bw z)(num:dp):bc prog 172 #[az o,.int .u16 num.val] w λv' w'=>v'=.tuple #[.agg (aZ ((D.aZ num).getD bp)),.bool (D.aZ num).isSome]/\H al w w':=by
 refine bz func172 ntmps172 λbk af=> ?_;have aA:=hA jy;have bu:=cr w (.cells (aZ bp) 113);have gs:=(H.refl al w).alloc (.cells (aZ bp) 113);simp[go_sem,pJ,uj,uk,aA];obtain⟨iz,Mc⟩:=aD (w.1.size);rw[Mc]at bu⊢;generalize w.alloc (.cells (aZ bp) 113)=ai at*;have aSs:=lt_of_block bu;have J:=h.ch gs (λ_ _ e=>e) λ_ _ e=>e;have aK:ai.cell? (bl o 2)=some (.map (some z.vU)):=aG J.blk 2;have ak:(Instr.lookup 141 (.map (some z.vU)) (.int .u16 num.val) true).run prog ai=_:=J.aZ.look_ok FG underlying141 (aHN ai) num;obtain⟨y,ar⟩:=aD ((D.aZ num).getD bp:bF);have TJ:fu y:=by
  rw[<-ar]
  cases ad:D.aZ num with
  |none=>exact jy
  |some x=>exact h.Hc _ _ ad
 have aHR:((D.aZ num).map KK).getD (.agg (aZ bp))=.agg (aZ y):=by
  rw[<-ar]
  cases ad:D.aZ num<;>rfl
 rw[ar]at af;have Gm:=hA TJ;have ahJ:=tj TJ;rw[aHR]at ak;have bt:=cr ai (.cells (aZ y) 113);have aU:=(H.refl al ai).alloc (.cells (aZ y) 113);have aHS:=aU.obj bu id;simp at ak;simp[go_sem,aK,ak,pJ,uj,uk,aA,Gm,bS];obtain⟨um,YM⟩:=aD (ai.1.size);rw[YM]at bt⊢;generalize ai.alloc (.cells (aZ y) 113)=aJ at*;simp[go_sem,bt,aHS,aA,Gm,ahJ,bS];exact af _ _ ⟨rfl,(gs.trans aU).setRow (.inr (by omega)) _⟩
end
end Go.Proofs.YtoohkhcpboldjaaGreatDoor
namespace Go.Proofs.YtoohkhcpboldjaaGreatDoor
open Go Go.Shelf Tryz
def aHT:Go.Shelf.Ren:=⟨λ|6=>208|15=>194|14=>241|28=>232|29=>233|20=>263|21=>264|22=>265|23=>266|24=>267|25=>268|26=>269|27=>270|46=>282|47=>250|48=>251|49=>283|50=>284|57=>288|n=>n,λ|22=>309|24=>312|25=>360|3=>3|39=>335|0=>0|53=>40|55=>38|4=>4|46=>374|45=>373|50=>379|5=>5|9=>9|66=>397|70=>400|76=>421|77=>197|n=>n,λ|n=>n⟩
theorem aHU:Go.Proofs.SlLaysF0.n6 prog aHT:={
 mixed:=by kernel_rfl
 f6:=⟨Tryz.f208.name,by decide,func208.trans (congrArg some (by kernel_rfl))⟩
 f14:=⟨Tryz.f241.name,by decide,func241.trans (congrArg some (by kernel_rfl))⟩
 f15:=func194.trans (congrArg some (by kernel_rfl))
 f20:=⟨Tryz.f263.name,by decide,func263.trans (congrArg some (by kernel_rfl))⟩
 f21:=⟨Tryz.f264.name,by decide,func264.trans (congrArg some (by kernel_rfl))⟩
 f22:=⟨Tryz.f265.name,by decide,func265.trans (congrArg some (by kernel_rfl))⟩
 f23:=⟨Tryz.f266.name,by decide,func266.trans (congrArg some (by kernel_rfl))⟩
 f24:=⟨Tryz.f267.name,by decide,func267.trans (congrArg some (by kernel_rfl))⟩
 f25:=⟨Tryz.f268.name,by decide,func268.trans (congrArg some (by kernel_rfl))⟩
 f26:=⟨Tryz.f269.name,by decide,func269.trans (congrArg some (by kernel_rfl))⟩
 f27:=⟨Tryz.f270.name,by decide,func270.trans (congrArg some (by kernel_rfl))⟩
 f28:=func232.trans (congrArg some (by kernel_rfl))
 f29:=func233.trans (congrArg some (by kernel_rfl))
 f46:=⟨Tryz.f282.name,by decide,func282.trans (congrArg some (by kernel_rfl))⟩
 f47:=func250.trans (congrArg some (by kernel_rfl))
 f48:=func251.trans (congrArg some (by kernel_rfl))
 f49:=⟨Tryz.f283.name,by decide,func283.trans (congrArg some (by kernel_rfl))⟩
 f50:=⟨Tryz.f284.name,by decide,func284.trans (congrArg some (by kernel_rfl))⟩
 f57:=⟨Tryz.f288.name,by decide,func288.trans (congrArg some (by kernel_rfl))⟩
 t0:=underlying0
 a0:=Tryz.isAgg0
 z0:=Tryz.sizeOf0
 v0:=Tryz.zeroValue0
 t3:=underlying3
 a3:=Tryz.isAgg3
 z3:=Tryz.sizeOf3
 v3:=Tryz.zeroValue3
 t4:=underlying4
 a4:=Tryz.isAgg4
 z4:=Tryz.sizeOf4
 v4:=Tryz.zeroValue4
 t5:=underlying5
 a5:=Tryz.isAgg5
 z5:=Tryz.sizeOf5
 v5:=Tryz.zeroValue5
 t9:=underlying9
 a9:=Tryz.isAgg9
 z9:=Tryz.sizeOf9
 v9:=Tryz.zeroValue9
 t22:=underlying309
 a22:=Tryz.isAgg309
 z22:=Tryz.sizeOf309
 v22:=Tryz.zeroValue309
 t25:=underlying360
 a25:=Tryz.isAgg360
 z25:=Tryz.sizeOf360
 v25:=Tryz.zeroValue360
 t39:=underlying335
 a39:=Tryz.isAgg335
 z39:=Tryz.sizeOf335
 v39:=Tryz.zeroValue335
 t45:=underlying373
 a45:=Tryz.isAgg373
 z45:=Tryz.sizeOf373
 v45:=Tryz.zeroValue373
 t46:=underlying374
 a46:=Tryz.isAgg374
 z46:=Tryz.sizeOf374
 v46:=Tryz.zeroValue374
 t50:=underlying379
 a50:=Tryz.isAgg379
 z50:=Tryz.sizeOf379
 v50:=Tryz.zeroValue379
 t53:=underlying40
 a53:=Tryz.isAgg40
 z53:=Tryz.sizeOf40
 v53:=Tryz.zeroValue40
 t55:=underlying38
 a55:=Tryz.isAgg38
 z55:=Tryz.sizeOf38
 v55:=Tryz.zeroValue38
 t66:=underlying397
 a66:=Tryz.isAgg397
 z66:=Tryz.sizeOf397
 v66:=Tryz.zeroValue397
 t70:=underlying400
 a70:=Tryz.isAgg400
 z70:=Tryz.sizeOf400
 v70:=Tryz.zeroValue400
 t76:=underlying421
 a76:=Tryz.isAgg421
 z76:=Tryz.sizeOf421
 v76:=Tryz.zeroValue421
 t77:=underlying197
 a77:=Tryz.isAgg197
 z77:=Tryz.sizeOf197
 v77:=Tryz.zeroValue197}
end Go.Proofs.YtoohkhcpboldjaaGreatDoor
namespace Go.Proofs.YtoohkhcpboldjaaGreatDoor
open Go.RowKit Go.Kin Go.Maps Go.Sort Tryz
abbrev vF:=gn×{v:N // v.oneCell'=true}
def uD(x:vF):List N:=[.int .u32 x.1.val,x.2.val]
instance :Inhabited vF:=⟨0,⟨.bool false,rfl⟩⟩
def aaY(x y:Int):Int:=if x<y then -1 else if y<x then 1 else 0
def pW(x y:vF):Int:=aaY x.1.val y.1.val
theorem aaZ(x y:vF):ltOf pW x y=decide (x.1.val<y.1.val):=by
 unfold ltOf pW aaY
 grind
theorem aHV:SWO (ltOf pW) where
 irrefl x:=by rw[aaZ];simp
 trans x y z J T:=by rw[aaZ,qf]at*;omega
 ntrans x y z J T:=by rw[aaZ,Sj]at*;omega
theorem arT(x:gn)(w:M):bc prog 242 #[.int .u32 x.val] w λv' w'=>v'=.bool false/\w'=w:=by
 refine bz func242 ntmps242 λbk af=> ?_;simp[go_sem];exact af _ _ ⟨rfl,rfl⟩
theorem aHW(x y:gn)(w:M):bc prog 210 #[.int .u32 x.val,.int .u32 y.val] w λv' w'=>v'=aa (aaY x.val y.val)/\w'=w:=by
 refine bz func210 ntmps210 λbk af=> ?_;unfold aaY at af;simp[go_sem];refine(arT x w).mono ?_;rintro _ ai ⟨rfl,bM⟩;subst ai;simp[go_sem];refine(arT y w).mono ?_;rintro _ ai ⟨rfl,bM⟩;subst ai;by_cases J:(x.val:Int)<y.val
 ·have mi:x<y:=by show x.val<y.val;omega
  simp[go_sem,J,mi];exact af _ _ ⟨by rw[be J],rfl⟩
 ·have mi:¬x<y:=λe=>J (by grind);by_cases T:(y.val:Int)<x.val
  ·have k':y<x:=by show y.val<x.val;omega
   simp[go_sem,J,mi,T,k'];exact af _ _ ⟨by rw[aQ J,be T],rfl⟩
  ·have k':¬y<x:=λe=>T (by grind);simp[go_sem,J,mi,T,k'];exact af _ _ ⟨by rw[aQ J,aQ T],rfl⟩
theorem aHX(x y:vF)(Y:M):bc prog 209 #[.agg (uD x).toArray,.agg (uD y).toArray] Y λv' w'=>v'=aa (pW x y)/\∃q aHY,w'=grow (Y.drewN q) aHY:=by
 refine bz func209 ntmps209 λbk af=> ?_;obtain⟨a,v,aM⟩:=x;obtain⟨b,u,ap⟩:=y;have e:∀nL hr:Obj,(Y.alloc nL).alloc hr=grow (Y.drewN 0) #[nL,hr]:=λnL hr=>by
  rfl
 simp[go_sem,uD];refine(aHW a b _).mono ?_;rintro _ ai ⟨rfl,bM⟩;subst ai;simp[go_sem];exact af _ _ ⟨rfl,0,_,e _ _⟩
theorem aHZ:Bc prog 309 312 (.agg #[.int .u32 0,.slice none 0 0]) 2 32:=⟨underlying309,by kernel_rfl,rfl,by decide⟩
theorem aH0(w:M)(blk cap:Nat)(d:Array vF)(aT:HoldsK uD 2 w blk 0 d)(BE:blk<w.1.size)(cU:d.size<1000000):
  bc prog 208 #[.slice (some ⟨blk,0,none⟩) d.size cap,.func (.func 209) #[] #[]] w λ_ w'=>∃dr:Array vF,PermIn 0 d.size d dr/\SortedIn (ltOf pW) 0 d.size dr/\HoldsK uD 2 w' blk 0 dr/\H (aj blk) w w':=by
 have aH1:∀args w,(callFunc 209 args).run prog w=.ok (.enter 209 args) w:=λargs w=>by simp[go_sem]
 have arU:=AnyQ.slices_SortFunc aHU 2 Tryz.isAgg312 Tryz.sizeOf312 uD (λ_=>rfl) (λx v aM=>by
  simp[uD]at aM;rcases aM with rfl|rfl
  ·rfl
  ·exact x.2.2) pW aHV 209 #[] blk 0 cap d w aH1 (λm os aB _ x y=>Calls.mono (aHX x y _).calls (by
   grind)) aT BE (by omega)
 change Calls prog 208 _ _ _ at arU;unfold bc;refine Calls.mono arU ?_;rintro e w' ⟨rfl,dr,n,os,am,aA,rfl⟩;exact⟨_,rfl,dr,am,aA,holdsK_sortWorldK_c uD 2 w blk 0 d dr n os aT BE am.1,H.aH2 _ _ _ _ _⟩
theorem aH3(w:M)(A:Option Addr)(cap:Nat)(c:N):bc prog 263 #[.slice A 0 cap,aa 0,aa 0,c] w λ_ w'=>H al w w':=by
 refine bz func263 ntmps263 λbk af=> ?_;have dx:IntKind.i64.wrap 1=1:=rfl;simp[go_sem,dx];refine di (λV f u=>V=0/\f 8=aa 1/\f 2=aa 0/\u=w) 0 ⟨rfl,by simp,by simp,rfl⟩ ?_;rintro cQ bJ V f u ⟨rfl,bB,bg,rfl⟩;simp[go_sem,bB,bg];exact af _ _ (H.refl _ _)
theorem aH4(w:M)(A:Option Addr)(cap:Nat)(c:N):bc prog 208 #[.slice A 0 cap,c] w λ_ w'=>H al w w':=by
 refine bz func208 ntmps208 λbk af=> ?_;have ak:bc prog 194 #[.int .u64 0] w λv' w'=>v'=aa 0/\w'=w:=S16.HU 0 (by omega) w;simp[go_sem];refine ak.mono ?_;rintro _ ai ⟨rfl,bM⟩;subst ai;simp[go_sem];have am:bc prog 241 #[.slice A 0 cap,aa 0,aa 0,aa 0,c] w λ_ w'=>H al w w':=by
  refine bz func241 ntmps241 λbk af=> ?_;simp[go_sem];refine di (λV f u=>V=0/\f 0=.slice A 0 cap/\f 1=aa 0/\f 2=aa 0/\f 4=c/\u=w) 0 ⟨rfl,by simp,by simp,by simp,by simp,rfl⟩ ?_;rintro cQ bJ V f u ⟨rfl,f0,aW,bg,ck,rfl⟩;have sm:IntKind.i64.wrap 0=0:=rfl;simp[go_sem,f0,aW,bg,ck,sm];refine(aH3 u A cap c).mono ?_;intro _ an aK;simp[go_sem];exact af _ _ aK
 refine am.mono ?_;intro _ an aK;simp[go_sem];exact af _ _ aK
end Go.Proofs.YtoohkhcpboldjaaGreatDoor
namespace Go.Proofs.YtoohkhcpboldjaaGreatDoor
open Go.RowKit Go.Kin Go.Maps Tryz
structure MA(D:cV)(num:dp)(Y w:M)(L:List vF):Prop where
 cn:(L.map (·.1)).Nodup
 pb:∀o,o∈L.map (·.1)↔(D.lf (num,o)).isSome=true
 val:∀x∈L,∃b,D.lf (num,x.1)=some b/\bC w x.2.val b.length (br b)/\gr Y.1.size x.2.val/\∃A m c,x.2.val=.slice A m c
section
variable {w w':M}{S:Nat->Prop}{o n:Nat}{base fZ:N}{D:cV}{X bw:Nat->Prop}{z:zE}
theorem MA.perm{num:dp}{Y:M}{L Nr:List vF}(h:MA D num Y w L)(am:Nr.Perm L):MA D num Y w Nr:=
 ⟨(am.map _).nodup_iff.2 h.cn,λo=>((am.map _).mem_iff).trans (h.pb o),λx W=>h.val x (am.mem_iff.1 W)⟩
theorem aA3(h:jg w o base fZ n D X bw z)(num:dp)(aq:n<=100000):bc prog 175 #[az o,.int .u16 num.val] w λv' w'=>∃L:List vF,MA D num w w' L/\L.Pairwise (λx y=>x.1<y.1)/\fC w' v' uD 2 L/\H al w w'/\gr w.1.size v':=by
 refine bz func175 ntmps175 λbk af=> ?_;have aI:w.cell? (bl o 3)=some (.map (some z.eC)):=aG h.blk 3;obtain⟨oh,hn,b_⟩:=h.lf;obtain⟨an,eM,ax,aH,zZ,so,cR⟩:=hn.range KJ underlying142;obtain⟨V,yt⟩:=aD (w.1.size);rw[yt]at ax aH;simp[go_sem,aI,ax];have iQ:=h.lt z.eC (.inl (h.x _ (.inr (.inr (.inl rfl)))));have aSt:∀k,bw k->k<V:=λk r=>by have:=h.lt k (.inr r);omega
 obtain⟨bq,bW⟩:∃bq:(Nat->N)->M->Prop,bq=λf u=>∃L:List vF,MA D num w u L/\(∀x∈L,∀k,x.2.val.ownBlock=some k->(f 5).ownBlock≠some k)/\L.length<=n/\vS 312 2 w (f 5) L.length (L.flatMap uD) u:=⟨_,rfl⟩;refine zR bq ?_ ?_
 ·refine di (λt f u=>∃(left:dp×gn->Bool) (L:List vF),f 1=.int .u16 num.val/\f 14=az V/\pu u prog 187 pg z.eC V n oh left t/\L.length+t<=n/\vS 312 2 w (f 5) L.length (L.flatMap uD) u/\(∀k,(f 5).ownBlock=some k->V<k)/\
   (∀x∈L,∀k,x.2.val.ownBlock=some k->(f 5).ownBlock≠some k)/\(L.map (·.1)).Nodup/\(∀o,o∈L.map (·.1)↔(left (num,o)=false/\(D.lf (num,o)).isSome=true))/\(∀x∈L,∃b,D.lf (num,x.1)=some b/\bC u x.2.val b.length (br b)/\gr w.1.size x.2.val/\∃A m c,x.2.val=.slice A m c)/\(∀x∈L,∀k,x.2.val.ownBlock=some k->V<k/\k<u.1.size)) eM
   ⟨_,[],by simp,by simp,aH,by simp;omega,vS.nil _ _ so,by simp[Value.ownBlock],by simp,by simp,λo=> ?_,by simp,by simp⟩ ?_
  ·simp only[OF,yD,false_iff];rintro⟨e,aR⟩;obtain⟨b,ab⟩:=IG.1 aR
   grind
  rintro cQ bJ t f u ⟨left,L,aW,f14,yu,cu,sG,Vw,dn,kz,Qq,Pg,am9⟩;have aS:=sG.ch;rcases yu.next KJ 0 with⟨ak,pw⟩|⟨a,v,u2,el,ak,HS,pw,xf,BH,BJ,ael,BI⟩
  ·simp[go_sem,f14,pw];rw[bW];exact⟨L,⟨kz,λo=>by rw[Qq o];simp[ak],Pg⟩,dn,by omega,sG⟩
  ·have kJ:H al w u2:=aS.bZ BJ λj I e=>by simp only[aj]at e;omega
   have aU:=(H.refl al u2).alloc (.cells #[.int .u16 a.1.val,.int .u32 a.2.val] 187);have dD:=cr u2 (.cells #[.int .u16 a.1.val,.int .u32 a.2.val] 187);obtain⟨q,au⟩:=aD (u2.1.size);have Np:=xf.ch aU id id;have pP:=λi=>aG dD i;have hr:u2.ownsRow 0 312 2 (f 5) L.length (L.flatMap uD):=gu sG.own BJ λk r e=>by simp only[aj]at e;have:=Vw k r;omega
   have hk:∀x∈L,∃b,D.lf (num,x.1)=some b/\bC u2 x.2.val b.length (br b)/\gr w.1.size x.2.val/\∃A m c,x.2.val=.slice A m c:=λx W=>by
    obtain⟨b,J,T,ag,aP⟩:=Pg x W;exact⟨b,J,T.ch BJ λk r e=>by simp only[aj]at e;grind,ag,aP⟩
   obtain⟨b,ab⟩:∃b,D.lf a=some b:=by
    cases aN:D.lf a with
    |none=>grind
    |some b=>exact⟨b,rfl⟩
   obtain⟨v',aM,lx,jm⟩:=(b_ a).2 b ab;rw[aM]at HS
   cases HS
   have aSu:V<q:=by
    have:=xf.lt;omega
   rw[au]at dD pP;obtain⟨ML,aH5,qh,_⟩:=id lx;obtain⟨ea,FH⟩:=a;subst qh;by_cases kj:ea=num
   ·subst ea;have eh:=h.KL _ _ ab;have eY:=GN (.slice ML b.length aH5) b.length b ((u2.alloc (.cells #[.int .u16 num.val,.int .u32 FH.val] 187)).drew) (by omega) rfl (((lx.ch kJ λ_ _ e=>e).ch aU λ_ _ e=>e).drew);simp[go_sem,f14,aW,pw,BI,pg,au,pP];refine cT [F 0,F 1,F 2,F 3,(4,some [0,1,2]),F 5,(6,some [0]),(7,some []),F 8] ?_;simp[go_sem,au,pP];refine eY.mono ?_;rintro v4 bs ⟨nC,bo,ck⟩;have En:H al u2 bs:=aU.trans (H.hR bo);have aH6:bs.cell? (bl q 1)=some (.int .u32 FH.val):=(H.hR bo).cell (pP 1) id;obtain⟨Bb,xy,QU,Tr⟩:∃A m c,v4=.slice A m c:=by
     rcases nC.2 with⟨e,_⟩|⟨nE,cap,dF,e,_⟩
     ·exact⟨_,_,_,e⟩
     ·exact⟨_,_,_,e⟩
    subst Tr;have pj:(u2.alloc (.cells #[.int .u16 num.val,.int .u32 FH.val] 187)).1.size=q+1:=by simp[au]
    have aSv:∀k,(Value.slice Bb xy QU).ownBlock=some k->q<k:=λk r=>by
     have:=ck k r;simp[au]at this;omega
    have aH7:bs.ownsRow 0 312 2 (f 5) L.length (L.flatMap uD):=gu (gu hr En λ_ _ e=>e) (H.refl al bs) λ_ _ e=>e;simp[go_sem,aH6];refine wJ (us:=[.int .u32 FH.val,.slice Bb xy QU]) aHZ aH7 rfl (by simp[Value.oneCell']) (by unfold maxLen;omega) (by omega) λv5 bD bn bh bA=> ?_;obtain⟨KO,sr⟩:∃KO:vF,KO=(FH,⟨.slice Bb xy QU,rfl⟩):=⟨_,rfl⟩;have lr:KO.1=FH:=by rw[sr]
    have yY:KO.2.val=.slice Bb xy QU:=by rw[sr]
    have wI:bD.ownsRow 0 312 2 v5 (L++[KO]).length ((L++[KO]).flatMap uD):=by
     rw[acV,kR,II,List.flatMap_singleton];unfold uD;rw[lr,yY];exact bn
    have md:∀k,(f 5).ownBlock=some k->k<q:=λk r=>by
     have:=nK hr k r;omega
    have aSw:FH∉L.map (·.1):=λe=>by
     grind
    have ht:=nK nC;have aSx:=En.size;have SE:=bh.size;have Nq:=((xf.ch En id id).ch bh (λe=>by have:=Vw _ e;omega) (λe=>by have:=Vw _ e;omega));have pt:∀x∈L,∃b,D.lf (num,x.1)=some b/\bC bD x.2.val b.length (br b)/\gr w.1.size x.2.val/\∃A m c,x.2.val=.slice A m c:=λx W=>by
     obtain⟨b,J,T,ag,aP⟩:=hk x W;exact⟨b,J,(T.ch En λ_ _ e=>e).ch bh λk r e=>dn x W k r e,ag,aP⟩
    have aSy:∀x∈L,∀k,x.2.val.ownBlock=some k->V<k/\k<bs.1.size:=λx W k r=>by
     grind
    have aH8:∀k,v5.ownBlock=some k->V<k:=λk r=>by
     rcases bA with e|e
     ·grind
     ·have:=e k r;omega
    have aH9:∀x∈L++[KO],∀k,x.2.val.ownBlock=some k->v5.ownBlock≠some k:=λx W k r e=>by
     rcases hP.1 W with W|W
     ·rcases bA with dB|dB
      ·grind
      ·have:=dB k e
       grind
     ·simp at W;subst W;rw[yY]at r;rcases bA with dB|dB
      ·grind
      ·have:=dB k e
       grind
    have A_:D.lf (num,FH)=some b/\bC bD (.slice Bb xy QU) b.length (br b)/\gr w.1.size (.slice Bb xy QU):=by
     refine⟨ab,(bC.fF nC).ch bh λk r e=> ?_,λk r=> ?_⟩
     ·grind
     ·grind
    simp[go_sem];refine ct.intro el BH (bJ _ _ _ ⟨_,L++[KO],by simp[aW],by simp[f14],Nq,by simp;omega,⟨by simpa using wI,(kJ.trans En).bZ bh λj I e=>by have:=Vw j e;omega,?_⟩,?_,?_,?_,λc=> ?_,λx W=> ?_,λx W k r=> ?_⟩)
    ·intro k r;simp at r
     grind
    ·intro k r;simp at r;exact aH8 k r
    ·intro x W k r;simpa using aH9 x W k r
    ·rw[AC,List.nodup_append];refine⟨kz,by simp,?_⟩;intro y ar fv KP e;simp only[oq,OF,sc]at KP
     grind
    ·rw[AC,hP,Qq c];simp only[oq,OF,sc,lr];by_cases GM:c=FH
     ·grind
     ·have:¬((num,c):dp×gn)=(num,FH):=λe=>GM (by cases e;rfl);simp[this,GM]
    ·rcases hP.1 W with W|W
     ·exact pt x W
     ·simp at W
      grind
    ·rcases hP.1 W with W|W
     ·grind
     ·simp at W
      grind
   ·have arV:¬(ea.val:Int)=num.val:=λe=>kj (Gg (by omega));have KM:((ea.val:Int)==(num.val:Int))=false:=hv arV;simp[go_sem,f14,aW,pw,BI,pg,au,pP,kj,arV,KM];refine ct.intro el BH (bJ _ _ _ ⟨_,L,by simp[aW],by simp[f14],Np,by omega,⟨by simpa using gu hr aU λ_ _ e=>e,kJ.trans aU,by simpa using sG.pF⟩,by simpa using Vw,by simpa using dn,kz,λc=> ?_,λx W=> ?_,λx W k r=> ?_⟩)
    ·grind
    ·obtain⟨b,J,T,ag,aP⟩:=hk x W;exact⟨b,J,T.ch aU λ_ _ e=>e,ag,aP⟩
    grind
 rw[bW];clear bW bq ax aH so;rintro f u ⟨L,b_,dn,cu,aC⟩;have aS:=aC.ch;obtain⟨out,QV⟩:=aD (f 5);rw[QV]at dn aC;have fG:=aC.own;have fo:∀x,(uD x).length=2:=λ_=>rfl;simp[go_sem,QV];by_cases bi:0<L.length
 ·obtain⟨g,cap,dF,aM,dm,Bv,aH_⟩:∃g cap dF,out=.slice (some ⟨g,0,none⟩) L.length cap/\u.1[g]? =some (.cells dF 312 (0,0))/\L.length<=cap/\cap<=maxLen:=by
   rcases fG.2 with⟨_,e⟩|⟨g,cap,dF,aM,_,ab,J,T,_⟩
   ·omega
   grind
  subst aM;have aT:=aH' (by decide) fo L.toArray fG (by simp) (by simp);have rX:=lt_of_block dm;have aA:=aH0 u g cap L.toArray aT rX (by simp;omega);simp only[XD]at aA;refine aA.mono ?_;rintro _ aJ ⟨dr,fg,cl,aIa,Cm⟩;simp[go_sem,QV];have cU:dr.size=L.length:=by rw[fg.1];simp
  have Dk:dr.toList.Perm L:=by
   have:=fg.2.2;have aL:(dr.extract 0 L.length).toList=dr.toList:=by rw[<-cU];simp
   have aR:(L.toArray.extract 0 L.length).toList=L:=by simp
   rw[aL,aR]at this;exact this
  have nl:MA D num w aJ L:=⟨b_.cn,b_.pb,λx W=>by
   obtain⟨b,J,T,ag,aP⟩:=b_.val x W;refine⟨b,J,T.ch Cm λk r e=> ?_,ag,aP⟩;have:=dn x W k r;simp only[aj]at e;subst e;exact this rfl⟩
  have aa0:w.1.size<=g:=aC.pF g rfl;have FI:=aIb (cap:=cap) (n:=L.length) (by decide) fo (gQ rX Cm.size) aIa cU.symm Bv aH_;refine af _ _ ⟨dr.toList,nl.perm Dk,?_,FI,aS.bZ Cm λj I e=>by simp only[aj]at e;omega,aC.pF⟩;have kz:(dr.toList.map (·.1)).Nodup:=(nl.perm Dk).cn;rw[OP];intro i j ad I iT;have Hp:i<dr.size:=by simpa using ad
  have kT:j<dr.size:=by simpa using I
  have J:=cl i j (gG _) iT (by omega);have aL:dr[i]! =dr.toList[i]:=by simp[Hp]
  have aR:dr[j]! =dr.toList[j]:=by simp[kT]
  rw[aL,aR,aaZ,Sj]at J;have arW:(dr.toList[i]).1≠(dr.toList[j]).1:=by
   have:=OP.1 kz i j (by simpa using ad) (by simpa using I) iT;simpa using this
  grind
 ·obtain rfl:L=[]:=wh (by omega);obtain⟨A,cap,aM,Bv⟩:∃A cap,out=.slice A 0 cap/\cap<=maxLen:=by
   rcases fG.2 with⟨aM,_⟩|⟨g,cap,dF,aM,_,ab,J,T,_⟩
   ·grind
   ·exact⟨_,_,aM,T⟩
  subst aM;refine(aH4 u A cap _).mono ?_;intro _ aJ Cm;simp[go_sem,QV];refine af _ _ ⟨[],⟨b_.cn,b_.pb,λx W=>by simp at W⟩,IJ,⟨A,cap,rfl,gG _,Bv,λh=>by simp at h⟩,aS.trans Cm,aC.pF⟩
end
end Go.Proofs.YtoohkhcpboldjaaGreatDoor
