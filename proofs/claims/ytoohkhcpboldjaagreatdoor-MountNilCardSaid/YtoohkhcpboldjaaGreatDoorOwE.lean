/- What an overlay has of a number's leaves, in order. No condition but on sizes. -/
import Derived.Test.YtoohkhcpboldjaaGreatDoorTbF
import Derived.Shelf.SlSortCmp.WholeK
set_option maxRecDepth 100000
set_option maxHeartbeats 4000000
set_option linter.unusedSimpArgs false
set_option linter.unusedVariables false
namespace Go.Proofs.YtoohkhcpboldjaaGreatDoor
open Go.RowKit Go.Kin Go.Maps
section
variable{w w':World}{S:Nat->Prop}{o n:Nat}{base hI:Value}{L:fM}{X bo:Nat->Prop}{z:xF}
theorem arh(h:po w o base hI n L X bo z)(num:em):aP Tryz.prog 172 #[.pointer (some ⟨o,0,none⟩),.int .u16 num.val] w λW w'=>W=.tuple #[.agg (bk ((L.bk num).getD bA)),.bool (L.bk num).isSome]/\D ak w w':=by
 refine bn Tryz.func172 Tryz.ntmps172 λaZ Z=> ?_;have aw:=jr ls;have bj:=cl w (.cells (bk bA) 113);have fG:=(D.refl ak w).alloc (.cells (bk bA) 113);simp[go_sem,CV,tP,tQ,aw];obtain⟨jW,aa6⟩:=az (w.1.size);rw[aa6]at bj⊢;generalize w.alloc (.cells (bk bA) 113)=ab at*;have aIN:=lt_of_block bj;have H:=h.ch fG (λ_ _ e=>e) λ_ _ e=>e;have aA:ab.cell? ⟨o,2,none⟩=some (.map (some z.tB)):=aG H.blk 2;have al:(Instr.lookup 141 (.map (some z.tB)) (.int .u16 num.val) true).run Tryz.prog ab=_:=H.bk.look_ok DG Tryz.underlying141 (ayZ ab) num;obtain⟨y,ar⟩:=az ((L.bk num).getD bA:br);have Nk:gR y:=by
  rw[<-ar]
  cases aa:L.bk num with
  |none=>exact ls
  |some x=>exact h.JT _ _ aa
 have ay1:((L.bk num).map FQ).getD (.agg (bk bA))=.agg (bk y):=by
  rw[<-ar]
  cases aa:L.bk num<;>rfl
 rw[ar]at Z;have Cu:=jr Nk;have ay2:=tO Nk;rw[ay1]at al;have ba:=cl ab (.cells (bk y) 113);have aY:=(D.refl ak ab).alloc (.cells (bk y) 113);have ay3:=aY.obj bj id;simp at al;simp[go_sem,aA,al,CV,tP,tQ,aw,Cu,bQ];obtain⟨ym,RR⟩:=az (ab.1.size);rw[RR]at ba⊢;generalize ab.alloc (.cells (bk y) 113)=aC at*;simp[go_sem,ba,ay3,aw,Cu,ay2,bQ];exact Z _ _ ⟨rfl,(fG.trans aY).setRow (.inr (by omega)) _⟩
end
end Go.Proofs.YtoohkhcpboldjaaGreatDoor
namespace Go.Proofs.YtoohkhcpboldjaaGreatDoor
open Go Go.Shelf
def ay4:Go.Shelf.Ren:=⟨λ|6=>208|15=>194|14=>241|28=>232|29=>233|20=>263|21=>264|22=>265|23=>266|24=>267|25=>268|26=>269|27=>270|46=>282|47=>250|48=>251|49=>283|50=>284|57=>288|n=>n,λ|22=>309|24=>312|25=>360|3=>3|39=>335|0=>0|53=>40|55=>38|4=>4|46=>374|45=>373|50=>379|5=>5|9=>9|66=>397|70=>400|76=>421|77=>197|n=>n,λ|n=>n⟩
theorem ay5:Go.Proofs.SlLaysF0.n6 Tryz.prog ay4:={
 mixed:=by kernel_rfl
 f6:=⟨Tryz.f208.name,by decide,Tryz.func208.trans (congrArg some (by kernel_rfl))⟩
 f14:=⟨Tryz.f241.name,by decide,Tryz.func241.trans (congrArg some (by kernel_rfl))⟩
 f15:=Tryz.func194.trans (congrArg some (by kernel_rfl))
 f20:=⟨Tryz.f263.name,by decide,Tryz.func263.trans (congrArg some (by kernel_rfl))⟩
 f21:=⟨Tryz.f264.name,by decide,Tryz.func264.trans (congrArg some (by kernel_rfl))⟩
 f22:=⟨Tryz.f265.name,by decide,Tryz.func265.trans (congrArg some (by kernel_rfl))⟩
 f23:=⟨Tryz.f266.name,by decide,Tryz.func266.trans (congrArg some (by kernel_rfl))⟩
 f24:=⟨Tryz.f267.name,by decide,Tryz.func267.trans (congrArg some (by kernel_rfl))⟩
 f25:=⟨Tryz.f268.name,by decide,Tryz.func268.trans (congrArg some (by kernel_rfl))⟩
 f26:=⟨Tryz.f269.name,by decide,Tryz.func269.trans (congrArg some (by kernel_rfl))⟩
 f27:=⟨Tryz.f270.name,by decide,Tryz.func270.trans (congrArg some (by kernel_rfl))⟩
 f28:=Tryz.func232.trans (congrArg some (by kernel_rfl))
 f29:=Tryz.func233.trans (congrArg some (by kernel_rfl))
 f46:=⟨Tryz.f282.name,by decide,Tryz.func282.trans (congrArg some (by kernel_rfl))⟩
 f47:=Tryz.func250.trans (congrArg some (by kernel_rfl))
 f48:=Tryz.func251.trans (congrArg some (by kernel_rfl))
 f49:=⟨Tryz.f283.name,by decide,Tryz.func283.trans (congrArg some (by kernel_rfl))⟩
 f50:=⟨Tryz.f284.name,by decide,Tryz.func284.trans (congrArg some (by kernel_rfl))⟩
 f57:=⟨Tryz.f288.name,by decide,Tryz.func288.trans (congrArg some (by kernel_rfl))⟩
 t0:=Tryz.underlying0
 a0:=Tryz.isAgg0
 z0:=Tryz.sizeOf0
 v0:=Tryz.zeroValue0
 t3:=Tryz.underlying3
 a3:=Tryz.isAgg3
 z3:=Tryz.sizeOf3
 v3:=Tryz.zeroValue3
 t4:=Tryz.underlying4
 a4:=Tryz.isAgg4
 z4:=Tryz.sizeOf4
 v4:=Tryz.zeroValue4
 t5:=Tryz.underlying5
 a5:=Tryz.isAgg5
 z5:=Tryz.sizeOf5
 v5:=Tryz.zeroValue5
 t9:=Tryz.underlying9
 a9:=Tryz.isAgg9
 z9:=Tryz.sizeOf9
 v9:=Tryz.zeroValue9
 t22:=Tryz.underlying309
 a22:=Tryz.isAgg309
 z22:=Tryz.sizeOf309
 v22:=Tryz.zeroValue309
 t25:=Tryz.underlying360
 a25:=Tryz.isAgg360
 z25:=Tryz.sizeOf360
 v25:=Tryz.zeroValue360
 t39:=Tryz.underlying335
 a39:=Tryz.isAgg335
 z39:=Tryz.sizeOf335
 v39:=Tryz.zeroValue335
 t45:=Tryz.underlying373
 a45:=Tryz.isAgg373
 z45:=Tryz.sizeOf373
 v45:=Tryz.zeroValue373
 t46:=Tryz.underlying374
 a46:=Tryz.isAgg374
 z46:=Tryz.sizeOf374
 v46:=Tryz.zeroValue374
 t50:=Tryz.underlying379
 a50:=Tryz.isAgg379
 z50:=Tryz.sizeOf379
 v50:=Tryz.zeroValue379
 t53:=Tryz.underlying40
 a53:=Tryz.isAgg40
 z53:=Tryz.sizeOf40
 v53:=Tryz.zeroValue40
 t55:=Tryz.underlying38
 a55:=Tryz.isAgg38
 z55:=Tryz.sizeOf38
 v55:=Tryz.zeroValue38
 t66:=Tryz.underlying397
 a66:=Tryz.isAgg397
 z66:=Tryz.sizeOf397
 v66:=Tryz.zeroValue397
 t70:=Tryz.underlying400
 a70:=Tryz.isAgg400
 z70:=Tryz.sizeOf400
 v70:=Tryz.zeroValue400
 t76:=Tryz.underlying421
 a76:=Tryz.isAgg421
 z76:=Tryz.sizeOf421
 v76:=Tryz.zeroValue421
 t77:=Tryz.underlying197
 a77:=Tryz.isAgg197
 z77:=Tryz.sizeOf197
 v77:=Tryz.zeroValue197}
end Go.Proofs.YtoohkhcpboldjaaGreatDoor
namespace Go.Proofs.YtoohkhcpboldjaaGreatDoor
open Go.RowKit Go.Kin Go.Maps Go.Sort
abbrev ta:=gP×{v:Value // v.oneCell'=true}
def sh(x:ta):List Value:=[.int .u32 x.1.val,x.2.val]
instance:Inhabited ta:=⟨0,⟨.bool false,rfl⟩⟩
def Uy(x y:Int):Int:=if x<y then -1 else if y<x then 1 else 0
def ov(x y:ta):Int:=Uy x.1.val y.1.val
theorem Uz(x y:ta):ltOf ov x y=decide (x.1.val<y.1.val):=by
 unfold ltOf ov Uy
 grind
theorem ay6:SWO (ltOf ov) where
 irrefl x:=by rw[Uz];simp
 trans x y z H I:=by rw[Uz,decide_eq_true_eq]at*;omega
 ntrans x y z H I:=by rw[Uz,decide_eq_false_iff_not]at*;omega
theorem ajX(x:gP)(w:World):aP Tryz.prog 242 #[.int .u32 x.val] w λW w'=>W=.bool false/\w'=w:=by
 refine bn Tryz.func242 Tryz.ntmps242 λaZ Z=> ?_;simp[go_sem];exact Z _ _ ⟨rfl,rfl⟩
theorem ay7(x y:gP)(w:World):aP Tryz.prog 210 #[.int .u32 x.val,.int .u32 y.val] w λW w'=>W=.int .i64 (Uy x.val y.val)/\w'=w:=by
 refine bn Tryz.func210 Tryz.ntmps210 λaZ Z=> ?_;unfold Uy at Z;simp[go_sem];refine(ajX x w).mono ?_;rintro _ ab ⟨rfl,bH⟩;subst ab;simp[go_sem];refine(ajX y w).mono ?_;rintro _ ab ⟨rfl,bH⟩;subst ab;by_cases H:(x.val:Int)<y.val
 ·have lT:x<y:=by show x.val<y.val;omega
  simp[go_sem,H,lT];exact Z _ _ ⟨by rw[if_pos H],rfl⟩
 ·have lT:¬x<y:=λe=>H (by grind);by_cases I:(y.val:Int)<x.val
  ·have je:y<x:=by show y.val<x.val;omega
   simp[go_sem,H,lT,I,je];exact Z _ _ ⟨by rw[if_neg H,if_pos I],rfl⟩
  ·have je:¬y<x:=λe=>I (by grind);simp[go_sem,H,lT,I,je];exact Z _ _ ⟨by rw[if_neg H,if_neg I],rfl⟩
theorem ay8(x y:ta)(N:World):aP Tryz.prog 209 #[.agg (sh x).toArray,.agg (sh y).toArray] N λW w'=>W=.int .i64 (ov x y)/\∃q ay9,w'=grow (N.drewN q) ay9:=by
 refine bn Tryz.func209 Tryz.ntmps209 λaZ Z=> ?_;obtain⟨a,v,aS⟩:=x;obtain⟨b,u,an⟩:=y;have e:∀om hL:Obj,(N.alloc om).alloc hL=grow (N.drewN 0) #[om,hL]:=λom hL=>by
  rfl
 simp[go_sem,sh];refine(ay7 a b _).mono ?_;rintro _ ab ⟨rfl,bH⟩;subst ab;simp[go_sem];exact Z _ _ ⟨rfl,0,_,e _ _⟩
theorem ay_:Bg Tryz.prog 309 312 (.agg #[.int .u32 0,.slice none 0 0]) 2 32:=⟨Tryz.underlying309,by kernel_rfl,rfl,by decide⟩
theorem ay'(w:World)(blk cap:Nat)(d:Array ta)(aN:HoldsK sh 2 w blk 0 d)(yd:blk<w.1.size)(cL:d.size<1000000):
  aP Tryz.prog 208 #[.slice (some ⟨blk,0,none⟩) d.size cap,.func (.func 209) #[] #[]] w λ_ w'=>∃c_:Array ta,PermIn 0 d.size d c_/\SortedIn (ltOf ov) 0 d.size c_/\HoldsK sh 2 w' blk 0 c_/\D (aj blk) w w':=by
 have aza:∀args w,(callFunc 209 args).run Tryz.prog w=.ok (.enter 209 args) w:=λargs w=>by simp[go_sem]
 have ajY:=AnyQ.slices_SortFunc ay5 2 Tryz.isAgg312 Tryz.sizeOf312 sh (λ_=>rfl) (λx v aS=>by
  simp[sh]at aS;rcases aS with rfl|rfl
  ·rfl
  ·exact x.2.2) ov ay6 209 #[] blk 0 cap d w aza (λm os au _ x y=>Calls.mono (ay8 x y _).calls (by
   grind)) aN yd (by omega)
 change Calls Tryz.prog 208 _ _ _ at ajY;unfold aP;refine Calls.mono ajY ?_;rintro e w' ⟨rfl,c_,n,os,ah,aw,rfl⟩;exact⟨_,rfl,c_,ah,aw,holdsK_sortWorldK_c sh 2 w blk 0 d c_ n os aN yd ah.1,D.azb _ _ _ _ _⟩
theorem azc(w:World)(ag:Option Addr)(cap:Nat)(c:Value):aP Tryz.prog 263 #[.slice ag 0 cap,.int .i64 0,.int .i64 0,c] w λ_ w'=>D ak w w':=by
 refine bn Tryz.func263 Tryz.ntmps263 λaZ Z=> ?_;have de:IntKind.i64.wrap 1=1:=rfl;simp[go_sem,de];refine du (λJ f u=>J=0/\f 8=.int .i64 1/\f 2=.int .i64 0/\u=w) 0 ⟨rfl,by simp,by simp,rfl⟩ ?_;rintro cJ bK J f u ⟨rfl,bz,bh,rfl⟩;simp[go_sem,bz,bh];exact Z _ _ (D.refl _ _)
theorem azd(w:World)(ag:Option Addr)(cap:Nat)(c:Value):aP Tryz.prog 208 #[.slice ag 0 cap,c] w λ_ w'=>D ak w w':=by
 refine bn Tryz.func208 Tryz.ntmps208 λaZ Z=> ?_;have al:aP Tryz.prog 194 #[.int .u64 0] w λW w'=>W=.int .i64 0/\w'=w:=S16.DJ 0 (by omega) w;simp[go_sem];refine al.mono ?_;rintro _ ab ⟨rfl,bH⟩;subst ab;simp[go_sem];have ah:aP Tryz.prog 241 #[.slice ag 0 cap,.int .i64 0,.int .i64 0,.int .i64 0,c] w λ_ w'=>D ak w w':=by
  refine bn Tryz.func241 Tryz.ntmps241 λaZ Z=> ?_;simp[go_sem];refine du (λJ f u=>J=0/\f 0=.slice ag 0 cap/\f 1=.int .i64 0/\f 2=.int .i64 0/\f 4=c/\u=w) 0 ⟨rfl,by simp,by simp,by simp,by simp,rfl⟩ ?_;rintro cJ bK J f u ⟨rfl,f0,a_,bh,cr,rfl⟩;have pf:IntKind.i64.wrap 0=0:=rfl;simp[go_sem,f0,a_,bh,cr,pf];refine(azc u ag cap c).mono ?_;intro _ ai aA;simp[go_sem];exact Z _ _ aA
 refine ah.mono ?_;intro _ ai aA;simp[go_sem];exact Z _ _ aA
end Go.Proofs.YtoohkhcpboldjaaGreatDoor
namespace Go.Proofs.YtoohkhcpboldjaaGreatDoor
open Go.RowKit Go.Kin Go.Maps
structure Hh(L:fM)(num:em)(N w:World)(ae:List ta):Prop where
 bZ:(ae.map (·.1)).Nodup
 nA:∀o,o∈ae.map (·.1)↔(L.lf (num,o)).isSome=true
 val:∀x∈ae,∃b,L.lf (num,x.1)=some b/\bD w x.2.val b.length (bm b)/\fZ N.1.size x.2.val/\∃ag m c,x.2.val=.slice ag m c
section
variable{w w':World}{S:Nat->Prop}{o n:Nat}{base hI:Value}{L:fM}{X bo:Nat->Prop}{z:xF}
theorem Hh.perm{num:em}{N:World}{ae Ig:List ta}(h:Hh L num N w ae)(ah:Ig.Perm ae):Hh L num N w Ig:=
 ⟨(ah.map _).nodup_iff.2 h.bZ,λo=>((ah.map _).mem_iff).trans (h.nA o),λx M=>h.val x (ah.mem_iff.1 M)⟩
theorem arq(h:po w o base hI n L X bo z)(num:em)(av:n<=100000):aP Tryz.prog 175 #[.pointer (some ⟨o,0,none⟩),.int .u16 num.val] w λW w'=>∃ae:List ta,Hh L num w w' ae/\ae.Pairwise (λx y=>x.1<y.1)/\fA w' W sh 2 ae/\D ak w w'/\fZ w.1.size W:=by
 refine bn Tryz.func175 Tryz.ntmps175 λaZ Z=> ?_;have aE:w.cell? ⟨o,3,none⟩=some (.map (some z.fF)):=aG h.blk 3;obtain⟨vy,gJ,bT⟩:=h.lf;obtain⟨ai,eN,ap,aF,zR,nc,cw⟩:=gJ.range Uv Tryz.underlying142;obtain⟨J,yc⟩:=az (w.1.size);rw[yc]at ap aF;simp[go_sem,aE,ap];have ia:=h.lt z.fF (.inl (h.x _ (.inr (.inr (.inl rfl)))));have aIO:∀k,bo k->k<J:=λk r=>by have:=h.lt k (.inr r);omega
 obtain⟨bg,bP⟩:∃bg:(Nat->Value)->World->Prop,bg=λf u=>∃ae:List ta,Hh L num w u ae/\(∀x∈ae,∀k,x.2.val.ownBlock=some k->(f 5).ownBlock≠some k)/\ae.length<=n/\Pz 312 2 w (f 5) ae.length (ae.flatMap sh) u:=⟨_,rfl⟩;refine wq bg ?_ ?_
 ·refine du (λt f u=>∃(left:em×gP->Bool) (ae:List ta),f 1=.int .u16 num.val/\f 14=.pointer (some ⟨J,0,none⟩)/\rI u Tryz.prog 187 tA z.fF J n vy left t/\ae.length+t<=n/\Pz 312 2 w (f 5) ae.length (ae.flatMap sh) u/\(∀k,(f 5).ownBlock=some k->J<k)/\
   (∀x∈ae,∀k,x.2.val.ownBlock=some k->(f 5).ownBlock≠some k)/\(ae.map (·.1)).Nodup/\(∀o,o∈ae.map (·.1)↔(left (num,o)=false/\(L.lf (num,o)).isSome=true))/\(∀x∈ae,∃b,L.lf (num,x.1)=some b/\bD u x.2.val b.length (bm b)/\fZ w.1.size x.2.val/\∃ag m c,x.2.val=.slice ag m c)/\(∀x∈ae,∀k,x.2.val.ownBlock=some k->J<k/\k<u.1.size)) eN
   ⟨_,[],by simp,by simp,aF,by simp;omega,Pz.nil _ _ nc,by simp[Value.ownBlock],by simp,by simp,λo=> ?_,by simp,by simp⟩ ?_
  ·simp only[List.map_nil,List.not_mem_nil,false_iff];rintro⟨e,aW⟩;obtain⟨b,V⟩:=Option.isSome_iff_exists.1 aW
   grind
  rintro cJ bK t f u ⟨left,ae,a_,f14,Ab,cI,qM,PA,da,jK,KI,Py,afk⟩;have aJ:=qM.ch;rcases Ab.next Uv 0 with⟨al,qg⟩|⟨a,v,fw,dK,al,FR,qg,wO,BW,yk,Xn,BX⟩
  ·simp[go_sem,f14,qg];rw[bP];exact⟨ae,⟨jK,λo=>by rw[KI o];simp[al],Py⟩,da,by omega,qM⟩
  ·have kr:D ak w fw:=aJ.bJ yk λj F e=>by simp only[aj]at e;omega
   have aY:=(D.refl ak fw).alloc (.cells #[.int .u16 a.1.val,.int .u32 a.2.val] 187);have fV:=cl fw (.cells #[.int .u16 a.1.val,.int .u32 a.2.val] 187);obtain⟨q,aq⟩:=az (fw.1.size);have PB:=wO.ch aY id id;have pR:=λi=>aG fV i;have hL:fw.ownsRow 0 312 2 (f 5) ae.length (ae.flatMap sh):=ej qM.own yk λk r e=>by simp only[aj]at e;have:=PA k r;omega
   have jf:∀x∈ae,∃b,L.lf (num,x.1)=some b/\bD fw x.2.val b.length (bm b)/\fZ w.1.size x.2.val/\∃ag m c,x.2.val=.slice ag m c:=λx M=>by
    obtain⟨b,H,I,af,aU⟩:=Py x M;exact⟨b,H,I.ch yk λk r e=>by simp only[aj]at e;grind,af,aU⟩
   obtain⟨b,V⟩:∃b,L.lf a=some b:=by
    cases aD:L.lf a with
    |none=>grind
    |some b=>exact⟨b,rfl⟩
   obtain⟨W,aS,nk,hu⟩:=(bT a).2 b V;rw[aS]at FR
   cases FR
   have aIP:J<q:=by
    have:=wO.lt;omega
   rw[aq]at fV pR;obtain⟨Hu,aze,sF,_⟩:=id nk;obtain⟨cy,BY⟩:=a;subst sF;by_cases jZ:cy=num
   ·subst cy;have dR:=h.Uw _ _ V;have ew:=ED (.slice Hu b.length aze) b.length b ((fw.alloc (.cells #[.int .u16 num.val,.int .u32 BY.val] 187)).drew) (by omega) rfl (((nk.ch kr λ_ _ e=>e).ch aY λ_ _ e=>e).drew);simp[go_sem,f14,a_,qg,BX,tA,aq,pR];refine cD [A 0,A 1,A 2,A 3,(4,some [0,1,2]),A 5,(6,some [0]),(7,some []),A 8] ?_;simp[go_sem,aq,pR];refine ew.mono ?_;rintro v4 be ⟨mv,bv,cr⟩;have Bp:D ak fw be:=aY.trans (D.iy bv);have azf:be.cell? ⟨q,1,none⟩=some (.int .u32 BY.val):=(D.iy bv).cell (pR 1) id;obtain⟨xu,rh,Lh,MW⟩:∃ag m c,v4=.slice ag m c:=by
     rcases mv.2 with⟨e,_⟩|⟨l_,cap,di,e,_⟩
     ·exact⟨_,_,_,e⟩
     ·exact⟨_,_,_,e⟩
    subst MW;have rm:(fw.alloc (.cells #[.int .u16 num.val,.int .u32 BY.val] 187)).1.size=q+1:=by simp[aq]
    have aIQ:∀k,(Value.slice xu rh Lh).ownBlock=some k->q<k:=λk r=>by
     have:=cr k r;simp[aq]at this;omega
    have azg:be.ownsRow 0 312 2 (f 5) ae.length (ae.flatMap sh):=ej (ej hL Bp λ_ _ e=>e) (D.refl ak be) λ_ _ e=>e;simp[go_sem,azf];refine va (us:=[.int .u32 BY.val,.slice xu rh Lh]) ay_ azg rfl (by simp[Value.oneCell']) (by unfold maxLen;omega) (by omega) λv5 bw a' aX bq=> ?_;obtain⟨FT,oS⟩:∃FT:ta,FT=(BY,⟨.slice xu rh Lh,rfl⟩):=⟨_,rfl⟩;have lF:FT.1=BY:=by rw[oS]
    have nO:FT.2.val=.slice xu rh Lh:=by rw[oS]
    have BZ:bw.ownsRow 0 312 2 v5 (ae++[FT]).length ((ae++[FT]).flatMap sh):=by
     rw[List.flatMap_append,List.length_append,List.length_singleton,List.flatMap_singleton];unfold sh;rw[lF,nO];exact a'
    have pb:∀k,(f 5).ownBlock=some k->k<q:=λk r=>by
     have:=oJ hL k r;omega
    have aIR:BY∉ae.map (·.1):=λe=>by
     grind
    have mi:=oJ mv;have aIS:=Bp.size;have aw9:=aX.size;have PC:=((wO.ch Bp id id).ch aX (λe=>by have:=PA _ e;omega) (λe=>by have:=PA _ e;omega));have nN:∀x∈ae,∃b,L.lf (num,x.1)=some b/\bD bw x.2.val b.length (bm b)/\fZ w.1.size x.2.val/\∃ag m c,x.2.val=.slice ag m c:=λx M=>by
     obtain⟨b,H,I,af,aU⟩:=jf x M;exact⟨b,H,(I.ch Bp λ_ _ e=>e).ch aX λk r e=>da x M k r e,af,aU⟩
    have aIT:∀x∈ae,∀k,x.2.val.ownBlock=some k->J<k/\k<be.1.size:=λx M k r=>by
     grind
    have azh:∀k,v5.ownBlock=some k->J<k:=λk r=>by
     rcases bq with e|e
     ·grind
     ·have:=e k r;omega
    have azi:∀x∈ae++[FT],∀k,x.2.val.ownBlock=some k->v5.ownBlock≠some k:=λx M k r e=>by
     rcases List.mem_append.1 M with M|M
     ·rcases bq with dt|dt
      ·grind
      ·have:=dt k e
       grind
     ·simp at M;subst M;rw[nO]at r;rcases bq with dt|dt
      ·grind
      ·have:=dt k e
       grind
    have za:L.lf (num,BY)=some b/\bD bw (.slice xu rh Lh) b.length (bm b)/\fZ w.1.size (.slice xu rh Lh):=by
     refine⟨V,(bD.fp mv).ch aX λk r e=> ?_,λk r=> ?_⟩
     ·grind
     ·grind
    simp[go_sem];refine cH.intro dK BW (bK _ _ _ ⟨_,ae++[FT],by simp[a_],by simp[f14],PC,by simp;omega,⟨by simpa using BZ,(kr.trans Bp).bJ aX λj F e=>by have:=PA j e;omega,?_⟩,?_,?_,?_,λc=> ?_,λx M=> ?_,λx M k r=> ?_⟩)
    ·intro k r;simp at r
     grind
    ·intro k r;simp at r;exact azh k r
    ·intro x M k r;simpa using azi x M k r
    ·rw[List.map_append,List.nodup_append];refine⟨jK,by simp,?_⟩;intro y ar gN FU e;simp only[List.map_cons,List.map_nil,List.mem_singleton]at FU
     grind
    ·rw[List.map_append,List.mem_append,KI c];simp only[List.map_cons,List.map_nil,List.mem_singleton,lF];by_cases CF:c=BY
     ·grind
     ·have:¬((num,c):em×gP)=(num,BY):=λe=>CF (by cases e;rfl);simp[this,CF]
    ·rcases List.mem_append.1 M with M|M
     ·exact nN x M
     ·simp at M
      grind
    ·rcases List.mem_append.1 M with M|M
     ·grind
     ·simp at M
      grind
   ·have ajZ:¬(cy.val:Int)=num.val:=λe=>jZ (Fin.ext (by omega));have Li:((cy.val:Int)==(num.val:Int))=false:=beq_false_of_ne ajZ;simp[go_sem,f14,a_,qg,BX,tA,aq,pR,jZ,ajZ,Li];refine cH.intro dK BW (bK _ _ _ ⟨_,ae,by simp[a_],by simp[f14],PB,by omega,⟨by simpa using ej hL aY λ_ _ e=>e,kr.trans aY,by simpa using qM.up⟩,by simpa using PA,by simpa using da,jK,λc=> ?_,λx M=> ?_,λx M k r=> ?_⟩)
    ·grind
    ·obtain⟨b,H,I,af,aU⟩:=jf x M;exact⟨b,H,I.ch aY λ_ _ e=>e,af,aU⟩
    grind
 rw[bP];clear bP bg ap aF nc;rintro f u ⟨ae,bT,da,cI,aH⟩;have aJ:=aH.ch;obtain⟨out,Lj⟩:=az (f 5);rw[Lj]at da aH;have eT:=aH.own;have hR:∀x,(sh x).length=2:=λ_=>rfl;simp[go_sem,Lj];by_cases bf:0<ae.length
 ·obtain⟨g,cap,di,aS,dk,xR,azj⟩:∃g cap di,out=.slice (some ⟨g,0,none⟩) ae.length cap/\u.1[g]? =some (.cells di 312 (0,0))/\ae.length<=cap/\cap<=maxLen:=by
   rcases eT.2 with⟨_,e⟩|⟨g,cap,di,aS,_,V,H,I,_⟩
   ·omega
   grind
  subst aS;have aN:=azk (by decide) hR ae.toArray eT (by simp) (by simp);have qc:=lt_of_block dk;have aw:=ay' u g cap ae.toArray aN qc (by simp;omega);simp only[List.size_toArray]at aw;refine aw.mono ?_;rintro _ aC ⟨c_,dZ,cf,azl,sG⟩;simp[go_sem,Lj];have cL:c_.size=ae.length:=by rw[dZ.1];simp
  have Ac:c_.toList.Perm ae:=by
   have:=dZ.2.2;have aK:(c_.extract 0 ae.length).toList=c_.toList:=by rw[<-cL];simp
   have aW:(ae.toArray.extract 0 ae.length).toList=ae:=by simp
   rw[aK,aW]at this;exact this
  have mh:Hh L num w aC ae:=⟨bT.bZ,bT.nA,λx M=>by
   obtain⟨b,H,I,af,aU⟩:=bT.val x M;refine⟨b,H,I.ch sG λk r e=> ?_,af,aU⟩;have:=da x M k r;simp only[aj]at e;subst e;exact this rfl⟩
  have UA:w.1.size<=g:=aH.up g rfl;have B_:=azm (cap:=cap) (n:=ae.length) (by decide) hR (Nat.lt_of_lt_of_le qc sG.size) azl cL.symm xR azj;refine Z _ _ ⟨c_.toList,mh.perm Ac,?_,B_,aJ.bJ sG λj F e=>by simp only[aj]at e;omega,aH.up⟩;have jK:(c_.toList.map (·.1)).Nodup:=(mh.perm Ac).bZ;rw[List.pairwise_iff_getElem];intro i j aa F hF;have Hw:i<c_.size:=by simpa using aa
  have jt:j<c_.size:=by simpa using F
  have H:=cf i j (Nat.zero_le _) hF (by omega);have aK:c_[i]! =c_.toList[i]:=by simp[Hw]
  have aW:c_[j]! =c_.toList[j]:=by simp[jt]
  rw[aK,aW,Uz,decide_eq_false_iff_not]at H;have aj0:(c_.toList[i]).1≠(c_.toList[j]).1:=by
   have:=List.pairwise_iff_getElem.1 jK i j (by simpa using aa) (by simpa using F) hF;simpa using this
  grind
 ·obtain rfl:ae=[]:=List.eq_nil_of_length_eq_zero (by omega);obtain⟨ag,cap,aS,xR⟩:∃ag cap,out=.slice ag 0 cap/\cap<=maxLen:=by
   rcases eT.2 with⟨aS,_⟩|⟨g,cap,di,aS,_,V,H,I,_⟩
   ·grind
   ·exact⟨_,_,aS,I⟩
  subst aS;refine(azd u ag cap _).mono ?_;intro _ aC sG;simp[go_sem,Lj];refine Z _ _ ⟨[],⟨bT.bZ,bT.nA,λx M=>by simp at M⟩,List.Pairwise.nil,⟨ag,cap,rfl,Nat.zero_le _,xR,λh=>by simp at h⟩,aJ.trans sG,aH.up⟩
end
end Go.Proofs.YtoohkhcpboldjaaGreatDoor
