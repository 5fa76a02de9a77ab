/- A rig in memory as a source. Conditions: the variables that are listed hold what the text lays; sizes. -/
import Derived.Test.YtoohkhcpboldjaaGreatDoorMcT
set_option maxRecDepth 100000
set_option linter.unusedSimpArgs false
set_option linter.unusedVariables false
namespace Go.Proofs.YtoohkhcpboldjaaGreatDoor
open Go.RowKit Go.Kin Tryz
structure gR where
 d:Nat
 num:dp
 off:gn
 i:bF
 n:Nat
 c:UInt8
def ln(a:gR):List N:=.int .u8 a.d::.int .u16 a.num.val::.int .u32 a.off.val::((aZ a.i).toList++[.int .u16 a.n,.int .u8 a.c.toNat])
structure gR.fL(a:gR):Prop where
 d:a.d<256
 n:a.n<65536
 i:fu a.i
section
variable {a:gR}
theorem Qv(ok:a.fL):(ln a).length=49:=by
 have h:(aZ a.i).toList.length=44:=by rw[wi];exact hA ok.i
 simp[ln]at*;omega
theorem ahK(ok:a.fL):(ln a).toArray.size=49:=Qv ok
theorem aIc:(ln a).toArray[0]? =some (.int .u8 a.d):=by simp[ln]
theorem aId:(ln a).toArray[1]? =some (.int .u16 a.num.val):=by simp[ln]
theorem aIe:(ln a).toArray[2]? =some (.int .u32 a.off.val):=by simp[ln]
theorem aIf(ok:a.fL):(ln a).toArray[47]? =some (.int .u16 a.n):=by
 have h:(aZ a.i).toList.length=44:=by rw[wi];exact hA ok.i
 rw[yL];show((aZ a.i).toList++[.int .u16 a.n,.int .u8 a.c.toNat])[44]? =_
 grind
theorem aIg(ok:a.fL):(ln a).toArray[48]? =some (.int .u8 a.c.toNat):=by
 have h:(aZ a.i).toList.length=44:=by rw[wi];exact hA ok.i
 rw[yL];show((aZ a.i).toList++[.int .u16 a.n,.int .u8 a.c.toNat])[45]? =_
 grind
theorem aIh(ok:a.fL):(ln a).toArray.extract 3 47=aZ a.i:=by
 have h:(aZ a.i).toList.length=44:=by rw[wi];exact hA ok.i
 apply ip;rw[Lz,Ea];show((aZ a.i).toList++[Value.int .u16 a.n,Value.int .u8 a.c.toNat]).take 44=_
 grind
theorem agM(ok:a.fL):(ln a).toArray.extract 0 49=(ln a).toArray:=by rw[<-ahK ok];simp
end
structure co where
 x:Nat->bF
 l:Nat->Nat->Int
def sM(x:bF):bF:={x with V:=ah}
def uN(c:UInt8):cW:=List.replicate 512 c
def Fw(z:Int):Option cW:=if z<0 then none else some (uN (UInt8.ofNat z.toNat))
def co.dv:co:=⟨λ_=>bp,λ_ _=> -1⟩
def qi(a:gR):gR:=if a.i.k=0 then a else{a with i:={a.i with k:=1}}
def BC(a:gR):cW:=if a.n=0 then[]else uN a.c
def vR(a:gR):Int:=if a.n=0 then -1 else a.c.toNat
def tV(D:cV)(a:gR):cV:=if a.d=0 then D.w_ a.num a.i else if a.d=1 then D.kq a.num a.off (BC a)else D.rm a.num
def co.sK(aw:co)(k:Nat)(x:bF):co:={aw with x:=λj=>if j=k then x else aw.x j}
def co.kq(aw:co)(k o:Nat)(z:Int):co:={aw with l:=λj i=>if j=k/\i=o then z else aw.l j i}
def co.rm(aw:co)(k:Nat):co:={aw with l:=λj i=>if j=k/\i<64 then -1 else aw.l j i}
def mL(aw:co)(a:gR):co:=
 if a.d=0 then(if hY a.num 0&&fc a.i then aw.sK a.num.val (sM a.i)else aw)else
 if a.d=1 then(if hY a.num a.off then aw.kq a.num.val a.off.val (vR a)else aw)else
 if hY a.num 0 then aw.rm a.num.val else aw
def co.uO(aw:co):co:={aw with l:=λj i=>if j<256/\i<64/\aw.x j=bp then -1 else aw.l j i}
def mU(D:cV)(l:List gR):cV:=l.foldl tV D
def vo(aw:co)(l:List gR):co:=(l.foldl mL aw).uO
structure co.fL(aw:co):Prop where
 ok:∀k,fu (aw.x k)
 V:∀k,(aw.x k).V=ah
 kd:∀k,(aw.x k).k<=1
 sP:∀k o, -1<=aw.l k o
 ad:∀k o,aw.l k o<256
structure vl(aw:co)(v:List bF)(lf:Nat->Nat->Option cW):Prop where
 ok:aw.fL
 x:∀k,1<=k->k<=255->aw.x k=sM (v.getD k bp)
 l:∀k,1<=k->k<=255->∀o,o<64->lf k o=Fw (aw.l k o)
theorem aq7{x:bF}(aC:fc x=true)(h:sM x=bp):x=bp:=by
 refine yE λhz=> ?_;have r:=Ni aC hz;have:(sM x).k=0:=by rw[h];rfl
 have:x.k=0:=this;omega
structure sh(v:List bF)(xg:co)(D:cV)(aw:co):Prop where
 ok:D.fL
 KC:∀a x,D.aZ a=some x->fu x/\fc x=true/\x.k<=1
 qS:∀a o b,D.lf (a,o)=some b->b=[]\/b.length=512
 nH:aw.fL
 x:∀a:dp,1<=a.val->a.val<=255->aw.x a.val=sM ((D.aZ a).getD (v.getD a.val bp))
 l:∀a:dp,1<=a.val->a.val<=255->∀o:gn,o.val<64->match D.lf (a,o)with
  |some b=>(b=[]/\aw.l a.val o.val= -1)\/(b≠[]/\0<=aw.l a.val o.val/\b=uN (UInt8.ofNat (aw.l a.val o.val).toNat))
  |none=>aw.l a.val o.val=if D.wiped a=true then -1 else xg.l a.val o.val
section
variable {v:List bF}{xg aw:co}{D:cV}{a:gR}{lf:Nat->Nat->Option cW}
theorem Kp{n:dp}{o:gn}(h:hY n o=true):1<=n.val/\n.val<=255/\o.val<64:=by
 simp only[hY,ot,qf]at h;exact⟨h.1.1,h.1.2,h.2⟩
theorem sh.dv(h:vl aw v lf):sh v aw cV.dv aw:=
 ⟨cV.fL.dv,λ_ _ h=>(by cases h),λ_ _ _ h=>(by cases h),h.ok,λa J T=>by rw[h.x a.val J T];rfl,λa J T o av=>by rfl⟩
theorem aIi(c:UInt8):uN c≠[]:=λe=>by
 have:=yN List.length e;rw[uN,yC]at this
 cases this
theorem aIj(a:gR):(BC a).length=0\/(BC a).length=512:=by
 unfold BC uN
 grind
theorem sh.step(h:sh v xg D aw)(FJ:a.fL)(r:a.i.k<=1):sh v xg (tV D a) (mL aw a):=by
 unfold tV mL;by_cases bi:a.d=0
 ·rw[be bi,be bi];unfold cV.w_;by_cases Z:(hY a.num 0&&fc a.i)=true
  ·rw[be Z,be Z];simp only[ot]at Z;have ax:=Kp Z.1;refine⟨⟨λb x W=> ?_,h.ok.lf,h.ok.wiped⟩,λb x W=> ?_,h.qS,⟨λk=> ?_,λk=> ?_,λk=> ?_,h.nH.sP,h.nH.ad⟩,λb J T=> ?_,h.l⟩
   ·simp only at W;by_cases ab:b=a.num
    ·rw[ab];exact Z.1
    ·rw[aQ ab]at W;exact h.ok.aZ b x W
   ·simp only at W;by_cases ab:b=a.num
    ·rw[be ab]at W
     cases W
     exact⟨FJ.i,Z.2,r⟩
    ·rw[aQ ab]at W;exact h.KC b x W
   ·unfold co.sK;simp only;split
    ·exact⟨FJ.i.k,FJ.i.n,FJ.i.s,cH⟩
    ·exact h.nH.ok k
   ·unfold co.sK;simp only;split
    ·rfl
    ·exact h.nH.V k
   ·unfold co.sK;simp only;split
    ·exact r
    ·exact h.nH.kd k
   ·unfold co.sK;simp only;by_cases ab:b=a.num
    ·grind
    ·rw[aQ (λe=>ab (Gg e)),aQ ab];exact h.x b J T
  grind
 ·rw[aQ bi,aQ bi];by_cases J:a.d=1
  ·rw[be J,be J];unfold cV.kq;have ak:=aIj a;have aIk:(decide ((BC a).length=0)||decide ((BC a).length=512))=true:=by simp only[Sk,qf];exact ak
   rw[aIk,Bool.and_true];by_cases Z:hY a.num a.off=true
   ·rw[be Z,be Z];have ax:=Kp Z;have eY:=a.c.toNat_lt;have aq: -1<=vR a/\vR a<256:=by unfold vR;split<;>omega
    refine⟨⟨h.ok.aZ,λb o x W=> ?_,h.ok.wiped⟩,h.KC,λb o x W=> ?_,⟨h.nH.ok,h.nH.V,h.nH.kd,λk o=> ?_,λk o=> ?_⟩,h.x,λb bt cY o av=> ?_⟩
    ·simp only at W;by_cases ab:(b,o)=(a.num,a.off)
     ·cases ab;exact Z
     ·rw[aQ ab]at W;exact h.ok.lf b o x W
    ·simp only at W;by_cases ab:(b,o)=(a.num,a.off)
     ·grind
     ·rw[aQ ab]at W;exact h.qS b o x W
    ·unfold co.kq;simp only;split
     ·exact aq.1
     ·exact h.nH.sP k o
    ·unfold co.kq;simp only;split
     ·exact aq.2
     ·exact h.nH.ad k o
    ·unfold co.kq;simp only;by_cases ab:(b,o)=(a.num,a.off)
     ·cases ab
      rw[be rfl,be ⟨rfl,rfl⟩];simp only;unfold BC vR;by_cases hz:a.n=0
      ·grind
      ·rw[aQ hz,aQ hz];refine .inr ⟨aIi _,by omega,?_⟩
       simp_all
     ·rw[aQ ab,aQ (λe=>ab (Prod.ext (Gg e.1) (Gg e.2)))];exact h.l b bt cY o av
   grind
  ·rw[aQ J,aQ J];unfold cV.rm;by_cases Z:hY a.num 0=true
   ·rw[be Z,be Z];refine⟨⟨h.ok.aZ,λb o x W=> ?_,λb ab=> ?_⟩,h.KC,λb o x W=> ?_,⟨h.nH.ok,h.nH.V,h.nH.kd,λk o=> ?_,λk o=> ?_⟩,h.x,λb bt cY o av=> ?_⟩
    ·simp only at W;split at W
     ·cases W
     ·exact h.ok.lf b o x W
    ·simp only at ab;by_cases wF:b=a.num
     ·rw[wF];exact Z
     ·rw[aQ wF]at ab;exact h.ok.wiped b ab
    ·simp only at W;split at W
     ·cases W
     ·exact h.qS b o x W
    ·unfold co.rm;simp only;split
     ·omega
     ·exact h.nH.sP k o
    ·unfold co.rm;simp only;split
     ·omega
     ·exact h.nH.ad k o
    ·unfold co.rm;by_cases ab:b=a.num
     ·grind
     ·have aM:¬b.val=a.num.val:=λe=>ab (Gg e);have:=h.l b bt cY o av;simpa[ab,aM]using this
   grind
theorem sh.adF:∀(l:List gR) {D:cV} {aw:co},sh v xg D aw->(∀a∈l,a.fL/\a.i.k<=1)->sh v xg (mU D l) (l.foldl mL aw)
 |[],_,_,h,_=>h
 |a::l,_,_,h,ak=>sh.adF l (h.step (ak a (by simp)).1 (ak a (by simp)).2) λb ab=>ak b (by simp[ab])
theorem sh.uO(h:aw.fL):aw.uO.fL:=⟨h.ok,h.V,h.kd,λk o=>by
 unfold co.uO;simp only;split
 ·omega
 ·exact h.sP k o,λk o=>by
 unfold co.uO;simp only;split
 ·omega
 ·exact h.ad k o⟩
theorem alF(FJ:a.fL):(qi a).fL/\(qi a).i.k<=1:=by
 unfold qi;by_cases h:a.i.k=0
 ·grind
 ·rw[aQ h];exact⟨⟨FJ.d,FJ.n,⟨by show 1<256;decide,FJ.i.n,FJ.i.s,FJ.i.V⟩⟩,by show 1<=1;decide⟩
end
section
variable {v v':List bF}{xg aw:co}{D:cV}{lf:Nat->Nat->Option cW}{xs:List dp}
theorem aa1{k:Nat}(h:k<=255):(Fin.ofNat 65536 k:dp).val=k:=by show k%65536=k;omega
theorem aIl{o:Nat}(h:o<64):(Fin.ofNat 4294967296 o:gn).val=o:=by grind
theorem ahL{a:dp}(h:¬D.any a):D.aZ a=none/\D.wiped a=false/\∀o,D.lf (a,o)=none:=by
 unfold cV.any at h
 simp_all
theorem aIm(ok:D.fL){a:dp}(h:D.any a):1<=a.val/\a.val<=255:=by
 have bi:hY a 0=true:=by
  rcases h with h|h|⟨o,h⟩
  ·exact ok.wiped a h
  ·obtain⟨x,W⟩:=IG.1 h;exact ok.aZ a x W
  ·obtain⟨b,ab⟩:=IG.1 h;exact arX (ok.lf a o b ab)
 have:=Kp bi;exact⟨this.1,this.2.1⟩
theorem ahM(W:ya D xs){k:Nat}(h:k<=255):k∈xs.map (·.val)↔D.any (Fin.ofNat 65536 k):=by
 rw[<-W.2,lF];constructor
 ·rintro⟨a,ao,e⟩;have:Fin.ofNat 65536 k=a:=Gg (by rw[aa1 h,e]);rw[this];exact ao
 grind
theorem sh.fz(h:sh v xg D aw)(bi:vl xg v lf)(aM:∀k,fu (v.getD k bp)/\fc (v.getD k bp)=true)(ak:v.length=256)(W:ya D xs):aam (fk D) v (xs.map (·.val)):=by
 have aSz:∀k,1<=k->k<=255->(v.getD k bp).k<=1:=λk J T=>by
  have:=bi.ok.kd k;rw[bi.x k J T]at this;exact this
 refine⟨⟨λk x r=>⟨(h.KC _ x r).1,(h.KC _ x r).2.1⟩,λk c Z=> ?_,λk=>ZH D _⟩,λk bM hz ax=> ?_,?_,λk r=> ?_,λk J T r=> ?_⟩
 ·have Z:=Uf.1 Z;exact⟨Z.1,h.qS _ _ _ Z.2⟩
 ·
  have aq:(fk D).i' v k=(D.aZ (Fin.ofNat _ k)).getD (v.getD k bp):=rfl;have aIn:v.getD k bp≠bp:=λe=>ax (by rw[e];rfl)
  cases ad:D.aZ (Fin.ofNat _ k)with
  |none=>rw[aq,ad];rfl
  |some x=>
   rw[aq,ad]at hz⊢;have hz:x≠bp:=hz;obtain⟨nL,hr,lm⟩:=h.KC _ x ad;have gA:=Kp (h.ok.aZ _ x ad);by_cases r:k<=255
   ·have Mt:=aa1 r;rw[Mt]at gA;have lr:=Ni hr hz;have qh:=Ni (aM k).2 aIn
    grind
   grind
 ·exact Sl.2 (W.1.imp λe=>e)
 ·obtain⟨a,ao,e⟩:=lF.1 r;rw[<-e];exact aIm h.ok ((W.2 a).1 ao)
 ·have aq:¬D.any (Fin.ofNat 65536 k):=λe=>r ((ahM W T).2 e);obtain⟨iW,kh,jP⟩:=ahL aq;refine⟨iW,kh,?_⟩;show qu D _=[];unfold qu
  simp_all
theorem aIo(aw:co){k o:Nat}(r:k<=255)(av:o<64):aw.uO.l k o=if aw.x k=bp then -1 else aw.l k o:=by
 unfold co.uO
 grind
theorem aIp{z:Int}(h:0<=z):Fw z=some (uN (UInt8.ofNat z.toNat)):=by unfold Fw;rw[aQ (by omega)]
theorem aIq(D:cV)(num:dp){o:Nat}(av:o<64):Ns (qu D num) o=D.lf (num,Fin.ofNat _ o):=by
 cases h:D.lf (num,Fin.ofNat _ o)with
 |some b=>exact(aa2 (ZH D num)).1 (Uf.2 ⟨av,h⟩)
 |none=>
  cases Z:Ns (qu D num) o with
  |none=>rfl
  |some b=>
   have:=Uf.1 ((aa2 (ZH D num)).2 Z)
   grind
theorem sh.done(h:sh v xg D aw)(bi:vl xg v lf)(aM:∀k,fu (v.getD k bp)/\fc (v.getD k bp)=true)(hz:∀k,1<=k->k<=255->v.getD k bp=bp->∀o,o<64->lf k o=none)(W:ya D xs)
  (out:∀k,1<=k->k<=255->k∉xs.map (·.val)->v'.getD k bp=v.getD k bp)(Kj:∀k∈xs.map (·.val),v'.getD k bp=(if(fk D).i' v k=bp then bp else{(fk D).i' v k with V:=(v'.getD k bp).V})):
  vl aw.uO v' (UM (fk D) v lf (xs.map (·.val))):=by
 have aIr:∀k,fc ((fk D).i' v k)=true:=λk=>by
  have aq:(fk D).i' v k=(D.aZ (Fin.ofNat _ k)).getD (v.getD k bp):=rfl;rw[aq]
  cases ad:D.aZ (Fin.ofNat _ k)with
  |none=>exact(aM k).2
  |some x=>exact(h.KC _ x ad).2.1
 have arY:∀k,1<=k->k<=255->aw.x k=sM ((fk D).i' v k):=λk J T=>by
  have Mt:=aa1 T;have:=h.x (Fin.ofNat _ k) (by omega) (by omega);rw[Mt]at this;exact this
 refine⟨sh.uO h.nH,λk J T=> ?_,λk J T o av=> ?_⟩
 ·show aw.x k=_;rw[arY k J T];by_cases r:k∈xs.map (·.val)
  ·rw[Kj k r];by_cases aq:(fk D).i' v k=bp
   ·rw[be aq,aq]
   ·rw[aQ aq];rfl
  ·rw[out k J T r];have aq:¬D.any (Fin.ofNat 65536 k):=λe=>r ((ahM W T).2 e);have:(fk D).i' v k=v.getD k bp:=by show(D.aZ (Fin.ofNat _ k)).getD (v.getD k bp)=_;rw[(ahL aq).1];rfl
   rw[this]
 ·rw[aIo aw T av];have Mt:=aa1 T;have Mb:=aIl av;have ak:=h.l (Fin.ofNat _ k) (by omega) (by omega) (Fin.ofNat _ o) (by omega);rw[Mt,Mb]at ak;have nR:aw.x k=bp↔(fk D).i' v k=bp:=by
   rw[arY k J T];exact⟨λe=>aq7 (aIr k) e,λe=>by rw[e];rfl⟩
  unfold UM;by_cases r:k∈xs.map (·.val)
  ·rw[be r];unfold nW.lf QW;by_cases aq:(fk D).i' v k=bp
   ·rw[be (nR.2 aq),ou aq,be rfl];rfl
   ·rw[aQ λe=>aq (nR.1 e),vi aq];simp only[wk,if_false];have zk:Ns ((fk D).ch k) o=D.lf (Fin.ofNat _ k,Fin.ofNat _ o):=aIq D _ av;rw[zk]
    cases bm:D.lf (Fin.ofNat _ k,Fin.ofNat _ o)with
    |some b=>
     rw[bm]at ak;simp only at ak⊢;rcases ak with⟨aL,aR⟩|⟨aL,aR,dB⟩
     ·rw[be aL,aR];rfl
     ·rw[aQ aL,aIp aR,<-dB]
    |none=>
     rw[bm]at ak;simp only at ak⊢;rw[ak];show(if D.wiped (Fin.ofNat _ k)=true then none else lf k o)=_;by_cases bM:D.wiped (Fin.ofNat _ k)=true
     ·rw[be bM,be bM];rfl
     ·rw[aQ bM,aQ bM];exact bi.l k J T o av
  ·rw[aQ r];have aq:¬D.any (Fin.ofNat 65536 k):=λe=>r ((ahM W T).2 e);obtain⟨iW,kh,jP⟩:=ahL aq;rw[jP]at ak;simp only[kh,wk,if_false]at ak;rw[ak];have:(fk D).i' v k=v.getD k bp:=by show(D.aZ (Fin.ofNat _ k)).getD (v.getD k bp)=_;rw[iW];rfl
   rw[this]at nR;by_cases zy:v.getD k bp=bp
   ·rw[be (nR.2 zy),hz k J T zy o av];rfl
   ·rw[aQ λe=>zy (nR.1 e)];exact bi.l k J T o av
theorem sh.none(h:sh v xg D aw)(bi:vl xg v lf)(aM:∀k,fu (v.getD k bp)/\fc (v.getD k bp)=true)(hz:∀k,1<=k->k<=255->v.getD k bp=bp->∀o,o<64->lf k o=none)(W:ya D []):vl aw.uO v lf:=by
 have:=h.done (xs:=[]) (v':=v) bi aM hz W (λk _ _ _=>rfl) (λk r=>by cases r);exact⟨this.ok,this.x,λk J T o av=>by rw[<-this.l k J T o av];rfl⟩
end
section
variable {aF:Type}{rd:Src aF}{s:aF}{has:Pt->List UInt8->Prop}{bO p table:Pt}{top h n dQ aN:List Pt}{v:List bF}{O:nj}{lf:Nat->Nat->Option (List UInt8)}
theorem ro.xT(ax:∀p b,has p b->rd s p=(s,b,0))(V:ro has p n):cM rd s p=(s,n,0):=by
 unfold cM;rcases V.dI with⟨rfl,rfl⟩|⟨J,T,ag,_⟩
 ·rw[be rfl]
 ·rw[aQ J,ax p _ ag];simp only[ne_eq,not_true_eq_false,if_false];rw[al9 V.fx V.all];simp
theorem jD.xT(ax:∀p b,has p b->rd s p=(s,b,0))(t:jD has bO top h){off:Nat}(av:off<64):dz rd s bO off=(s,h.getD off ah,0):=by
 unfold dz;rw[t.HL,ou av];simp only[Sf,if_true];unfold qF;rw[t.jC.xT ax];simp only[ne_eq,not_true_eq_false,if_false,if_true];unfold qF;rw[(t.cN (off / 8) (by omega)).xT ax];simp only[ne_eq,not_true_eq_false,if_false];unfold qF;rw[aQ (by omega),Nt (by omega),show 8*(off / 8)+off%8=off by omega]
theorem vV.xT(ax:∀p b,has p b->rd s p=(s,b,0)){L:List bF}(V:vV has p L):hC rd s p=(s,L,0):=by
 unfold hC;rcases V.dI with⟨rfl,rfl⟩|⟨J,T,ag,_⟩
 ·rw[be rfl]
 ·rw[aQ J,ax p _ ag];simp only[ne_eq,not_true_eq_false,if_false];rw[amc V.ok V.all];simp
theorem ob.xT(ax:∀p b,has p b->rd s p=(s,b,0))(t:ob has bO top h v){k:Nat}(J:1<=k)(T:k<=255):kI rd s bO k=(s,v.getD k bp,0):=by
 unfold kI;rw[aQ (λe=>e ⟨J,T⟩),t.oO.xT ax (by omega)];simp only[ne_eq,not_true_eq_false,if_false];rw[(t.lf (k / 4) (by omega)).xT ax];simp only;rw[QF (by omega),show 4*(k / 4)+k%4=k by omega]
theorem qw.ag6(ax:∀p b,has p b->rd s p=(s,b,0)){st:et}(c:qw has st.dd dQ aN v O lf){k:Nat}(J:1<=k)(T:k<=255):qB rd s st k=(s,v.getD k bp,0):=c.kp.xT ax J T
theorem qw.aIs(ax:∀p b,has p b->rd s p=(s,b,0)){st:et}(c:qw has st.dd dQ aN v O lf){k off:Nat}(J:1<=k)(T:k<=255)(av:off<64):jO rd s st k off=(s,(O.tQ k).getD off ah,0):=by
 unfold jO;simp only;rw[c.ag6 ax J T];simp only[ne_eq,not_true_eq_false,if_false];have ji:=c.ji k J T;have W:=c.x k J T;rw[<-W];exact ji.rU.xT ax av
theorem qw.aFt(ax:∀p b,has p b->rd s p=(s,b,0)){st:et}(c:qw has st.dd dQ aN v O lf){k off:Nat}(J:1<=k)(T:k<=255)(av:off<64):Ab rd s st k off=(s,(lf k off).getD [],0)/\Dn rd s st k off=(s,(lf k off).isSome,0):=by
 unfold Ab Dn;simp only;rw[c.aIs ax J T av];simp only[ne_eq,not_true_eq_false,false_or];rcases(c.ji k J T).iw off av with⟨aL,aR⟩|⟨aL,_,b,aR,dB⟩
 ·grind
 grind
end
def lZ(n:Nat):Src kY:=λx p=>({x with s:=(x.s.nS n p false).1},(x.s.nS n p false).2.1,(x.s.nS n p false).2.2)
section
variable {n:Nat}{bY:Nat->Bool}{x:kY}{st:et}{v:List bF}{lf:Nat->Nat->Option (List UInt8)}{c:jt}{dQ aN:List Pt}{O:nj}
theorem jV.aqG(h:jV n bY x st v lf c dQ aN O)(kP:c.js=false)(bm:¬(bY 0=true/\bY 1=true)):tO x.s:=by
 refine⟨by rw[h.ok.bU.on kP];rfl,λe=>bm ⟨?_,?_⟩⟩
 ·rw[<-h.bY,<-h.ok.bU.bY 0 (by omega)];exact e.1
 ·rw[<-h.bY,<-h.ok.bU.bY 1 (by omega)];exact e.2
theorem jV.xT(h:jV n bY x st v lf c dQ aN O)(ao:tO x.s):∀p b,(p∈c.eg/\nh x.s p b)->lZ n x p=(x,b,0):=by
 rintro p b ⟨am,ab⟩;obtain⟨ok,⟨a,jv,e,W,G'⟩,aC⟩:=h.ok.bU.Bz p (hP.2 (.inl am));have rO:a∈pa p:=by rw[MU e W];split<;>simp
 have sr:=(h.ok.bU.Di a (HG.2 ⟨p,hP.2 (.inl am),rO⟩)).2;rw[h.n]at sr;have:=ago (n:=n) aC e W h.ok.bU.By ao.1 ao.2 sr ab.1 λi ad bm=>ab.2 ao i ad bm a rO;unfold lZ
 simp_all
theorem jV.open(h:jV n bY x st v lf c dQ aN O)(ao:tO x.s):yg (lZ n) x x.ea=(x,st,0):=by
 unfold yg;rcases h.top with⟨aL,aR,_⟩|⟨J,T,ag,aP,bH,cS⟩
 ·rw[be aR,aL]
 ·have dn:x.ea≠qP:=λe=>by rw[e]at cS;have:(0:Nat)=st.gen:=cS;omega
  have aC:=(h.ok.bU.Bz st.top (hP.2 (.inl ag))).2.2;rw[aQ dn,<-bH,aQ (by rw[aC];simp)];simp only;rw[h.xT ao _ _ ⟨ag,aP⟩];simp only[ne_eq,not_true_eq_false,if_false];have Vx:Bw (st.gen,st.dd):=⟨h.tm.gen,h.tm.dd⟩;have bj:=aIt Vx;have aH:Nu st.dd=true:=by
   unfold Nu;rcases h.tR.kp.oO.jC.dI with⟨e,_⟩|⟨_,_,k,_⟩
   ·rw[e];decide
   ·rw[(h.ok.bU.Bz st.dd (hP.2 (.inl k.1))).2.2];simp
  rw[aH]at bj;rw[bj];simp[cS]
end
def sQ(ep:M)(eB:Nat->Prop)(m p n cg:Nat)(z:fV)(x:kY):jf:=λw O=>∃gK,km m p n cg z x w gK/\(∀j,gK j->O j/\¬eB j)/\(∀j,eB j->O j/\w.1[j]? =ep.1[j]?)/\∀j,O j->j<w.1.size
abbrev up(m:Nat):N:=.iface 36 (az m)
theorem arZ(m:Nat)(x:N)(w:M):(callMethod (up m) "Read" #[x]).run prog w=.ok (.enter 99 #[az m,x]) w:=by kernel_rfl
section
variable {m p n cg v:Nat}{z:fV}{x:kY}{ep w w':M}{eB O:Nat->Prop}{cL:eb->Nat}{st:et}
theorem sQ.ok(ep:M)(eB:Nat->Prop)(m p n cg:Nat)(z:fV)(x:kY):kB (sQ ep eB m p n cg z x):=by
 refine⟨?_,?_,?_⟩
 ·rintro w O ⟨gK,J,T,ag,aP⟩;exact aP
 ·rintro w w' O S ⟨gK,J,T,ag,aP⟩ Z cl;refine⟨gK,(km.ok m p n cg z x).ch J Z λj I=>cl j (T j I).1,T,λj I=>⟨(ag j I).1,?_⟩,λj I=>gQ (aP j I) Z.size⟩;obtain⟨o,av⟩:∃o,w.1[j]? =some o:=⟨_,yP (aP j (ag j I).1)⟩;rw[Z.obj av (cl j (ag j I).1),<-(ag j I).2,av]
 ·rintro w O O' ⟨gK,J,T,ag,aP⟩ h h';exact⟨gK,J,λj I=>⟨h j (T j I).1,(T j I).2⟩,λj I=>⟨h j (ag j I).1,(ag j I).2⟩,h'⟩
theorem sQ.cv(h:sQ ep eB m p n cg z x w O)(e:sw ep eB):hI w/\jz w/\qO w:=by
 obtain⟨gK,J,T,ag,aP⟩:=h;have aA:∀j,iK j->w.1[j]? =ep.1[j]? :=λj I=>(ag j (e.d' j I)).2;refine⟨⟨λi x W=> ?_,?_⟩,λi ad=> ?_,λi x W=> ?_⟩
 ·rw[PI (aA _ (.inl (.inl rfl)))];exact e.cv.qQ i x W
 ·obtain⟨cs,bv,fr,es,cX,iq⟩:=e.cv.nO;exact⟨cs,bv,fr,(aA _ (.inl (.inr rfl))).trans es,cX,iq⟩
 ·rw[PI (aA _ (.inr (.inl rfl)))];exact e.fT i ad
 ·rw[PI (aA _ (.inr (.inr rfl)))];exact e.gB i x W
theorem sQ.d'(e:sw ep eB):iO (sQ ep eB m p n cg z) O:=.inr λ_ _ _ h=>(h.cv e).1
def za(cL:eb->Nat)(x:kY):Nat:=gX cL ⟨x.s,[],[]⟩
theorem aa3(dC:kG cL)(e:sw ep eB):pL (sQ ep eB m p n cg z) (za cL) (lZ n) (up m):=by
 refine⟨λx q=>anx dC n ⟨x.s,[],[]⟩ q,λx w O q K aC h ok cv aH fW=> ?_⟩;obtain⟨lv,b_,_⟩:=h.cv e;obtain⟨gK,⟨a_,A,bn,bh,bA,ex,fJ,jZ⟩,T,ag,aP⟩:=h;obtain⟨aW,bg,bR⟩:=PG dC aC;rw[TD (arZ m _ _)];have fp:kF w m p n z x.s (gU z m p a_ A):=⟨a_,A,bn,λ_ e=>e,bn.ih⟩;refine(aeT fp q ok lv.qQ b_ aW (by omega) λy=>(T _ (ex _ y)).2 (e.d' _ (.inr (.inl rfl)))).mono ?_;rintro _ w' ⟨u,rfl,aN⟩;obtain⟨O',⟨jr,gM,fh,fv,iY⟩,oz,rB⟩:=aN.dI;have fd:=aN.ch.size;have W:∀j,gU z m p jr gM j->gU z m p a_ A j\/(w.1.size<=j/\j<w'.1.size):=λj I=>oz j (fv j I);have eY:=jZ cg fJ;refine fW u w' aN.dR (dK (aeR n x.s q false) (by decide)) ⟨aE gK w w',⟨jr,gM,fh,aN.ch.obj bh bA,λy=> ?_,λj I=>(W j I).imp (ex j) id,.inl fJ,aE.lt jZ fd⟩,λj I=> ?_,λj I=>⟨.inl (ag j I).1,?_⟩,aE.lt aP fd⟩ (aN.ch.mono λj _ y=>(T j (ex j y)).1)
 ·grind
 ·rcases I with I|I
  ·exact⟨.inl (T j I).1,(T j I).2⟩
  ·exact⟨.inr I,λab=>by grind⟩
 ·obtain⟨o,av⟩:∃o,w.1[j]? =some o:=⟨_,yP (aP j (ag j I).1)⟩;rw[aN.ch.obj av λy=>(T j (ex j y)).2 I,<-(ag j I).2,av]
theorem ahN{f:FuncId}{args:Array N}{R:N->M->Prop}{hd:kY}(cv:hI w)(fT:jz w)(gB:qO w)(h:km m p n cg z x w O)(jj:∀j,iK j->¬O j)
  (Z:∀{O':Nat->Prop},sw w iK->sQ w iK m p n cg z x w O'->(∀j,O' j->O j\/iK j)->bc prog f args w λv' w'=>R v' w'/\sQ w iK m p n cg z hd w' (aE O' w w')/\H O' w w'):
  bc prog f args w λv' w'=>R v' w'/\km m p n cg z hd w' (aE O w w')/\H O w w':=by
 have ak:=(km.ok m p n cg z x).lt h;have aH:=LV cv fT gB;refine(Z (O':=λj=>O j\/iK j) ⟨cv,fT,gB,λ_ h=>h⟩ ⟨O,h,λj I=>⟨.inl I,λe=>jj j e I⟩,λj I=>⟨.inr I,rfl⟩,λj I=>I.elim (ak j) (aH j)⟩ λ_ h=>h).mono ?_;rintro v' w' ⟨af,⟨gK,J,T,ag,aP⟩,c⟩;have cs:=c.size;refine⟨af,(km.ok m p n cg z hd).eK J (λj I=> ?_) (aE.lt ak cs),(H.mV (B:=iK) c λj I=>(ag j I).2).mono λj _ e=>e.1.resolve_right e.2⟩;obtain⟨bn,bh⟩:=T j I;rcases bn with(bn|bn)|bn
 ·exact .inl bn
 ·exact absurd bn bh
 ·exact .inr bn
theorem aE1(dC:kG cL)(cv:hI w)(fT:jz w)(gB:qO w)(h:km m p n cg z x w O)(jj:∀j,iK j->¬O j)(aC:48<=za cL x)(aM:qA w v (up m) st)(ok:gi st)(num:Nat)(nZ:num<65536):
  bc prog 52 #[az v,.int .u16 num] w λv' w'=>(v'=.tuple #[.agg (aZ (qB (lZ n) x st num).2.1),aa (qB (lZ n) x st num).2.2]/\fu (qB (lZ n) x st num).2.1)/\km m p n cg z (qB (lZ n) x st num).1 w' (aE O w w')/\H O w w':=
 ahN cv fT gB h jj λe ab _=>(ar0 (aa3 dC e) aC (sQ.ok _ _ _ _ _ _ _) ab aM ok num nZ cv (sQ.d' e)).mono λv' w' ⟨a,b,c,d⟩=>⟨⟨a,b⟩,c,d⟩
theorem aE3(dC:kG cL)(cv:hI w)(fT:jz w)(gB:qO w)(h:km m p n cg z x w O)(jj:∀j,iK j->¬O j)(aC:80<=za cL x)(aM:qA w v (up m) st)(g_:¬O v/\¬iK v)(ok:gi st)(num off:Nat)(nZ:num<65536)(iD:off<4294967296):
  bc prog 74 #[az v,.int .u16 num,.int .u32 off] w λv' w'=>v'=.tuple #[.bool (Dn (lZ n) x st num off).2.1,aa (Dn (lZ n) x st num off).2.2]/\km m p n cg z (Dn (lZ n) x st num off).1 w' (aE O w w')/\H O w w':=
 ahN cv fT gB h jj λe ab eZ=>aIu (aa3 dC e) aC (sQ.ok _ _ _ _ _ _ _) ab aM (λe=>(eZ v e).elim g_.1 g_.2) ok num off nZ iD cv (sQ.d' e)
theorem aFv(dC:kG cL)(cv:hI w)(fT:jz w)(gB:qO w)(h:km m p n cg z x w O)(jj:∀j,iK j->¬O j)(aC:16<=za cL x)(a:yd)(ok:wS a):
  bc prog 26 #[up m,.agg (wx a)] w λv' w'=>(v'=.tuple #[.agg (bN (yg (lZ n) x a).2.1),aa (yg (lZ n) x a).2.2]/\gi (yg (lZ n) x a).2.1)/\km m p n cg z (yg (lZ n) x a).1 w' (aE O w w')/\H O w w':=
 ahN cv fT gB h jj λe ab _=>(aD' (aa3 dC e) aC (sQ.ok _ _ _ _ _ _ _) ab a ok cv (sQ.d' e)).mono λv' w' ⟨a,b,c,d⟩=>⟨⟨a,b⟩,c,d⟩
end
end Go.Proofs.YtoohkhcpboldjaaGreatDoor
