/- Behind a commit, in plain Lean: what is held is given back, or used again; disks are flushed; the next state. They speak of no program. No condition. -/
import Derived.Test.YtoohkhcpboldjaaGreatDoorMcM
set_option linter.unusedSimpArgs false
set_option linter.unusedVariables false
namespace Go.Proofs.YtoohkhcpboldjaaGreatDoor
open Go.RowKit Go.Kin Tryz
structure eb where
 s:ay
 bX:List Pt
 gN:List Pt
structure jt where
 n:Nat
 bf:Nat
 eg:List Pt
 blk:Pt->cW
 bY:Nat->Bool
 js:Bool
def bx(l:List Pt):List Nat:=l.flatMap pa
theorem Fm(a b:List Pt):bx (a++b)=bx a++bx b:=acV
theorem HG{l:List Pt}{a:Nat}:a∈bx l↔∃p∈l,a∈pa p:=acL
def iR(n:Nat):Src eb:=λt p=>({t with s:=(t.s.nS n p false).1},(t.s.nS n p false).2.1,(t.s.nS n p false).2.2)
def uy(bf:Nat)(p:Pt)(b:cW)(a:List Nat):Pt:={p with b:=bf,a:=a,h:=uI {p with b:=bf,a:=a} b}
def it(n bf:Nat)(t:eb)(p:Pt)(b:cW):eb×Pt×Int:=
 let f:=t.s.xU n (fE p.k)
 if f.2=[0,0,0,0]then({t with s:=f.1},ah,30)else
 let w:=f.1.ij n (uy bf p b f.2) b
 ({t with s:=w.1,bX:=t.bX++[uy bf p b f.2]},uy bf p b f.2,w.2)
def lR(n:Nat)(t:eb)(p:Pt):eb:={t with s:=(rN p).foldl (ay.nY n 1 2) t.s,gN:=if p=ah then t.gN else t.gN++[p]}
def tO(s:ay):Prop:=s.P.off=false/\¬((s.aB 0).bY=true/\(s.aB 1).bY=true)
def nh(s:ay)(p:Pt)(b:cW):Prop:=tN p b=true/\(tO s->∀i,i<2->(s.aB i).bY=false->∀a∈pa p,Bx (s.aB i) a=b)
def aag(c:jt)(t:eb):Prop:=∀a,1<=a->a<c.n->a∈bx (c.eg++t.bX)
structure mK(c:jt)(t:eb):Prop where
 By:∀i,vQ (t.s.aB i)
 bY:∀i,i<2->(t.s.aB i).bY=c.bY i
 on:c.js=false->t.s.P=eL.on
 eD:∀i,i<2->∀a,t.s.eD i a=false
 use:∀i,i<2->∀a,1<=a->a<c.n->t.s.use i a=if a∈bx (c.eg++t.bX)then(if a∈bx t.gN then 2 else 1)else 0
 cn:(bx (c.eg++t.bX)).Nodup
 Di:∀a∈bx (c.eg++t.bX),1<=a/\a<c.n
 gN:∀p∈t.gN,p∈c.eg++t.bX
 Bz:∀p∈c.eg++t.bX,cc p/\Fl p/\jY p=true
 hs:∀p∈c.eg,tN p (c.blk p)=true/\∀i,i<2->c.bY i=false->∀a∈pa p,kC (t.s.aB i).m a=c.blk p
 len:∀i,i<2->∀a,(kC (t.s.aB i).m a).length=512
 bT:∀i,i<2->∀e∈(t.s.aB i).bT,(c.bY i=false->e.1∉bx c.eg)/\e.2.length=512
 wide:(∀p∈t.bX,(pa p).length=fE p.k)\/aag c t
 n:c.n<=65536
structure tP(c:jt)(t:eb):Prop where
 bU:mK c t
 dv:∀p∈t.bX,∃b,nh t.s p b
 none:c.bY 0=true/\c.bY 1=true->t.bX=[]
def ms(c:jt):iA eb where
 rd:=iR c.n
 nw:=it c.n c.bf
 ca:=lR c.n
 ok:=tP c
 bU:=mK c
 has:=λt p b=>p∈c.eg++t.bX/\nh t.s p b
 bX:=eb.bX
 gN:=eb.gN
 EO:=λt e=>(e=21/\(c.js=true\/(c.bY 0=true/\c.bY 1=true)))\/(e=30/\aag c t/\(c.bY 0=true/\c.bY 1=true->t.bX=[]))
section
variable {c:jt}{t:eb}
theorem mK.aah(h:mK c t){p:Pt}(am:p∈c.eg):nh t.s p (c.blk p):=by
 obtain⟨J,T⟩:=h.hs p am;refine⟨J,λ_ i ad bm a ao=> ?_⟩;unfold Bx;rw[YF λe aV aL=>(h.bT i ad e aV).1 (by rw[<-h.bY i ad];exact bm) (by rw[aL];exact HG.2 ⟨p,am,ao⟩)];exact T i ad (by rw[<-h.bY i ad];exact bm) a ao
theorem apx{p:Pt}(aA:Fl p):∃x,x∈pa p:=by
 obtain⟨x,y,e,W,_⟩:=aA;refine⟨x,?_⟩;rw[MU e W];split<;>simp
theorem tO.apy{s:ay}(h:¬tO s):s.P.off=true\/((s.aB 0).bY=true/\(s.aB 1).bY=true):=by
 unfold tO at h
 grind
theorem aDO(h:tP c t){p:Pt}{b:cW}(am:p∈c.eg++t.bX)(ab:nh t.s p b):
  ((ms c).fO t (iR c.n t p).1 [] []/\(iR c.n t p).2=(b,0))\/(ms c).ni t 0 (iR c.n t p).1 (iR c.n t p).2.2:=by
 obtain⟨ok,⟨x,y,e,W,G'⟩,aC⟩:=h.bU.Bz p am;by_cases ao:tO t.s
 ·have rO:x∈pa p:=by rw[MU e W];split<;>simp
  have sr:=(h.bU.Di x (HG.2 ⟨p,am,rO⟩)).2;have aN:=ago (n:=c.n) aC e W h.bU.By ao.1 ao.2 sr ab.1 λi ad bm=>ab.2 ao i ad bm x rO;unfold iR;rw[aN];exact .inl ⟨iA.fO.refl h,rfl⟩
 ·obtain⟨a',hn⟩:=aDN (n:=c.n) aC (tO.apy ao);unfold iR;rw[hn];refine .inr ⟨by show(21:Int)≠0;decide,.inl ⟨rfl,?_⟩,?_,by show gz t.bX<=_;exact c_ _⟩
  ·rcases tO.apy ao with J|J
   ·cases bP:c.js with
    |true=>exact .inl rfl
    |false=>
     rw[h.bU.on bP]at J
     cases J
   ·exact .inr ⟨by rw[<-h.bU.bY 0 (by omega)];exact J.1,by rw[<-h.bU.bY 1 (by omega)];exact J.2⟩
  ·obtain⟨aW,bg,bR,ck,f5,f6,bQ,bB,dt,fA,gC,dj,fw,f14⟩:=h.bU;exact⟨aW,bg,bR,ck,f5,f6,bQ,bB,dt,fA,gC,dj,fw,f14⟩
theorem nh.same{s s':ay}{p:Pt}{b:cW}(h:nh s p b)(aL:s'.aB=s.aB)(aR:s'.P=s.P):nh s' p b:=by
 refine⟨h.1,λao i ad bm a da=> ?_⟩;unfold tO at ao;rw[aL]at bm⊢;exact h.2 ⟨by rw[<-aR];exact ao.1,by rw[<-aL];exact ao.2⟩ i ad bm a da
theorem aDP(h:tP c t){p:Pt}(am:p∈c.eg++t.bX):(ms c).fO t (lR c.n t p) [] [p]:=by
 obtain⟨ok,aA,aC⟩:=h.bU.Bz p am;have hz:p≠ah:=λe=>by rw[e]at aC;exact absurd aC (by decide)
 obtain⟨S,ap⟩:=PH (n:=c.n) (f:=1) (t:=2) (by decide) (rN p) t.s;obtain⟨aW,bg,bR,ck,f5,f6,bQ,bB,dt,fA,gC,dj,fw,f14⟩:=h.bU;have e:lR c.n t p=⟨(rN p).foldl (ay.nY c.n 1 2) t.s,t.bX,t.gN++[p]⟩:=by
  unfold lR;rw[aQ hz]
 rw[e];refine⟨⟨⟨by rw[S.aB];exact aW,by rw[S.aB];exact bg,by rw[S.P];exact bR,by rw[S.eD];exact ck,λi ad a a1 a2=> ?_,f6,bQ,λq au=> ?_,dt,by rw[S.aB];exact fA,by rw[S.aB];exact gC,by rw[S.aB];exact dj,fw,f14⟩,λq au=> ?_,h.none⟩,λq b au=>⟨au.1,au.2.same S.aB S.P⟩,by simp[ms],rfl⟩
 ·show _=if a∈bx (c.eg++t.bX)then(if a∈bx (t.gN++[p])then 2 else 1)else 0
  rw[ap,f5 i ad a a1 a2,Fm t.gN];have aDQ:=Ql aA i a;have HH:bx [p]=pa p:=by unfold bx;simp
  grind
 ·grind
 ·obtain⟨b,ab⟩:=h.dv q au;exact⟨b,ab.same S.aB S.P⟩
theorem aDR{bf:Nat}{p:Pt}{b:cW}{x y:Nat}(W:1<=x)(G':y≠x):Fl (uy bf p b [x,y,x,y]):=⟨x,y,rfl,by omega,Ne.symm G'⟩
theorem apz{p:Pt}(h:HI p):fE p.k=1\/fE p.k=2:=by
 have r:p.k=1\/p.k=2\/p.k=3\/p.k=4\/p.k=5:=by
  rcases h.2 with h|h<;>omega
 rcases r with e|e|e|e|e<;>rw[e]<;>decide
theorem aDS{bf:Nat}{p:Pt}{b:cW}{x y:Nat}(h:HI p)(W:1<=x)(G':y≠x)(bM:fE p.k=1->y=0):jY (uy bf p b [x,y,x,y])=true:=by
 rw[Qn (p:=uy bf p b [x,y,x,y]) (a0:=x) (a1:=y) (a2:=x) (a3:=y) (n:=fE p.k) rfl rfl];have aL:Fo (uy bf p b [x,y,x,y])=true:=by
  show(if p.k=3 then(p.l==1||p.l==2)else p.l==0)=true;rcases h.2 with⟨r,ak⟩|⟨_,_,r,ak⟩
  ·grind
  ·rw[aQ r,ak];rfl
 have aR:(uy bf p b [x,y,x,y]).a.any (·!=0)=true:=by
  show[x,y,x,y].any (·!=0)=true;simp;omega
 have jJ:¬x=0:=by omega
 rw[aL,aR];rcases apz h with e|e
 ·rw[e,bM e];simp[Fp,jJ]
 ·rw[e];simp[Fp,jJ,Ne.symm G']
theorem aDT{bf:Nat}{p:Pt}{b:cW}{x y:Nat}(h:HI p)(ab:bf<18446744073709551616)(W:x<65536)(ar:y<65536):cc (uy bf p b [x,y,x,y]):=
 ⟨h.1.k,h.1.l,h.1.o,h.1.f,ab,PJ _ _,rfl,by intro z hz;simp[uy]at hz;omega⟩
theorem aDU{bf:Nat}{p:Pt}{b:cW}{a:List Nat}(ak:b.length=512):tN (uy bf p b a) b=true:=by
 unfold tN;rw[ou ak,Gf,LD];rfl
theorem aDV(hq:c.bf<18446744073709551616)(h:tP c t){p:Pt}{b:cW}(bj:HI p)(ak:b.length=512):
  (∃q,it c.n c.bf t p b=((it c.n c.bf t p b).1,q,0)/\(ms c).fO t (it c.n c.bf t p b).1 [q] []/\(ms c).has (it c.n c.bf t p b).1 q b/\agp p q/\∀d,¬(ms c).has t q d)\/
  (ms c).ni t (fE p.k) (it c.n c.bf t p b).1 (it c.n c.bf t p b).2.2:=by
 obtain⟨aW,bg,bR,ck,f5,f6,bQ,bB,dt,fA,gC,dj,fw,f14⟩:=id h.bU;have bM:=apz bj;rcases aDH (n:=c.n) (U:=λa=>if a∈bx (c.eg++t.bX)then(if a∈bx t.gN then 2 else 1)else 0) f5 ck bM with⟨bK,x,y,aL,S,lr,sr,jJ,ar,dx,ii,ap⟩|⟨aL,aDW⟩
 ·have lj:x∉bx (c.eg++t.bX):=λe=>by
   grind
  have Bt:y≠x:=by omega
  have IM:y<65536:=by omega
  have Em:y∉bx (c.eg++t.bX):=λe=>by
   grind
  obtain⟨q,au⟩:=aD (uy c.bf p b [x,y,x,y]);have agq:q.a=[x,y,x,y]:=by rw[<-au];rfl
  have wn:Fl q:=au▸aDR lr Bt;have aDX:jY q=true:=au▸aDS bj lr Bt dx;have aRP:cc q:=au▸aDT bj hq (by omega) IM;have apA:tN q b=true:=au▸aDU ak;have agr:agp p q:=by rw[<-au];exact⟨rfl,rfl,rfl,rfl⟩
  have ags:x≠0:=by omega
  have aDY:pa q=if y=0 then[x]else[x,y]:=MU agq ags
  have aDZ:∀k∈eA q.a 4,du q k<c.n:=λk r=>by
   have:(k / 2,du q k)∈rN q:=lF.2 ⟨k,r,rfl⟩;have aC:=((Ql wn _ _).1 this).2
   grind
  have R:=apv (n:=c.n) (q:=q) (b:=b) ak (eA q.a 4) bK 21 aDZ (by rw[S.aB];exact aW);obtain⟨V,ax⟩:=aD ((eA q.a 4).foldl (ay.put c.n q b) (bK,21));rw[ax]at R;have en:it c.n c.bf t p b=(⟨V.1,t.bX++[q],t.gN⟩,q,V.2):=by
   unfold it;rw[aL];simp only;rw[aQ (by simp;omega),au];unfold ay.ij;rw[aDX,apA];simp only[Sf,if_true];rw[ax]
  rw[en];have apB:∀a,a∈bx (c.eg++(t.bX++[q]))↔a∈bx (c.eg++t.bX)\/a∈pa q:=λa=>by
   rw[<-nv,Fm,hP];have:bx [q]=pa q:=by unfold bx;simp
   rw[this]
  have aD0:∀a,a∈pa q->a=x\/(a=y/\y≠0):=λa ao=>by
   grind
  have apC:x∈pa q:=by rw[aDY];split<;>simp
  have Mq:∀a,a∈pa q->a∉bx (c.eg++t.bX):=λa ao=>by
   grind
  have jj:∀a,a∈bx t.gN->a∈bx (c.eg++t.bX):=λa ao=>by
   obtain⟨hZ,Dj,da⟩:=HG.1 ao;exact HG.2 ⟨hZ,bB hZ Dj,da⟩
  have Qo:∀a,a∈bx c.eg->a∈bx (c.eg++t.bX):=λa ao=>by rw[Fm,hP];exact .inl ao
  have aD1:∀i,i<2->(V.1.aB i).bY=c.bY i:=λi ad=>by rw[R.bY,S.aB];exact bg i ad
  have MV:tO V.1->tO t.s:=λao=>by
   refine⟨by have:=R.off ao.1;rw[S.P]at this;exact this,λe=>ao.2 ?_⟩
   grind
  have adV:∀hZ b',hZ∈c.eg++t.bX->nh t.s hZ b'->nh V.1 hZ b':=λhZ b' Dj qZ=>by
   refine⟨qZ.1,λao i ad bm a da=> ?_⟩;have EL:(t.s.aB i).bY=false:=by rw[R.bY,S.aB]at bm;exact bm
   rw[<-qZ.2 (MV ao) i ad EL a da];obtain⟨gJ,aY,_,aI,_⟩:=R.bT i;unfold Bx;rw[aY,R.m,S.aB,apu _ _ (b:=b) λz hz _=>(aI z hz).1,aQ];rintro⟨z,hz,e⟩;obtain⟨_,k,r,eo,aR⟩:=aI z hz;have:(k / 2,du q k)∈rN q:=lF.2 ⟨k,r,rfl⟩;have aC:=((Ql wn _ _).1 this).2;exact Mq _ aC (by rw[<-aR,e];exact HG.2 ⟨hZ,Dj,da⟩)
  have apD:mK c ⟨V.1,t.bX++[q],t.gN⟩:=by
   refine⟨R.By,aD1,λbP=>R.on (by rw[S.P];exact bR bP),by rw[R.eD,S.eD];exact ck,λi ad a a1 a2=> ?_,?_,λa ao=> ?_,λMu EM=> ?_,λMu EM=> ?_,λhZ Dj=> ?_,λi ad a=>by rw[R.m,S.aB];exact gC i ad a,λi ad e aV=> ?_,?_,f14⟩
   ·rw[R.use,ap i ad a a1 a2];simp only[apB];by_cases rC:a∈bx (c.eg++t.bX)
    ·grind
    ·have aH:a∉bx t.gN:=λe=>rC (jj a e);simp only[rC,if_false,false_or,aH];by_cases AI:a∈pa q
     ·grind
     grind
   ·rw[<-nv,Fm];have HH:bx [q]=pa q:=by unfold bx;simp
    rw[HH];refine List.nodup_append.2 ⟨f6,?_,λa ao b ab e=>Mq b ab (by rw[<-e];exact ao)⟩
    grind
   ·rcases(apB a).1 ao with ao|ao
    ·exact bQ a ao
    grind
   ·grind
   ·grind
   ·obtain⟨J,T⟩:=fA hZ Dj;refine⟨J,λi ad bm a ao=> ?_⟩;rw[R.m,S.aB];exact T i ad bm a ao
   ·obtain⟨gJ,aY,_,aI,_⟩:=R.bT i;rw[aY,S.aB]at aV;rcases hP.1 aV with aV|aV
    ·exact dj i ad e aV
    ·obtain⟨aR,k,r,eo,dB⟩:=aI e aV;refine⟨λ_ dl=> ?_,by rw[aR];exact ak⟩;have:(k / 2,du q k)∈rN q:=lF.2 ⟨k,r,rfl⟩;have aC:=((Ql wn _ _).1 this).2
     grind
   ·have apE:q.k=p.k:=agr.1;rcases fw with fw|fw
    ·by_cases apF:fE p.k=2/\y=0
     ·right;intro a a1 a2
      grind
     grind
    ·exact absurd (fw x lr sr) lj
  by_cases pq:V.2=0
  ·rw[pq];have kz:¬(c.bY 0=true/\c.bY 1=true):=λ⟨gW,dc⟩=>by
    have:=R.Ju λk r=>by
     have gq:=(MN r).1;have oD:k / 2=0\/k / 2=1:=by omega
     rw[S.aB]
     grind
    omega
   have aD2:nh V.1 q b:=by
    refine⟨apA,λao i ad bm a da=> ?_⟩;have EL:(bK.aB i).bY=false:=by rw[R.bY]at bm;exact bm
    obtain⟨gJ,aY,_,aI,bo⟩:=R.bT i;have TZ:=(Ql wn i a).2 ⟨ad,da⟩;obtain⟨k,r,e⟩:=lF.1 TZ;have ek:=Prod.mk.inj e;have fo:=bo ao.1 EL k r ek.1;unfold Bx;rw[aY,apu _ _ (b:=b) λz hz _=>(aI z hz).1,be ⟨_,fo,ek.2⟩];rfl
   refine .inl ⟨q,rfl,⟨⟨apD,λhZ Dj=> ?_,λe=>absurd e kz⟩,λhZ b' qZ=>⟨?_,adV hZ b' qZ.1 qZ.2⟩,rfl,by simp[ms]⟩,⟨by simp,aD2⟩,agr,λd bm=> ?_⟩
   ·rcases hP.1 Dj with Dj|Dj
    ·obtain⟨b',qZ⟩:=h.dv hZ Dj
     grind
    grind
   ·rw[<-nv];exact hP.2 (.inl qZ.1)
   ·exact lj (HG.2 ⟨q,bm.1,apC⟩)
  ·refine .inr ⟨pq,.inl ⟨R.e.resolve_right pq,?_⟩,apD,?_⟩
   ·cases bP:c.js with
    |true=>exact .inl rfl
    |false=>
     right;refine yE λaq=>pq (R.ok (by rw[S.P];exact bR bP) ?_)
     cases aaf:c.bY 0 with
     |false=>
      refine⟨0,?_,by rw[S.aB,show(0:Nat) / 2=0 from rfl,bg 0 (by omega)];exact aaf⟩;rw[agq,aac ags];split<;>simp
     |true=>
      refine⟨2,?_,?_⟩
      ·rw[agq,aac ags];split<;>simp
      ·rw[S.aB,show(2:Nat) / 2=1 from rfl,bg 1 (by omega)]
       grind
   ·show gz (t.bX++[q])<=gz t.bX+fE p.k;rw[Fq];have:gz [q]=fE p.k:=by
     unfold gz;rw[oq,agr.1];rfl
    omega
 ·have en:it c.n c.bf t p b=(t,ah,30):=by
   unfold it;rw[aL];rfl
  rw[en];refine .inr ⟨by show(30:Int)≠0;decide,.inr ⟨rfl,λa a1 a2=>yE λaq=>aDW a a1 a2 (by simp[aq]),h.none⟩,h.bU,Cd _ _⟩
theorem apG(hq:c.bf<18446744073709551616):(ms c).Laws where
 bU:=λ_ h=>h.bU
 ae:=λs p b h ab=>by
  obtain⟨J,T,ag⟩:=h.bU.Bz p ab.1;exact⟨J,ag,aeS ab.2.1⟩
 rd:=λs p b h ab=>aDO h ab.1 ab.2
 ca:=λs p b h ab=>aDP h ab.1
 agt:=λs h=>by
  have e:(ms c).ca s ah=s:=by
   show lR c.n s ah=s;unfold lR;rw[aDL,be rfl];rfl
  rw[e];exact iA.fO.refl h
 nw:=λs p b h bj ak=>aDV hq h bj ak
end
section
variable {n:Nat}{c:jt}{t:eb}{s:ay}
def ay.all(n jq:Nat)(s:ay):ay:={s with use:=λi a=>if i<2/\a<n/\s.use i a=2 then jq else s.use i a}
def ay.yb(n:Nat)(l:List Pt)(s:ay):ay:=l.foldl (λs p=>(rN p).foldl (ay.nY n 1 0) s) s
theorem i_.all(n jq:Nat)(s:ay):i_ s (s.all n jq):=⟨rfl,rfl,rfl,rfl,rfl,rfl⟩
theorem apH:∀(l:List Pt) (s:ay),(∀p∈l,Fl p)->i_ s (s.yb n l)/\∀i,i<2->∀a,1<=a->a<n->(s.yb n l).use i a=if a∈bx l/\s.use i a=1 then 0 else s.use i a
 |[],s,_=>⟨i_.refl s,λi _ a _ _=>by simp[ay.yb,bx]⟩
 |p::l,s,ak=>by
  obtain⟨J,T⟩:=PH (n:=n) (f:=1) (t:=0) (by decide) (rN p) s;obtain⟨ag,aP⟩:=apH l ((rN p).foldl (ay.nY n 1 0) s) λq au=>ak q (by simp[au]);refine⟨J.trans ag,λi ad a a1 a2=> ?_⟩;show(((rN p).foldl (ay.nY n 1 0) s).yb n l).use i a=_;rw[aP i ad a a1 a2,T];have aDQ:=Ql (ak p (by simp)) i a;have HH:a∈bx (p::l)↔a∈pa p\/a∈bx l:=by
   unfold bx
   grind
  grind
theorem mK.apI(h:mK c t){a:Nat}(ao:a∈bx c.eg):a∈bx (c.eg++t.bX)/\a∉bx t.bX:=by
 rw[Fm];refine⟨hP.2 (.inl ao),λe=> ?_⟩;have:=h.cn;rw[Fm]at this
 grind
theorem mK.agu(h:mK c t):mK c ⟨(t.s.all c.n 1).yb c.n t.bX,[],[]⟩:=by
 obtain⟨aW,bg,bR,ck,f5,f6,bQ,bB,dt,fA,gC,dj,fw,f14⟩:=id h;obtain⟨S,ap⟩:=apH (n:=c.n) t.bX (t.s.all c.n 1) λp am=>(dt p (hP.2 (.inr am))).2.1;have S:=(i_.all c.n 1 t.s).trans S;have cn:=f6;rw[Fm]at cn;refine⟨by rw[S.aB];exact aW,by rw[S.aB];exact bg,by rw[S.P];exact bR,by rw[S.eD];exact ck,λi ad a a1 a2=> ?_,?_,λa ao=> ?_,by simp,λp am=> ?_,by rw[S.aB];exact fA,by rw[S.aB];exact gC,by rw[S.aB];exact dj,.inl (by simp),f14⟩
 ·show((t.s.all c.n 1).yb c.n t.bX).use i a=if a∈bx (c.eg++[])then(if a∈bx []then 2 else 1)else 0
  rw[ap i ad a a1 a2,va];have e:(t.s.all c.n 1).use i a=if a∈bx (c.eg++t.bX)then 1 else 0:=by
   unfold ay.all;simp only[ad,a2,true_and];rw[f5 i ad a a1 a2];by_cases ak:a∈bx (c.eg++t.bX)
   ·grind
   ·simp[ak]
  rw[e];by_cases bi:a∈bx c.eg
  ·obtain⟨bn,bh⟩:=h.apI bi;have bA:a∉bx []:=by simp[bx]
   simp[bi,bn,bh,bA]
  ·by_cases aC:a∈bx t.bX
   ·grind
   ·have:a∉bx (c.eg++t.bX):=by rw[Fm,hP];exact λe=>e.elim bi aC
    simp[bi,aC,this]
 ·grind
 ·have ao:a∈bx (c.eg++[]):=ao;rw[va]at ao;exact bQ a (h.apI ao).1
 grind
theorem aD3(l:List (Nat×cW)):∀(D:cb),vQ D->(∀a,(kC D.m a).length=512)->(∀e∈l,e.2.length=512)->
  vQ (l.foldl (λd e=>d.pO e 512) D)/\(l.foldl (λd e=>d.pO e 512) D).bY=D.bY/\∀a,kC (l.foldl (λd e=>d.pO e 512) D).m a=(qo l a).getD (kC D.m a):=by
 induction l with
 |nil=>exact λD h _ _=>⟨h,rfl,λa=>rfl⟩
 |cons e l bL=>
  intro D h ak aV;have J:vQ (D.pO e 512):=⟨h.wE,h.gl,λa=>by unfold cb.pO;simp only;split;rfl;exact h.dN a,h.stuck⟩;have aC:∀a,kC (D.pO e 512).m a=if a=e.1 then e.2 else kC D.m a:=λa=>by
   unfold cb.pO kC;simp only;by_cases ao:a=e.1
   ·rw[be ao,be ao];have agv:=aV e (by simp);have:=ak e.1;unfold kC at this
    grind
   ·rw[aQ ao,aQ ao]
  obtain⟨bn,bh,bA⟩:=bL (D.pO e 512) J (λa=>by
   grind) λx W=>aV x (by simp[W])
  refine⟨bn,bh,λa=> ?_⟩;rw[yO,bA,aC];obtain⟨p,q⟩:=e;show _=(match qo l a with|some z=>some z|none=>if p=a then some q else none).getD _
  grind
theorem Qp{D:cb}(h:vQ D)(ak:∀a,(kC D.m a).length=512)(aV:∀e∈D.bT,e.2.length=512):vQ D.ev/\D.ev.bY=D.bY/\D.ev.bT=[]/\∀a,kC D.ev.m a=Bx D a:=by
 obtain⟨bn,bh,bA⟩:=aD3 D.bT D h ak aV;exact⟨⟨bn.wE,bn.gl,bn.dN,bn.stuck⟩,bh,rfl,bA⟩
theorem aD4{D:cb}(ak:∀a,(kC D.m a).length=512)(aV:∀e∈D.bT,e.2.length=512)(a:Nat):(Bx D a).length=512:=by
 unfold Bx
 cases h:qo D.bT a with
 |none=>exact ak a
 |some b=>exact aV _ (aD5 h)
structure aD6(s V:ay)(e:Int):Prop where
 use:V.use=s.use
 eD:V.eD=s.eD
 eV:V.eV=s.eV
 gd:V.gd=s.gd
 dW:V.dW=s.dW
 aB:∀i,i<2->V.aB i=s.aB i\/((s.aB i).bY=false/\V.aB i=(s.aB i).ev)
 By:∀i,2<=i->V.aB i=s.aB i
 off:V.P.off=false->s.P.off=false/\∀i,i<2->(s.aB i).bY=false->V.aB i=(s.aB i).ev
 on:s.P=eL.on->V.P=eL.on
 aRQ:e=0\/e=21
 ok:s.P=eL.on->¬((s.aB 0).bY=true/\(s.aB 1).bY=true)->e=0
theorem apJ{p:eL}(h:p.step.off=false):p.off=false/\p.bX=true:=by
 unfold eL.step at h
 cases av:p.off with
 |true=>rw[av]at h;simp[av]at h
 |false=>
  rw[av]at h;simp only[wk,if_false]at h;refine⟨rfl,?_⟩;unfold eL.bX
  grind
theorem aai(s:ay):aD6 s s.ev.1 s.ev.2:=by
 obtain⟨bK,J⟩:=aD ((s.lX 0).1);have a0:bK={s with aB:=iS s.aB 0 (if(s.aB 0).gb s.P&&s.P.bX then(s.aB 0).ev else s.aB 0),P:=if(s.aB 0).gb s.P then s.P.step else s.P}:=J.symm;have dc:bK.aB 1=s.aB 1:=by rw[a0];simp[iS]
 have gW:bK.aB 0=if(s.aB 0).gb s.P&&s.P.bX then(s.aB 0).ev else s.aB 0:=by rw[a0];simp[iS]
 have agw:bK.P=if(s.aB 0).gb s.P then s.P.step else s.P:=by rw[a0]
 have bu:s.ev.1={bK with aB:=iS bK.aB 1 (if(bK.aB 1).gb bK.P&&bK.P.bX then(bK.aB 1).ev else bK.aB 1),P:=if(bK.aB 1).gb bK.P then bK.P.step else bK.P}:=by
  unfold ay.ev;rw[J];rfl
 have Uu:s.ev.2=if((s.aB 0).gb s.P&&s.P.bX)||((bK.aB 1).gb bK.P&&bK.P.bX)then 0 else 21:=by
  unfold ay.ev;rw[J];rfl
 have nP:s.ev.1.aB 0=bK.aB 0:=by rw[bu];simp[iS]
 have ny:s.ev.1.aB 1=if(bK.aB 1).gb bK.P&&bK.P.bX then(bK.aB 1).ev else bK.aB 1:=by rw[bu];simp[iS]
 have apK:s.ev.1.P=if(bK.aB 1).gb bK.P then bK.P.step else bK.P:=by rw[bu]
 refine⟨by rw[bu,a0],by rw[bu,a0],by rw[bu,a0],by rw[bu,a0],by rw[bu,a0],λi ad=> ?_,λi ad=> ?_,λav=> ?_,λuF=> ?_,?_,λuF kz=> ?_⟩
 ·have:i=0\/i=1:=by omega
  rcases this with rfl|rfl
  ·rw[nP,gW];by_cases h:((s.aB 0).gb s.P&&s.P.bX)=true
   ·rw[be h];unfold cb.gb at h
    grind
   grind
  ·rw[ny,dc];by_cases h:((s.aB 1).gb bK.P&&bK.P.bX)=true
   ·rw[be h];unfold cb.gb at h
    grind
   grind
 ·rw[bu];show iS bK.aB 1 _ i=_;rw[ye _ _ (by omega),a0];exact ye _ _ (by omega)
 ·rw[apK]at av;have gF:bK.P.off=false/\((s.aB 1).bY=false->bK.P.bX=true):=by
   by_cases h:(bK.aB 1).gb bK.P=true
   ·rw[be h]at av;obtain⟨bn,bh⟩:=apJ av;exact⟨bn,λ_=>bh⟩
   ·rw[aQ h]at av;refine⟨av,λbm=>absurd ?_ h⟩;unfold cb.gb;rw[dc,bm,av];rfl
  have GD:s.P.off=false/\((s.aB 0).bY=false->s.P.bX=true):=by
   have J:=gF.1;rw[agw]at J;by_cases h:(s.aB 0).gb s.P=true
   ·rw[be h]at J;obtain⟨bn,bh⟩:=apJ J;exact⟨bn,λ_=>bh⟩
   ·rw[aQ h]at J;refine⟨J,λbm=>absurd ?_ h⟩;unfold cb.gb;rw[bm,J];rfl
  refine⟨GD.1,λi ad bm=> ?_⟩;have:i=0\/i=1:=by omega
  rcases this with rfl|rfl
  ·rw[nP,gW,be];unfold cb.gb
   grind
  ·rw[ny,dc,be];unfold cb.gb
   grind
 ·have aL:bK.P=eL.on:=by
   rw[agw,uF];split<;>rfl
  rw[apK,aL];split<;>rfl
 ·omega
 ·rw[Uu,be];have aL:bK.P=eL.on:=by
   rw[agw,uF];split<;>rfl
  rw[dc,aL,uF];unfold cb.gb
  cases bi:(s.aB 0).bY with
  |false=>simp[eL.on,eL.bX]
  |true=>
   cases J:(s.aB 1).bY with
   |false=>simp[eL.on,eL.bX]
   |true=>exact absurd ⟨bi,J⟩ kz
theorem mK.ev(h:mK c t):mK c {t with s:=t.s.ev.1}:=by
 obtain⟨aW,bg,bR,ck,f5,f6,bQ,bB,dt,fA,gC,dj,fw,f14⟩:=id h;have R:=aai t.s;have aV:∀i,i<2->∀e∈(t.s.aB i).bT,e.2.length=512:=λi ad e aV=>(dj i ad e aV).2;have aC:∀i,i<2->∀a,kC (t.s.ev.1.aB i).m a=kC (t.s.aB i).m a\/kC (t.s.ev.1.aB i).m a=Bx (t.s.aB i) a:=λi ad a=>by
  rcases R.aB i ad with e|⟨_,e⟩
  ·rw[e];exact .inl rfl
  ·rw[e];exact .inr ((Qp (aW i) (gC i ad) (aV i ad)).2.2.2 a)
 refine⟨λi=> ?_,λi ad=> ?_,λbP=>R.on (bR bP),by rw[R.eD];exact ck,by rw[R.use];exact f5,f6,bQ,bB,dt,λp am=> ?_,λi ad a=> ?_,λi ad e Z=> ?_,fw,f14⟩
 ·by_cases ad:i<2
  ·rcases R.aB i ad with e|⟨_,e⟩
   ·rw[e];exact aW i
   ·rw[e];exact(Qp (aW i) (gC i ad) (aV i ad)).1
  ·rw[R.By i (by omega)];exact aW i
 ·rcases R.aB i ad with e|⟨_,e⟩
  ·rw[e];exact bg i ad
  ·rw[e,(Qp (aW i) (gC i ad) (aV i ad)).2.1];exact bg i ad
 ·obtain⟨J,T⟩:=fA p am;refine⟨J,λi ad bm a ao=> ?_⟩;rcases aC i ad a with e|e
  ·rw[e];exact T i ad bm a ao
  ·rw[e];unfold Bx;rw[YF λx W aL=>(dj i ad x W).1 bm (by rw[aL];exact HG.2 ⟨p,am,ao⟩)];exact T i ad bm a ao
 ·rcases aC i ad a with e|e
  ·rw[e];exact gC i ad a
  ·rw[e];exact aD4 (gC i ad) (aV i ad) a
 ·rcases R.aB i ad with aL|⟨_,aL⟩
  ·grind
  ·rw[aL,(Qp (aW i) (gC i ad) (aV i ad)).2.2.1]at Z
   cases Z
theorem aD7{a b:List Pt}(h:a.Perm b):(bx a).Perm (bx b):=by
 induction h with
 |nil=>exact .refl _
 |cons x _ bL=>
  unfold bx at*
  grind
 |swap x y l=>
  unfold bx
  grind
 |trans _ _ J T=>exact J.trans T
theorem tP.next(h:tP c t)(iD:t.s.ev.1.P.off=false)(rC:¬(c.bY 0=true/\c.bY 1=true)){pV:List Pt}(hz:ah∉pV)(mf:∀y,y≠ah->pV.count y+t.gN.count y=c.eg.count y+t.bX.count y)(dA:jt)(Z:dA.n=c.n/\dA.eg=pV/\dA.bY=c.bY/\dA.js=c.js)(ab:∀p b,p∈pV->dA.blk p=b->nh t.s p b):
  mK dA ⟨t.s.ev.1.all c.n 0,[],[]⟩:=by
 obtain⟨xH,hB,dH,pW⟩:=Z;have hn:=h.bU.ev;obtain⟨aW,bg,bR,ck,f5,f6,bQ,bB,dt,fA,gC,dj,fw,f14⟩:=id hn;have R:=aai t.s;have S:=i_.all c.n 0 t.s.ev.1;have apL:ah∉c.eg++t.bX:=λe=>by
  have:=(dt _ e).2.2;exact absurd this (by decide)
 have aRR:ah∉t.gN:=λe=>apL (bB _ e);have Dk:(pV++t.gN).Perm (c.eg++t.bX):=by
  rw[List.perm_iff_count];intro y;rw[AE,AE];by_cases ar:y=ah
  ·grind
  ·exact mf y ar
 have AI:=aD7 Dk;rw[Fm]at AI;have kz:=AI.nodup_iff.2 f6;have Qq:∀a,a∈bx pV↔a∈bx (c.eg++t.bX)/\a∉bx t.gN:=λa=>by
  grind
 have zY:∀p∈pV,p∈c.eg++t.bX:=λp am=>Dk.mem_iff.1 (hP.2 (.inl am));have aV:∀i,i<2->∀e∈(t.s.aB i).bT,e.2.length=512:=λi ad e aV=>(h.bU.bT i ad e aV).2;have MV:tO t.s:=⟨(R.off iD).1,λe=>rC ⟨by rw[<-h.bU.bY 0 (by omega)];exact e.1,by rw[<-h.bU.bY 1 (by omega)];exact e.2⟩⟩;refine⟨by rw[S.aB];exact aW,by rw[S.aB,dH];exact bg,by rw[S.P,pW];exact bR,by rw[S.eD];exact ck,λi ad a a1 a2=> ?_,?_,λa ao=> ?_,by simp,λp am=> ?_,λp am=> ?_,by rw[S.aB];exact gC,λi ad e PR=> ?_,.inl (by simp),by rw[xH];exact f14⟩
 ·show(t.s.ev.1.all c.n 0).use i a=if a∈bx (dA.eg++[])then(if a∈bx []then 2 else 1)else 0
  rw[hB,va];rw[xH]at a2;unfold ay.all;simp only[ad,a2,true_and];rw[f5 i ad a a1 a2];have aC:=Qq a;by_cases ak:a∈bx (c.eg++t.bX)
  ·by_cases aH:a∈bx t.gN
   ·grind
   ·have:a∈bx pV:=aC.2 ⟨ak,aH⟩;have bA:a∉bx []:=by simp[bx]
    simp[ak,aH,this,bA]
  grind
 ·grind
 ·grind
 ·grind
 ·rw[hB]at am;have gY:=ab p _ am rfl;refine⟨gY.1,λi ad bm a ao=> ?_⟩;rw[dH]at bm;rw[S.aB];have EL:(t.s.aB i).bY=false:=by rw[h.bU.bY i ad];exact bm
  rw[(R.off iD).2 i ad EL,(Qp (h.bU.By i) (h.bU.len i ad) (aV i ad)).2.2.2];exact gY.2 MV i ad EL a ao
 ·rw[S.aB]at PR;refine⟨λbm=> ?_,(dj i ad e PR).2⟩;rw[dH]at bm;have EL:(t.s.aB i).bY=false:=by rw[h.bU.bY i ad];exact bm
  rw[(R.off iD).2 i ad EL,(Qp (h.bU.By i) (h.bU.len i ad) (aV i ad)).2.2.1]at PR
  cases PR
end
end Go.Proofs.YtoohkhcpboldjaaGreatDoor
