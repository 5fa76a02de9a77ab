/- What a disk's address tells: Look, Read. No condition. -/
import Derived.Test.YtoohkhcpboldjaaGreatDoorDkC
set_option linter.unusedSimpArgs false
set_option linter.unusedVariables false
namespace Go.Kin
open Go Go.RowKit
theorem lK.cell{B:Nat}{Y bG:M}(h:lK B Y bG){p:Addr}{v:N}(Z:Y.cell? p=some v):bG.cell? p=some v:=by
 have aO:=xC Y p Z;have ab:Y.1[p.block]? =some (Y.1[p.block]'aO):=yP aO
 cases av:Y.1[p.block]'aO with
 |cells cs bv fr=>
  rw[av]at ab;exact(acI ((h.blk ab).trans ab.symm)).trans Z
 |_=>
  rw[av]at ab;simp[World.cell?,ab]at Z
theorem amp{Y:M}{D:Nat}{x:Option (List Deferred)}{o:Obj}(bm:Y.1[D]? =some (.deferred x)){p:Addr}{v:N}(Z:Y.cell? p=some v):(Y.putObj D o).cell? p=some v:=by
 by_cases am:p.block=D
 ·simp[World.cell?,am,bm]at Z
 ·exact(acI (ze am)).trans Z
theorem lK.dR{B:Nat}{Y bG:M}(h:lK B Y bG){v:N}{n:Nat}{xs:List N}(aA:bC Y v n xs):bC bG v n xs:=aA.fK λ_ _ Z=>h.cell Z
end Go.Kin
namespace Go.Proofs.YtoohkhcpboldjaaGreatDoor
open Go.RowKit Go.Kin Tryz
theorem Js{w:M}{v:N}{m:Nat}{cB:List (Nat×N)}(h:w.ownsRow 0 178 2 v m (ei rJ cB)){i a:Nat}{u:N}(W:cB[i]? =some (a,u)):
  ∃g cap,v=.slice (some ⟨g,0,none⟩) m cap/\m<=cap/\cap<=maxLen/\g<w.1.size/\i<m/\w.cell? (bl g (i*2))=some (.int .u16 a)/\w.cell? (bl g (i*2+1))=some u:=by
 have ak:=h.1;rw[St cB (ad_ cB)]at ak;have ad:=(jG.1 W).1;obtain⟨g,cap,dF,rfl,J,T,ag,aP,bH⟩:=A' h (by omega);have nP:=OT (i:=0) (u:=.int .u16 a) (ad_ cB) W rfl;have ny:=OT (i:=1) (u:=u) (ad_ cB) W rfl;simp only[kv,yL,Ec]at nP ny
 grind
def GO(m:Nat):List Nat:=(List.range m).reverse
theorem Tk(m:Nat):(GO m).length=m:=by simp[GO]
theorem aeg{m j:Nat}(h:j<m):(GO m)[j]? =some (m - 1 - j):=by
 unfold GO
 grind
theorem amq{m k:Nat}(h:k<m):(GO m).take (m -(k+1))++[k]=(GO m).take (m - k):=by
 rw[show m - k=(m -(k+1))+1 by omega,nA,aeg (by omega)];simp;omega
def Jt(cB:List (Nat×N))(i:Nat):Nat×N:=cB.getD i (65536,.slice none 0 0)
def aeh(cB:List (Nat×N))(i:Nat):List N:=[aa i,.agg (rJ (Jt cB i))]
theorem ayZ(q m:Nat)(v:N)(cB:List (Nat×N))(w:M)(S:Nat->Prop)(aM:w.ownsRow 0 178 2 v m (ei rJ cB))(ak:cB.length=m)(au:w.1[q]? =some (.cells #[v] 134 (0,0)))(ay0:¬S q)(ay1:∀k,v.ownBlock=some k->¬S k):
  Md prog 202 [az q] 2 (aeh cB) (GO m) S w:=by
 refine⟨λx=>rfl,λargs w=>by simp[go_sem],?_⟩;intro l cQ tw Y fX bJ Jg jm bi;refine bz func202 ntmps202 λbk af=> ?_;have aQV:=lt_of_block au;have cu:=ayK aM underlying134 3;have Tl:=fX.obj au id;have pP:=aG Tl 0;have ay2:∃A c,v=.slice A m c/\m<=maxLen:=by
  rcases aM.2 with⟨rfl,rfl⟩|⟨g,cap,dF,rfl,_,_,J,T,_⟩
  ·grind
  ·grind
 obtain⟨A,c,rfl,aC⟩:=ay2;have Mk:(m:Int)<=9223372036854775807:=by unfold maxLen at aC;omega
 have sm:IntKind.i64.wrap ((m:Int) - 1)=(m:Int) - 1:=by rw[cz];omega
 simp[go_sem,pP,sm];refine di (λV f bI=>∃k,V=k/\k<=m/\f 0=.func (.yield l) #[] #[]/\f 1=az q/\f 3=aa ((k:Int) - 1)/\cQ ((GO m).take (m - k)) bI/\H (λk=>S k\/w.1.size<=k) w bI) m
  ⟨m,rfl,c_ _,by simp,by simp,by simp,by simpa using bi,fX.mono λ_ _ e=>e.elim⟩ ?_
 rintro bq bW k f bI ⟨_,rfl,r,dk,aL,dB,I,Z⟩
 cases k with
 |zero=>
  simp[go_sem,dB];refine af _ _ (.inl ?_);rwa[Nat.sub_zero,mP (by rw[Tk];exact c_ _)]at I
 |succ k=>
  have sn:((k+1:Nat):Int) - 1=k:=by omega
  rw[sn]at dB;obtain⟨x,W⟩:∃x,cB[k]? =some x:=⟨_,d_ (by omega)⟩;obtain⟨a,u⟩:=x;obtain⟨g,cap,X',J,T,ag,aP,nP,ny⟩:=Js aM W
  cases X'
  have ay3:=Z.obj au (λe=>e.elim ay0 (by omega));have ay4:=aG ay3 0;have iM:¬(S g\/w.1.size<=g):=λe=>e.elim (ay1 g rfl) (by omega);have gs:=Z.cell nP iM;have aY:=Z.cell ny iM;have Tm:(k:Int)<m:=by omega
  have aei:k<m:=by omega
  have ej:IntKind.i64.wrap ((k:Int) - 1)=(k:Int) - 1:=by rw[cz];omega
  have ar:=jm _ k bI I (by rw[ol,Tk];omega);have ay5:Jt cB k=(a,u):=by simp[Jt,List.getD,W]
  simp only[aeh,ay5,rJ]at ar;simp[go_sem,dk,aL,dB,ay4,Tm,aei,gs,aY];refine SX _ _ _ ar ?_;rintro _ w' (⟨rfl,kT,fH⟩|⟨rfl,Ey⟩)
  ·simp[go_sem,dB,ej];refine ct.intro k (by omega) (bW _ _ _ ⟨k,rfl,by omega,by simp[dk],by simp[aL],by simp,?_,Z.bZ fH λj _ e=>e⟩);rw[amq aei]at kT;exact kT
  ·simp[go_sem];refine af _ _ (.inr ⟨m - k,by rw[Tk];omega,?_⟩);rw[amq aei]at Ey;exact Ey
theorem ay6(v:N)(w:M)(aM:∃A n c,v=.slice A n c):bc prog 158 #[v] w λv' w'=>v'=.func (.func 202) #[] #[.pointer (some ⟨w.1.size,0,none⟩)]/\w'=w.alloc (.cells #[v] 134):=by
 refine bz func158 ntmps158 λbk af=> ?_;obtain⟨A,n,c,rfl⟩:=aM;simp[go_sem];exact af _ _ ⟨rfl,rfl⟩
section
variable {w:M}{d p n:Nat}{D:cb}{O bw:Nat->Prop}{z:qm}{cB:List (Nat×N)}
def Tn(w:M)(V:Option cW)(v':N)(w':M):Prop:=match V with
 |none=>v'=.tuple #[.slice none 0 0,.bool false]
 |some b=>∃u,v'=.tuple #[u,.bool true]/\b.length=512/\bC w' u 512 (br b)/\gr w.1.size u/\∀k,u.ownBlock=some k->k<w'.1.size
theorem amr{w:M}{v:N}{c:List (Nat×cW)}{bw:Nat->Prop}{cB:List (Nat×N)}(h:zj w v c bw cB)(x:Nat):∃a A m k,Jt cB x=(a,.slice A m k)/\((c[x]? =none/\a=65536)\/∃b,c[x]? =some (a,b)/\AX w bw (.slice A m k) b):=by
 cases W:c[x]? with
 |none=>
  have:cB[x]? =none:=by
   rw[List.getElem?_eq_none_iff]at W⊢;rw[h.len];exact W
  exact⟨65536,none,0,0,by simp[Jt,List.getD,this],.inl ⟨rfl,rfl⟩⟩
 |some e=>
  obtain⟨a,b⟩:=e;obtain⟨u,aL,aR⟩:=h.Pn x a b W;obtain⟨A,k,rfl,_⟩:=aR.1;exact⟨a,A,_,k,by simp[Jt,List.getD,aL],.inr ⟨b,rfl,aR⟩⟩
structure ay7(w:M)(D:cb)(q a:Nat)(pre:List Nat)(Y:M):Prop where
 Ju:∀i∈pre,∀e,D.bT[i]? =some e->e.1≠a
 cK:Y.1[q]? =some (.cells #[.int .u16 a] 39 (0,0))
 cI:Y.1[q+1]? =some (.cells #[.slice none 0 0] 101 (0,0))
 dG:Y.1[q+1+1]? =some (.cells #[.bool false] 4 (0,0))
 ch:H al w Y
structure ay8(w:M)(D:cb)(q a:Nat)(c:Code)(pre:List Nat)(Y:M):Prop where
 ret:c=.ret
 rH:∃GP x b u,pre=GP++[x]/\(∀i∈GP,∀e,D.bT[i]? =some e->e.1≠a)/\D.bT[x]? =some (a,b)/\b.length=512/\Y.1[q+1]? =some (.cells #[u] 101 (0,0))/\Y.1[q+1+1]? =some (.cells #[.bool true] 4 (0,0))/\bC Y u 512 (br b)/\gr q u/\(∀k,u.ownBlock=some k->k<Y.1.size)
 ch:H al w Y
structure ay9(cB:List (Nat×N))(q:Nat)(x:Nat)(f':Nat->N)(Y:M):Prop where
 bR:f' 3=az q
 ck:f' 4=.pointer (some ⟨q+1,0,none⟩)
 f5:f' 5=.pointer (some ⟨q+1+1,0,none⟩)
 bQ:∃G,f' 7=az G/\Y.1[G]? =some (.cells (rJ (Jt cB x)) 178 (0,0))
theorem ay_(a:Nat)(ao:a<65536)(h:g' w d p n D O z cB bw):bc prog 105 #[az d,.int .u16 a] w λv' w'=>Tn w (D.oI n a) v' w'/\H al w w':=by
 refine bz func105 ntmps105 λbk af=> ?_;simp[go_sem];have Z:=((((H.refl al w).alloc (.cells #[.int .u16 a] 39)).alloc (.cells #[.slice none 0 0] 101)).alloc (.cells #[.bool false] 4));have cK:=alf w (.cells #[.int .u16 a] 39) (.cells #[.slice none 0 0] 101) (.cells #[.bool false] 4);have cI:=alg w (.cells #[.int .u16 a] 39) (.cells #[.slice none 0 0] 101) (.cells #[.bool false] 4);have dG:=alh w (.cells #[.int .u16 a] 39) (.cells #[.slice none 0 0] 101) (.cells #[.bool false] 4);have J:=h.ch Z.drew λ_ _ e=>e;have cU:(((w.alloc (.cells #[.int .u16 a] 39)).alloc (.cells #[.slice none 0 0] 101)).alloc (.cells #[.bool false] 4)).1.size=w.1.size+3:=by simp
 revert Z cK cI dG J cU;generalize((w.alloc (.cells #[.int .u16 a] 39)).alloc (.cells #[.slice none 0 0] 101)).alloc (.cells #[.bool false] 4)=ai;generalize au:w.1.size=q;intro Z cK cI dG J cU;have dB:=λi=>aG cK i;have dl:=λi=>aG cI i;have gL:=λi=>aG dG i;have z4:=λi=>dJ cI i;have z5:=λi=>dJ dG i;have ams:ai.cell? (bl d 5)=some (.map (some z.oH)):=aG J.blk 5;have amt:ai.cell? (bl d 3)=some z.dY:=aG J.blk 3;have ay':∃A c,z.dY=.slice A D.bT.length c:=by
  rcases h.bT.own.2 with⟨aM,bi⟩|⟨g,cap,dF,aM,_⟩
  ·grind
  ·exact⟨_,_,aM⟩
 have pd:∀(x y:N),H al w (((ai.setCell ⟨q+1,0,none⟩ x).setCell ⟨q+1+1,0,none⟩ y).drew):=λx y=>((Z.setCell (p:=⟨q+1,0,none⟩) (.inr (by simp only;omega)) x).setCell (p:=⟨q+1+1,0,none⟩) (.inr (by simp only;omega)) y).drew;obtain⟨aQW,Ba,YE⟩:=J.stuck;have jM:=Ba.oI underlying135 underlying39 (aej ai.drew) a;rw[YE a]at jM;refine cT [F 0,(1,some []),F 2,F 3,F 4,(5,some []),F 6,F 7,F 8,F 9,F 10,F 11,F 12,F 13,F 14,F 15] ?_;simp[go_sem];refine(amh J).mono ?_;rintro _ an ⟨rfl,bM⟩;subst an
 cases bm:D.bY with
 |true=>
  simp[go_sem,dl,gL,z4,z5];exact af _ _ ⟨by simp[cb.oI,bm,Tn],pd _ _⟩
 |false=>
  simp[go_sem,dB];refine(Th a ao J).mono ?_;rintro _ an ⟨rfl,bM⟩;subst an;by_cases kj:a<n
  ·simp[go_sem,kj,ams,dB,jM]
   cases aA:D.stuck a with
   |true=>
    simp[go_sem,dl,gL,z4,z5];exact af _ _ ⟨by simp[cb.oI,aA,Tn],pd _ _⟩
   |false=>
    obtain⟨A,gJ,jB⟩:=ay';have aek:=amt;rw[jB]at aek;simp[go_sem,aek];refine(ay6 _ _ ⟨A,_,gJ,rfl⟩).mono ?_;rintro _ an ⟨rfl,ii⟩;subst ii;simp[go_sem];have so:=((H.refl al ai).alloc (.cells #[.slice A D.bT.length gJ] 134)).drew;have To:(ai.alloc (.cells #[.slice A D.bT.length gJ] 134)).drew.1[ai.1.size]? =_:=cr ai (.cells #[.slice A D.bT.length gJ] 134);have ael:(ai.alloc (.cells #[.slice A D.bT.length gJ] 134)).drew.1.size=q+4:=by simp[cU]
    rw[cU]at To;rw[show ai.1.size=q+3 from cU];have cK:=so.am cK id;have cI:=so.am cI id;have dG:=so.am dG id;have xQ:=Z.trans so;have T:=h.ch xQ λ_ _ e=>e;revert cK cI dG xQ T To ael;generalize(ai.alloc (.cells #[.slice A D.bT.length gJ] 134)).drew=an;intro To ael cK cI dG xQ T;clear so dB dl gL z4 z5 ams amt aek jM Ba pd J;have amu:=T.bT.own;rw[jB]at amu;have EG:∀k,z.dY.ownBlock=some k->k<q:=λk r=>by have:=nK h.bT.own k r;omega
    rw[jB]at EG;obtain⟨fT,jM⟩:∃V,V=D.oI n a:=⟨_,rfl⟩;rw[<-jM]at af;have aem:fT=D.Pp a:=by
     rw[jM];unfold cb.oI
     grind
    clear jM;refine Ys (ayZ (q+3) D.bT.length _ cB an (λk=>k=q+1\/k=q+1+1) amu T.bT.len To (by omega) (λk r e=>by have:=EG k r;omega)) (H.refl _ _) rfl rfl (by kernel_rfl) (λk r=>by omega)
     (ay7 w D q a) (ay8 w D q a) (ay9 cB q) ?_ ?_ ?_ ?_ ?_ ?_ ?_ ?_
    ·exact λpre Y bG g ax=>⟨g.Ju,ax.blk g.cK,ax.blk g.cI,ax.blk g.dG,ax.xN g.ch xQ.size⟩
    ·rintro c pre Y bG ⟨cC,⟨GP,x,b,u,cj,cp,cy,d',cO,cA,jp,eG,Jv⟩,CH⟩ ax;exact⟨cC,⟨GP,x,b,u,cj,cp,cy,d',ax.blk cO,ax.blk cA,ax.dR jp,eG,λk r=>gQ (Jv k r) ax.ch.size⟩,ax.xN CH xQ.size⟩
    ·rintro x f' Y bG ⟨cC,cj,cp,G,cy,cO⟩ ax;exact⟨cC,cj,cp,G,cy,ax.blk cO⟩
    ·exact⟨by simp,cK,cI,dG,xQ⟩
    ·intro pre x Y g;have aU:=(H.refl al Y).alloc (.cells (rJ (Jt cB x)) 178);obtain⟨jv,gM,m',lD,bM,_⟩:=amr h.bT x;rw[bM]at aU;simp[go_sem,aeh,rJ,bM];exact⟨aU,⟨g.Ju,aU.am g.cK id,aU.am g.cI id,aU.am g.dG id,g.ch.trans aU⟩,by simp,by simp,by simp,_,by simp;rfl,by rw[bM];exact cr _ _⟩
    ·rintro pre x f' Y g ⟨Ml,amv,aen,G,EH,aza⟩;have bh:=λi=>aG g.cK i;have aeo:=λi=>aG aza i;obtain⟨jv,gM,m',lD,bM,Tp⟩:=amr h.bT x;rw[bM]at aeo;by_cases azb:jv=a
     ·subst azb;rcases Tp with⟨_,bi⟩|⟨b,amw,azc⟩
      ·omega
      have aep:b.length=512:=(h.ok.bT _ (ib amw)).1;have azd:=azc.ch g.ch λ_ _ e=>e;simp[go_sem,Ml,EH,bh,aeo,rJ];refine(GN _ 512 b Y (by omega) aep (by rw[<-aep];exact azd.1)).mono ?_;rintro v3 aJ ⟨lm,aI,bR⟩;have iV:=λi=>aG (aI.am g.cI id) i;have wd:=λi=>aG (aI.am g.dG id) i;have oz:=λi=>dJ (aI.am g.cI id) i;have rB:=λi=>dJ (aI.am g.dG id) i;obtain⟨aeq,aer,zl⟩:∃A c,v3=.slice A 512 c:=by
       obtain⟨A,c,e,_⟩:=bC.fF lm;exact⟨A,c,e⟩
      subst zl;simp[go_sem,amv,aen,iV,wd,oz,rB];have zm:H (λk=>k=q+1\/k=q+1+1) aJ ((aJ.setCell ⟨q+1,0,none⟩ (.slice aeq 512 aer)).setCell ⟨q+1+1,0,none⟩ (.bool true)):=((H.refl _ aJ).setCell (p:=⟨q+1,0,none⟩) (.inl (.inl rfl)) _).setCell (p:=⟨q+1+1,0,none⟩) (.inl (.inr rfl)) _;have aze:=(lt_of_block g.dG:q+1+1<Y.1.size);refine⟨(aI.mono λ_ _ e=>e.elim).trans zm,rfl,⟨pre,x,b,.slice aeq 512 aer,rfl,g.Ju,amw,aep,?_,?_,?_,?_,?_⟩,?_⟩
      ·rw[wH _ _ _ _ (by simp),eU,aI.am g.cI id];rfl
      ·rw[eU,wH _ _ _ _ (by simp),aI.am g.dG id];rfl
      ·exact(bC.fF lm).ch zm λk r e=>by have:=bR k r;omega
      ·exact bR.mono (by omega)
      ·exact λk r=>gQ (nK lm k r) zm.size
      ·exact(g.ch.trans aI).bZ zm λj I e=>by omega
     ·have dn:((jv:Int)==(a:Int))=false:=hv (by omega);simp[go_sem,Ml,EH,bh,aeo,rJ,dn];refine⟨H.refl _ _,?_,g.cK,g.cI,g.dG,g.ch⟩;intro i ad e aV;rw[hP,sc]at ad;rcases ad with ad|ad
      ·exact g.Ju i ad e aV
      grind
    ·intro qn Y dX g oJ;have mE:qo D.bT a=none:=YF λe aV=>by
      obtain⟨i,ad⟩:=vf.1 aV;refine g.Ju i ?_ e ad;have:=(jG.1 ad).1;simp[GO,this]
     have fX:=h.ch g.ch λ_ _ e=>e;have azf:Y.cell? (bl d 4)=some (.map (some z.bb)):=aG fX.blk 4;have xx:=λi=>aG g.cK i;have iV:=λi=>aG g.cI i;have wd:=λi=>aG g.dG i;have oz:=λi=>dJ g.cI i;have rB:=λi=>dJ g.dG i;obtain⟨aQX,IX,azg⟩:=(fX.ch (H.refl al Y).drew λ_ _ e=>e).dN;have Tq:=IX.oI underlying135 underlying39 (aej Y.drew) a;rw[azg a]at Tq;simp[go_sem];refine cT [F 0,F 1,F 2,F 3,F 4,F 5] ?_;simp[go_sem,azf,xx,Tq];have dn:qn≠q+1/\qn≠q+1+1:=⟨(λe=>by rw[e,g.cI]at oJ;cases oJ),(λe=>by omega)⟩
     cases uv:D.dN a with
     |true=>
      have zn:fT=none:=by rw[aem,cb.Pp,mE];simp[uv]
      rw[zn]at af;have ex:((((Y.setCell ⟨q+1,0,none⟩ (.slice none 0 0)).setCell ⟨q+1+1,0,none⟩ (.bool false)).drew).putObj qn (.deferred none)).1[q+1]? =some (.cells #[.slice none 0 0] 101 (0,0)):=by
       rw[ze dn.1.symm];show((Y.setCell ⟨q+1,0,none⟩ (.slice none 0 0)).setCell ⟨q+1+1,0,none⟩ (.bool false)).1[q+1]? =_;rw[wH _ _ _ _ (by simp),eU,g.cI];rfl
      have fJ:((((Y.setCell ⟨q+1,0,none⟩ (.slice none 0 0)).setCell ⟨q+1+1,0,none⟩ (.bool false)).drew).putObj qn (.deferred none)).1[q+1+1]? =some (.cells #[.bool false] 4 (0,0)):=by
       rw[ze dn.2.symm];show((Y.setCell ⟨q+1,0,none⟩ (.slice none 0 0)).setCell ⟨q+1+1,0,none⟩ (.bool false)).1[q+1+1]? =_;rw[eU,wH _ _ _ _ (by simp),g.dG];rfl
      have qd:=λi=>aG ex i;have Ax:=λi=>aG fJ i;simp[go_sem,iV,wd,oz,rB,Ez,dn,oJ,qd,Ax];exact af _ _ ⟨rfl,((((g.ch.setCell (p:=⟨q+1,0,none⟩) (.inr (by show w.1.size<=q+1;omega)) _).setCell (p:=⟨q+1+1,0,none⟩) (.inr (by grind)) _).drew).putObj (.inr (by have:=xQ.size;omega)) _)⟩
     |false=>
      have zn:fT=some (kC D.m a):=by rw[aem,cb.Pp,mE];simp[uv]
      rw[zn]at af;simp[go_sem,xx];refine(aml a (fX.ch (H.refl al Y).drew λ_ _ e=>e)).mono ?_;rintro v3 aJ ⟨iC,qL,aI⟩;simp[go_sem];refine(GN v3 512 (kC D.m a) aJ (by omega) qL iC).mono ?_;rintro v4 bs ⟨nC,bo,ck⟩;have zm:H al Y bs:=(H.hR aI).trans bo;have aze:=(lt_of_block g.dG:q+1+1<Y.1.size);have cy:=zm.am g.cI id;have cO:=zm.am g.dG id;have Pq:=zm.obj oJ id;have GQ:=λi=>aG cy i;have azh:=λi=>aG cO i;have rE:=λi=>dJ cy i;have sg:=λi=>dJ cO i;obtain⟨Bb,Mm,Tr⟩:∃A c,v4=.slice A 512 c:=by
       obtain⟨A,c,e,_⟩:=bC.fF nC;exact⟨A,c,e⟩
      subst Tr;have ex:(((bs.setCell ⟨q+1,0,none⟩ (.slice Bb 512 Mm)).setCell ⟨q+1+1,0,none⟩ (.bool true)).putObj qn (.deferred none)).1[q+1]? =some (.cells #[.slice Bb 512 Mm] 101 (0,0)):=by
       rw[ze dn.1.symm,wH _ _ _ _ (by simp),eU,cy];rfl
      have fJ:(((bs.setCell ⟨q+1,0,none⟩ (.slice Bb 512 Mm)).setCell ⟨q+1+1,0,none⟩ (.bool true)).putObj qn (.deferred none)).1[q+1+1]? =some (.cells #[.bool true] 4 (0,0)):=by
       rw[ze dn.2.symm,eU,wH _ _ _ _ (by simp),cO];rfl
      have qd:=λi=>aG ex i;have Ax:=λi=>aG fJ i;have YG:H (λk=>k=q+1\/k=q+1+1) bs ((bs.setCell ⟨q+1,0,none⟩ (.slice Bb 512 Mm)).setCell ⟨q+1+1,0,none⟩ (.bool true)):=((H.refl _ bs).setCell (p:=⟨q+1,0,none⟩) (.inl (.inl rfl)) _).setCell (p:=⟨q+1+1,0,none⟩) (.inl (.inr rfl)) _;have CI:((bs.setCell ⟨q+1,0,none⟩ (.slice Bb 512 Mm)).setCell ⟨q+1+1,0,none⟩ (.bool true)).1[qn]? =some (.deferred (some [])):=YG.obj Pq λe=>e.elim dn.1 dn.2;have aQY:aJ.1.size<=bs.1.size:=bo.size;have aQZ:Y.1.size<=aJ.1.size:=(H.hR aI).size;simp[go_sem,GQ,azh,rE,sg,Ez,dn,Pq,qd,Ax];refine af _ _ ⟨⟨_,rfl,qL,((bC.fF nC).ch YG λk r e=>by have:=ck k r;omega).fK λ_ _ Z=>amp CI Z,ck.mono (by omega),λk r=>gQ (nK nC k r) (dK YG.size ((H.refl (aj qn) _).putObj (.inl rfl) _).size)⟩,((g.ch.trans zm).bZ YG λj I e=>by omega).putObj (.inr (by have:=xQ.size;omega)) _⟩
    ·rintro qn c k Y dX r ⟨rfl,⟨GP,x,b,u,cj,cp,cy,d',cO,cA,jp,eG,Jv⟩,CH⟩ oJ;have iV:=λi=>aG cO i;have wd:=λi=>aG cA i;have dn:qn≠q+1/\qn≠q+1+1:=⟨(λe=>by rw[e,cO]at oJ;cases oJ),(λe=>by rw[e,cA]at oJ;cases oJ)⟩;have azi:(Y.putObj qn (.deferred none)).1[q+1]? =_:=(ze dn.1.symm).trans cO;have azj:(Y.putObj qn (.deferred none)).1[q+1+1]? =_:=(ze dn.2.symm).trans cA;have jo:=λi=>aG azi i;have kV:=λi=>aG azj i;obtain⟨aeq,aer,zl,_⟩:=id jp;subst zl;simp[go_sem,Ez,oJ,jo,kV];rw[Tk]at r;have ak:=yN List.length cj;simp only[ol,Tk,kR,qK,OK]at ak;have ox:k=GP.length+1:=by omega
     have W:x=D.bT.length - 1 - GP.length:=by
      have:=yN (λl:List Nat=>l[GP.length]?) cj;simp only[Se,be (show GP.length<k by omega)]at this;rw[aeg (by omega)]at this;simpa using this.symm
     have azk:qo D.bT a=some b:=azl cy λj e I aV=>by
      have iP:=(jG.1 aV).1;refine cp j ?_ e aV;have:=yN (λl:List Nat=>l[D.bT.length - 1 - j]?) cj;simp only[Se,be (show D.bT.length - 1 - j<k by omega)]at this;rw[aeg (by omega),LA (by omega)]at this
      grind
     have zn:fT=some b:=by rw[aem,cb.Pp,azk]
     rw[zn]at af;exact af _ _ ⟨⟨_,rfl,d',jp.fK λ_ _ Z=>amp oJ Z,by rw[au];exact eG,λk r=>gQ (Jv k r) ((H.refl (aj qn) Y).putObj (.inl rfl) _).size⟩,CH.putObj (.inr (by have:=xQ.size;omega)) _⟩
  ·simp[go_sem,kj,dl,gL,z4,z5];exact af _ _ ⟨by simp[cb.oI,show n<=a by omega,Tn],pd _ _⟩
def zo(n:Nat)(D:cb)(P:eL)(a:Nat):Int:=if !D.gb P then 3 else if n<=a then 1 else match D.oI n a with|none=>6|some _=>0
def amx(w:M)(n:Nat)(D:cb)(P:eL)(a:Nat)(v':N)(w':M):Prop:=
 (zo n D P a=0/\∃b u,D.oI n a=some b/\v'=.tuple #[u,aa 0]/\b.length=512/\bC w' u 512 (br b)/\gr w.1.size u/\∀k,u.ownBlock=some k->k<w'.1.size)\/(zo n D P a≠0/\v'=.tuple #[.slice none 0 0,aa (zo n D P a)])
theorem azm(a:Nat)(ao:a<65536)(P:eL)(h:g' w d p n D O z cB bw)(am:ty w p P):bc prog 257 #[az d,.int .u16 a] w λv' w'=>amx w n D P a v' w'/\H al w w':=by
 refine bz func257 ntmps257 λbk af=> ?_;simp[go_sem];refine(ad' P h am).mono ?_;rintro _ ai ⟨rfl,bM⟩;subst ai
 cases gE:D.gb P with
 |false=>
  rw[show vy D P=3 by simp[vy,gE]];simp[go_sem];exact af _ _ ⟨.inr ⟨by simp[zo,gE],by simp[zo,gE]⟩,H.refl _ _⟩
 |true=>
  rw[show vy D P=0 by simp[vy,gE]];simp[go_sem];refine(Th a ao h).mono ?_;rintro _ ai ⟨rfl,bM⟩;subst ai;by_cases kj:a<n
  ·simp[go_sem,kj];refine(ay_ a ao h).mono ?_;rintro fY ai ⟨ak,aY⟩
   cases jM:D.oI n a with
   |none=>
    rw[jM]at ak;simp only[Tn]at ak;subst ak;simp[go_sem];exact af _ _ ⟨.inr ⟨by simp[zo,gE,jM];omega,by simp[zo,gE,jM,show¬n<=a by omega]⟩,aY⟩
   |some b=>
    rw[jM]at ak;obtain⟨u,rfl,mx,lh,qL,Jw⟩:=ak;simp[go_sem];exact af _ _ ⟨.inl ⟨by simp[zo,gE,jM];omega,b,u,jM,rfl,mx,lh,qL,Jw⟩,aY⟩
  ·simp[go_sem,kj];exact af _ _ ⟨.inr ⟨by simp[zo,gE,show n<=a by omega],by simp[zo,gE,show n<=a by omega]⟩,H.refl _ _⟩
end
end Go.Proofs.YtoohkhcpboldjaaGreatDoor
