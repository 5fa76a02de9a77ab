/- Tops: what they are in memory, PutTop, TakeTop, and the law's top. Conditions: the variable ptr.wide holds what the text lays; sizes. -/
import Derived.Test.YtoohkhcpboldjaaGreatDoorStC
set_option linter.unusedSimpArgs false
set_option linter.unusedVariables false
namespace Go.Proofs.YtoohkhcpboldjaaGreatDoor
open Go.RowKit Go.Kin Tryz
theorem auO(a b:Pt):(a==b)=decide (a=b):=rfl
structure qC(has:Pt->List UInt8->Prop)(x:bF)(top h:List Pt)(lf:Nat->Option (List UInt8)):Prop where
 rU:jD has x.V top h
 iw:∀o,o<64->(h.getD o ah=ah/\lf o=none)\/(h.getD o ah≠ah/\(h.getD o ah).k=jQ x.k/\∃b,has (h.getD o ah) b/\lf o=some b)
section
variable {has pX:Pt->List UInt8->Prop}{x:bF}{top h:List Pt}{lf:Nat->Option (List UInt8)}
theorem qC.mono(t:qC has x top h lf)(aC:∀q b,has q b->pX q b):qC pX x top h lf:=⟨t.rU.mono aC,λo av=>(t.iw o av).imp id λ⟨a,k,b,c,d⟩=>⟨a,k,b,aC _ _ c,d⟩⟩
theorem qC.aN(t:qC has x top h lf):∀o,o<64->h.getD o ah≠ah->∃b,has (h.getD o ah) b:=λo av hz=>by
 rcases t.iw o av with⟨e,_⟩|⟨_,_,b,e,_⟩
 ·exact absurd e hz
 ·exact⟨b,e⟩
theorem ajI(n o:Nat):(List.replicate n ah).getD o ah=ah:=by
 grind
theorem qC.z{x:bF}(W:x.V=ah):qC has x eE (List.replicate 64 ah) λ_=>none:=
 ⟨by rw[W];exact jD.z,λo _=>.inl ⟨ajI _ _,rfl⟩⟩
theorem jD.ag5{has:Pt->List UInt8->Prop}{V:Pt}{top h:List Pt}(t:jD has V top h)(ax:V=ah){o:Nat}(av:o<64):h.getD o ah=ah:=by
 have bj:=t.jC.iff.1 ax;have aH:=t.cN (o / 8) (by omega);rw[bj,NS]at aH;have e:=aH.iff.1 rfl;have J:=Nt (g:=o / 8) (k:=o%8) (h:=h) (by omega);rw[e,NS,show 8*(o / 8)+o%8=o by omega]at J;exact J.symm
theorem auP(h:List Pt){y:Pt}(ar:y≠ah):∀k,k<=h.length->((BN h k).map (·.2)).count y=(h.take k).count y
 |0,_=>by simp[BN]
 |k+1,r=>by
  have e:h.take (k+1)=h.take k++[h.getD k ah]:=by
   rw[nA,lk,d_ (by omega)];rfl
  rw[aK8,AC,AE,auP h ar k (by omega),e,AE]
  grind
theorem aMN{V:Pt}{t:List Pt}(ax:V=ah->t=eE){y:Pt}(ar:y≠ah):(Ie V t).count y=(if V=y then 1 else 0)+t.count y:=by
 unfold Ie;by_cases h:V=ah
 ·rw[be h,ax h,aQ (by rw[h];exact Ne.symm ar)];unfold eE
  grind
 ·rw[aQ h,OM,auO];have:(t.filter λp=>decide (p≠ah)).count y=t.count y:=by
   simp_all
  grind
theorem auQ{y:Pt}(ar:y≠ah):pr ah eE (List.replicate 64 ah) y=0:=by
 unfold pr eE
 grind
theorem jD.count{bO:Pt}(t:jD has bO top h){y:Pt}(ar:y≠ah):((BN h 64).map (·.2)++Ie bO top).count y=pr bO top h y:=by
 rw[AE,auP h ar 64 (by rw[t.ak];exact c_ _),aMN t.jC.iff.1 ar,mP (by rw[t.ak];exact c_ _)];unfold pr;omega
end
section
variable {aF:Type}(S:iA aF)
def uA(s:aF)(bO:Pt):aF×Unit×Int:=
 let t:=lS S.rd s bO
 if t.2.2.2≠0 then(t.1,(),t.2.2.2)else((t.2.1.map (·.2)++t.2.2.1).foldl S.ca t.1,(),0)
def lT(kind num off:Nat):Pt:=⟨jQ kind,0,num,off,0,List.replicate 32 0,[0,0,0,0]⟩
def nb(kind num:Nat):List (Nat×List UInt8)->aF->List (Nat×Pt)->aF×List (Nat×Pt)×Int
 |[],s,cm=>(s,cm,0)
 |(o,b)::l,s,cm=>if b=[]then nb kind num l s (cm++[(o,ah)])else
   if(S.nw s (lT kind num o) b).2.2≠0 then((S.nw s (lT kind num o) b).1,[],(S.nw s (lT kind num o) b).2.2)else nb kind num l (S.nw s (lT kind num o) b).1 (cm++[(o,(S.nw s (lT kind num o) b).2.1)])
def na(table:Pt)(own:Option bF)(wiped:Bool)(ch:List (Nat×List UInt8))(num:Nat)(s:aF):aF×(Nat×bF)×Int:=
 let w:=kI S.rd s table num
 if w.2.2≠0 then(w.1,(0,bp),w.2.2)else
 let i':=own.getD w.2.1;let c:=if wiped=true\/i'=bp then uA S w.1 w.2.1.V else(w.1,(),0)
 if c.2.2≠0 then(c.1,(0,bp),c.2.2)else
 if i'=bp then(c.1,(num,bp),0)else
 let k:=nb S i'.k num ch c.1 []
 if k.2.2≠0 then(k.1,(0,bp),k.2.2)else
 let t:=rc S.rd S.nw S.ca num k.1 (if wiped=true then ah else w.2.1.V) k.2.1
 (t.1,(num,{i' with V:=t.2.1}),t.2.2)
variable {S}{s bK cR:aF}{m g gD cC gc cj:List Pt}{bO p:Pt}{top h n:List Pt}{v:List bF}{lf:Nat->Option (List UInt8)}{x:bF}
theorem auR(L:S.Laws):∀(l:List Pt) (s:aF),S.ok s->(∀p∈l,∃b,S.has s p b)->S.fO s (l.foldl S.ca s) [] l
 |[],s,av,_=>iA.fO.refl av
 |p::l,s,av,ak=>by
  obtain⟨b,ab⟩:=ak p (by simp);have J:=L.ca s p b av ab;have T:=auR L l (S.ca s p) J.ok λq au=>by
   obtain⟨c,Z⟩:=ak q (by simp[au]);exact⟨c,J.has _ _ Z⟩
  simpa using J.trans T
theorem aMO(L:S.Laws)(av:S.ok s)(t:jD (S.has s) bO top h)(aN:∀o,o<64->h.getD o ah≠ah->∃b,S.has s (h.getD o ah) b):
  (∃s' g,uA S s bO=(s',(),0)/\S.fO s s' [] g/\∀y,y≠ah->g.count y=pr bO top h y)\/S.uZ s 0 (uA S s bO):=by
 unfold uA;rcases t.all L av with⟨aL,aR⟩|⟨s',e,aL,aR⟩
 ·have aW:(lS S.rd s bO).2.2.2=0:=by rw[aR]
  have bg:(lS S.rd s bO).2.1=BN h 64:=by rw[aR]
  have bR:(lS S.rd s bO).2.2.1=Ie bO top:=by rw[aR]
  simp only[aW,bg,bR,ne_eq,not_true_eq_false,if_false];refine .inl ⟨_,_,rfl,aL.trans (auR L _ _ aL.ok λp am=> ?_),λy ar=>t.count ar⟩;rcases hP.1 am with am|am
  ·obtain⟨z,hz,rfl⟩:=lF.1 am;unfold BN at hz;obtain⟨o,sy,zF⟩:=Xz.1 hz;have sy:=wl.1 sy;by_cases nR:h.getD o ah=ah
   ·grind
   ·rw[aQ nR]at zF;obtain⟨b,ab⟩:=aN o sy nR
    cases zF
    exact⟨b,aL.has _ _ ab⟩
  ·rcases(aLa t.jC.fx.len t.jC.iff.1 p).1 am with⟨J,rfl⟩|⟨G,fD,rfl,T⟩
   ·rcases t.jC.dI with⟨e,_⟩|⟨_,_,ab,_⟩
    ·exact absurd e J
    ·exact⟨_,aL.has _ _ ab⟩
   ·rcases(t.cN G fD).dI with⟨e,_⟩|⟨_,_,ab,_⟩
    ·exact absurd e T
    ·exact⟨_,aL.has _ _ ab⟩
 grind
theorem aMP{kind num off:Nat}(r:kind=1\/kind=2\/kind=3)(aq:num<65536)(av:off<64):HI (lT kind num off):=by
 have J:1<=jQ kind/\jQ kind<=2:=by rcases r with rfl|rfl|rfl<;>decide
 refine⟨⟨?_,by show 0<256;decide,aq,?_,by show(0:Nat)<_;decide,rfl,rfl,by simp[lT]⟩,.inr ⟨J.1,?_,?_,rfl⟩⟩
 ·show jQ kind<256;omega
 ·show off<4294967296;omega
 ·show jQ kind<=5;omega
 ·show jQ kind≠3;omega
structure aMQ(aaW:Nat)(has:Pt->List UInt8->Prop)(ch:List (Nat×List UInt8))(cm:List (Nat×Pt)):Prop where
 fst:cm.map (·.1)=ch.map (·.1)
 jq:∀o b,(o,b)∈ch->∃p,(o,p)∈cm/\((b=[]/\p=ah)\/(b≠[]/\p≠ah/\p.k=aaW/\has p b))
theorem ajJ(L:S.Laws){kind num:Nat}(r:kind=1\/kind=2\/kind=3)(aq:num<65536):∀(ch:List (Nat×List UInt8)) (s:aF) (cm:List (Nat×Pt)),S.ok s->(∀c∈ch,c.1<64/\(c.2=[]\/c.2.length=512))->
  (∃s' BP m,nb S kind num ch s cm=(s',cm++BP,0)/\S.fO s s' m []/\aMQ (jQ kind) (S.has s') ch BP/\(∀z∈BP,z.2=ah\/((∃b,S.has s' z.2 b)/\∀c,¬S.has s z.2 c))/\m.length<=ch.length/\(∀y∈m,y.k=jQ kind)/\∀y,y≠ah->m.count y=(BP.map (·.2)).count y)\/
  S.uZ s (ch.length*fE (jQ kind)) (nb S kind num ch s cm)
 |[],s,cm,av,_=>.inl ⟨s,[],[],by simp[nb],iA.fO.refl av,⟨rfl,by simp⟩,by simp,by simp,by simp,by simp⟩
 |(o,b)::l,s,cm,av,Z=>by
  have tD:=Z (o,b) (by simp);unfold nb;by_cases ab:b=[]
  ·rw[be ab];rcases ajJ L r aq l s (cm++[(o,ah)]) av (λc qy=>Z c (by simp[qy]))with⟨cR,NU,gc,aR,cX,iw,fr,JI,kd,xH⟩|e
   ·refine .inl ⟨cR,(o,ah)::NU,gc,by grind,cX,⟨by simp[iw.fst],λgg b' aC=> ?_⟩,λz hz=> ?_,by rw[qK];omega,kd,λy ar=> ?_⟩
    ·rcases io.1 aC with e|aC
     ·grind
     ·obtain⟨p,J,T⟩:=iw.jq gg b' aC
      grind
    ·grind
    grind
   ·exact .inr (e.mono (by rw[qK,Sq];omega))
  ·rw[aQ ab];have cu:b.length=512:=tD.2.resolve_left ab;rcases L.nw s (lT kind num o) b av (aMP r aq tD.1) cu with⟨q,aL,es,au,Rx,auS⟩|e
   ·have DK:q≠ah:=λe=>by
     have:=(L.ae _ _ _ es.ok au).2.1;rw[e]at this;exact absurd this (by decide)
    have aW:(S.nw s (lT kind num o) b).2.2=0:=by rw[aL]
    have bg:(S.nw s (lT kind num o) b).2.1=q:=by rw[aL]
    rw[aQ (by rw[aW];simp),bg];rcases ajJ L r aq l (S.nw s (lT kind num o) b).1 (cm++[(o,q)]) es.ok (λc qy=>Z c (by simp[qy]))with⟨cR,NU,gc,aR,cX,iw,fr,JI,kd,xH⟩|e
    ·refine .inl ⟨cR,(o,q)::NU,[q]++gc,by rw[aR,nv];rfl,by simpa using es.trans cX,⟨by simp[iw.fst],λgg b' aC=> ?_⟩,λz hz=> ?_,by grind,λy ar=> ?_,λy ar=> ?_⟩
     ·rcases io.1 aC with e|aC
      ·cases e
       exact⟨q,by simp,.inr ⟨ab,DK,Rx.1,cX.has _ _ au⟩⟩
      ·obtain⟨p,J,T⟩:=iw.jq gg b' aC
       grind
     ·rcases io.1 hz with rfl|hz
      ·exact .inr ⟨⟨b,cX.has _ _ au⟩,auS⟩
      ·refine(fr z hz).imp id λ⟨a,c⟩=>⟨a,λd bm=>c d (es.has _ _ bm)⟩
     ·rcases hP.1 ar with ar|ar
      ·rw[sc]at ar;rw[ar];exact Rx.1
      ·exact kd y ar
     grind
    ·refine .inr ((e.after es).mono ?_);have ai:gz [q]=fE (jQ kind):=by
      unfold gz;rw[oq,Rx.1];rfl
     rw[qK,Sq];omega
   ·rw[be e.ne];refine .inr (e.mono ?_);have:fE (lT kind num o).k=fE (jQ kind):=rfl;rw[qK,Sq];omega
def Ns(ch:List (Nat×List UInt8))(o:Nat):Option (List UInt8):=(ch.find? λc=>decide (c.1=o)).map (·.2)
def QW(z wiped:Bool)(ch:List (Nat×List UInt8))(lf:Nat->Option (List UInt8))(o:Nat):Option (List UInt8):=
 if z then none else match Ns ch o with
  |some b=>if b=[]then none else some b
  |none=>if wiped then none else lf o
theorem aa2{ch:List (Nat×List UInt8)}(am:ch.Pairwise λa b=>a.1<b.1){o:Nat}{b:List UInt8}:(o,b)∈ch↔Ns ch o=some b:=by
 unfold Ns
 induction ch with
 |nil=>simp
 |cons c ch bL=>
  have gT:=oW.1 am
  grind
theorem Ni{x:bF}(h:fc x=true)(hz:x≠bp):x.k=1\/x.k=2\/x.k=3:=by
 unfold fc at h
 grind
theorem aMR{x:bF}(h:fc x=true)(hz:x≠bp){V:Pt}(ax:ow V=true):fc {x with V:=V}=true:=by
 have r:=Ni h hz;unfold fc at h⊢
 grind
theorem aMS(L:S.Laws)(av:S.ok s){table:Pt}{dQ aN:List Pt}(t:ob (S.has s) table dQ aN v){num:Nat}(J:1<=num)(T:num<=255)(aM:v.getD num bp=x)(ji:qC (S.has s) x top h lf)
  {own:Option bF}{wiped:Bool}{ch:List (Nat×List UInt8)}(fG:∀n,own=some n->fu n/\fc n=true)(zk:∀c∈ch,c.1<64/\(c.2=[]\/c.2.length=512))(am:ch.Pairwise λa b=>a.1<b.1)(wy:wiped=false->own.getD x≠bp->x.V≠ah->jQ (own.getD x).k=jQ x.k):
  (∃s' hd qx h' m g,na S table own wiped ch num s=(s',(num,hd),0)/\S.fO s s' m g/\fu hd/\fc hd=true/\hd=(if own.getD x=bp then bp else{own.getD x with V:=hd.V})/\
   qC (S.has s') hd qx h' (QW (decide (own.getD x=bp)) wiped ch lf)/\(∀y,y≠ah->pr hd.V qx h' y+g.count y=pr x.V top h y+m.count y)/\
   ∃Ry N',m=Ry++N'/\Ry.length<=ch.length/\N'.length<=ch.length+1/\(ch=[]->N'=[])/\(∀y∈Ry,y.k=jQ (own.getD x).k)/\∀y∈N',y.k=3)\/
  S.uZ s (ch.length*fE (jQ (own.getD x).k)+2*(if ch=[]then 0 else ch.length+1)) (na S table own wiped ch num s):=by
 unfold na;have cG:fu x/\fc x=true:=by rw[<-aM];exact t.fx num
 have Ii:fu (own.getD x)/\fc (own.getD x)=true:=by
  cases u_:own with
  |none=>exact cG
  |some n=>exact fG n u_
 rcases t.get L av J T with⟨aL,aR⟩|e
 ·rw[aM]at aR;have aW:(kI S.rd s table num).2.2=0:=by rw[aR]
  have bg:(kI S.rd s table num).2.1=x:=by rw[aR]
  simp only[aW,bg,ne_eq,not_true_eq_false,if_false];have abX:=ji.mono aL.has;have PK:(∃cR hE,(if wiped=true\/own.getD x=bp then uA S (kI S.rd s table num).1 x.V else((kI S.rd s table num).1,(),0))=(cR,(),0)/\S.fO s cR [] hE/\
    ∀y,y≠ah->hE.count y=if wiped=true\/own.getD x=bp then pr x.V top h y else 0)\/S.uZ s 0 (if wiped=true\/own.getD x=bp then uA S (kI S.rd s table num).1 x.V else((kI S.rd s table num).1,(),0)):=by
   by_cases aH:wiped=true\/own.getD x=bp
   ·simp only[be aH];rcases aMO L aL.ok abX.rU abX.aN with⟨cR,hE,bn,bh,bA⟩|e
    ·exact .inl ⟨cR,hE,bn,by simpa using aL.trans bh,bA⟩
    ·exact .inr (e.BO aL)
   ·grind
  rcases PK with⟨cR,hE,bn,cX,bA⟩|e
  ·rw[bn];simp only[not_true_eq_false,if_false];by_cases hz:own.getD x=bp
   ·rw[be hz,ou hz];refine .inl ⟨cR,bp,eE,List.replicate 64 ah,[],hE,rfl,cX,jy,by decide,by rw[be hz],?_,λy ar=> ?_,[],[],rfl,by simp,by simp,λ_=>rfl,by simp,by simp⟩
    ·have e:QW true wiped ch lf=λ_=>none:=by funext o;unfold QW;rw[be rfl]
     rw[e];exact qC.z rfl
    ·rw[bA y ar,be (.inr hz)];have:=auQ ar;show pr ah eE _ y+_=_;rw[this];simp
   ·rw[aQ hz,vi hz];have kZ:=Ni Ii.2 hz;rcases ajJ L kZ (num:=num) (by omega) ch cR [] cX.ok zk with⟨iC,cm,jT,ND,iq,iw,fr,JI,kd,xH⟩|e
    ·rw[ND];simp only[xu,not_true_eq_false,if_false];obtain⟨ajK,bi,auT,EE,gs,aMT⟩:∃ajK bi,jD (S.has cR) (if wiped=true then ah else x.V) ajK bi/\(∀o,o<64->bi.getD o ah≠ah->∃b,S.has cR (bi.getD o ah) b)/\
       (∀y,y≠ah->pr (if wiped=true then ah else x.V) ajK bi y+hE.count y=pr x.V top h y)/\
       ∀o,o<64->(bi.getD o ah=ah/\(if wiped=true then none else lf o)=none)\/(bi.getD o ah≠ah/\(bi.getD o ah).k=jQ (own.getD x).k/\∃b,S.has cR (bi.getD o ah) b/\(if wiped=true then none else lf o)=some b):=by
      by_cases bM:wiped=true
      ·refine⟨eE,List.replicate 64 ah,by rw[be bM];exact jD.z,λo _ hz=>absurd (ajI _ _) hz,λy ar=> ?_,λo _=>.inl ⟨ajI _ _,by rw[be bM]⟩⟩;rw[be bM,auQ ar,bA y ar,be (.inl bM)];simp
      ·have abY:=ji.mono cX.has;refine⟨top,h,by rw[aQ bM];exact abY.rU,abY.aN,λy ar=> ?_,λo av=> ?_⟩
       ·grind
       ·simp only[aQ bM];rcases abY.iw o av with k|⟨bn,bh,bA⟩
        ·exact .inl k
        ·refine .inr ⟨bn,?_,bA⟩;rw[bh];by_cases ax:x.V=ah
         ·exact absurd (abY.rU.ag5 ax av) bn
         grind
     have aMU:∀z∈cm,z.1<64:=λz zi=>by
      have aC:z.1∈cm.map (·.1):=lF.2 ⟨z,zi,rfl⟩;rw[iw.fst]at aC
      grind
     have auU:cm.Pairwise λa b=>a.1<b.1:=by
      have:=Sl.2 am;rw[<-iw.fst]at this;exact Sl.1 this
     rcases(auT.mono iq.has).set L iq.ok (obj:=num) (by omega) auU aMU (λo av zi=>by
      obtain⟨b,ab⟩:=EE o av zi;exact⟨b,iq.has _ _ ab⟩) (λz zi=>by
      grind)with⟨jo,V,xy,qd,cy,si,vk,ajL,Jw,aLk,tb,aMV,aTB⟩|e
     ·have yy:ow V=true:=by
       have:=ajL.HL;unfold uu at this;unfold ow;simpa using this
      rw[si];refine .inl ⟨jo,{own.getD x with V:=V},xy,lC bi cm,jT++qd,hE++cy,rfl,?_,?_,aMR Ii.2 hz yy,by rw[aQ hz],⟨ajL,λo av=> ?_⟩,λy ar=> ?_,jT,qd,rfl,JI,?_,λe=> ?_,kd,aMV⟩
      ·simpa using(cX.trans iq).trans vk
      ·refine⟨Ii.1.k,Ii.1.n,Ii.1.s,?_⟩;rcases ajL.jC.dI with⟨e,_⟩|⟨_,_,ab,_⟩
       ·show cc V;rw[e];exact cH
       ·exact(L.ae _ _ _ vk.ok ab).1
      ·unfold QW;simp only[wk,if_false]
       cases Z:Ns ch o with
       |some b=>
        obtain⟨p,gT,ph⟩:=iw.jq o b ((aa2 am).2 Z);have e:(lC bi cm).getD o ah=p:=by
         rw[Wg];exact We ah cm bi auU (o,p) gT (by rw[auT.ak];exact av)
        simp only;rw[e];rcases ph with⟨a,b'⟩|⟨a,b',xG,c⟩
        ·grind
        ·rw[aQ a];exact .inr ⟨b',xG,b,vk.has _ _ c,rfl⟩
       |none=>
        have e:(lC bi cm).getD o ah=bi.getD o ah:=by
         rw[Wg];refine NT ah cm bi o λz zi e=> ?_;have aC:z.1∈cm.map (·.1):=lF.2 ⟨z,zi,rfl⟩;rw[iw.fst]at aC;obtain⟨c,pC,aR⟩:=lF.1 aC;have:(o,c.2)∈ch:=by rw[<-e,<-aR];exact pC
         rw[aa2 am,Z]at this
         cases this
        simp only;rw[e];exact(aMT o av).imp id λ⟨a,k,b,c,d⟩=>⟨a,k,b,vk.has _ _ (iq.has _ _ c),d⟩
      ·grind
      ·have:cm.length=ch.length:=by rw[<-oV (f:=λz:Nat×Pt=>z.1),iw.fst,oV]
       omega
      ·apply tb;have:cm.map (·.1)=[]:=by rw[iw.fst,e];rfl
       simpa using this
     ·refine .inr (((e.after iq).BO cX).mono ?_);have rC:cm.length=ch.length:=by rw[<-oV (f:=λz:Nat×Pt=>z.1),iw.fst,oV]
      have ai:gz jT<=ch.length*fE (jQ (own.getD x).k):=by
       rw[Wh kd];exact Sn _ JI
      grind
    ·rw[be e.ne];exact .inr ((iA.ni.BO cX e).mono (by omega))
  ·rw[be e.ne];exact .inr (iA.ni.mono e (gG _))
 ·simp only[e.ne,ne_eq,not_false_eq_true,if_true];exact .inr (iA.ni.mono e (gG _))
end
abbrev BS:=Nat×Pt
structure Bw(x:BS):Prop where
 n:x.1<18446744073709551616
 p:cc x.2
def Ao:BS:=(0,ah)
theorem Qs:Bw Ao:=⟨by decide,cH⟩
def po(x:BS):List UInt8:=ci x.1 8++(kf x.2++dh 440)
theorem afX{x:BS}(ok:cc x.2):(po x).length=512:=by
 simp[po,ku,DR ok,nu]
def t1(b:List UInt8):=dg b 0 8
def el(b:List UInt8):=qc (t1 b).2.1 (t1 b).2.2
def t3(b:List UInt8):=we (el b).2.1 (el b).2.2 (el b).2.1.length
def t4(b:List UInt8):=tf (t3 b).1 (t3 b).2
def Wu(b:List UInt8):BS:=(em (t1 b).1,(el b).1)
theorem aMW(b:List UInt8):Bw (Wu b):=⟨JC b 0 8,Px _ _⟩
def uK(b:List UInt8):BS×Int:=if(t4 b).2=0/\b.length=512 then(Wu b,0)else(Ao,5)
theorem aEe(b:List UInt8):Bw (uK b).1:=by
 unfold uK;split
 ·exact aMW b
 ·exact Qs
def Nu(p:Pt):Bool:=decide (p=ah)||jY p
theorem aMX(n:Nat):qM (dh n)=false:=(acp _).2 (by rw[nu])
theorem aMY(l:List UInt8):we l 0 l.length=if qM l then([],5)else([],0):=by
 unfold we dg om;simp
theorem aIt{x:BS}(ok:Bw x):uK (po x)=if Nu x.2 then(x,0)else(Ao,5):=by
 have ak:=DR ok.p;have cu:=afX ok.p;have aL:t1 (po x)=(ci x.1 8,kf x.2++dh 440,0):=by
  unfold t1 dg;rw[aQ (by simp),aQ (by rw[cu];decide)];unfold po;rfl
 have dk:dg (kf x.2++dh 440) 0 64=(kf x.2,dh 440,0):=by
  unfold dg
  grind
 have bP:em (ci x.1 8)=x.1:=by rw[RM,Cb (by have:=ok.n;simpa using this)]
 have iX:xw (kf x.2)=Nu x.2:=by
  have J:=(akQ (DR ok.p)).1 (by rw[Oq ok.p]);unfold xw Nu;rw[J,Oq ok.p];simp
 have aR:el (po x)=if Nu x.2 then(x.2,dh 440,0)else(ah,[],5):=by
  unfold el;rw[aL];show qc (kf x.2++dh 440) 0=_;unfold qc;rw[dk];simp only[ak,iX,Oq ok.p];rw[aQ (by decide)]
 unfold uK Wu t4 t3;rw[aR,aL,cu]
 cases aH:Nu x.2
 ·rfl
 ·simp only[if_true,aMY,aMX,bP];simp[tf]
def fP(l:List Nat)(f:Nat->Nat):Nat:=(l.map f).sum
theorem pY(n:Nat)(l:List Nat)(f:Nat->Nat):fP (n::l) f=f n+fP l f:=by simp[fP]
theorem Ng{l:List Nat}{f f':Nat->Nat}(h:∀n∈l,f n=f' n):fP l f=fP l f':=by
 unfold fP;rw[xE h]
theorem Kx{l:List Nat}{f f':Nat->Nat}(h:∀n∈l,f n<=f' n):fP l f<=fP l f':=by
 induction l with
 |nil=>exact c_ _
 |cons n l bL=>
  rw[pY,pY]
  grind
theorem aha(l:List Nat)(P:Nat->Bool)(f:Nat->Nat):fP l f=fP (l.filter P) f+fP (l.filter λn=> !P n) f:=by
 induction l with
 |nil=>rfl
 |cons n l bL=>
  rw[pY,Gi,Gi]
  cases P n
  ·simp only[wk,if_false,XG,if_true,pY];omega
  ·simp only[if_true,Sb,wk,if_false,pY];omega
def ke:List Nat:=(List.range 256).filter λn=>decide (1<=n)
theorem Fs{n:Nat}:n∈ke↔1<=n/\n<=255:=by
 unfold ke
 grind
theorem ag_:ke.Pairwise (·<·):=ac8 _ List.pairwise_lt_range
theorem aMZ{nums:List Nat}(am:nums.Pairwise (·<·))(aq:∀n∈nums,1<=n/\n<=255){f f':Nat->Nat}(h:∀n,n∉nums->f' n=f n):fP ke f'+fP nums f=fP ke f+fP nums f':=by
 have e:ke.filter (λn=>decide (n∈nums))=nums:=by
  refine afu (ac8 _ ag_) am λx=> ?_;rw[vh,qf];exact⟨λe=>e.2,λe=>⟨Fs.2 (aq x e),e⟩⟩
 have J:=aha ke (λn=>decide (n∈nums)) f;have T:=aha ke (λn=>decide (n∈nums)) f';rw[e]at J T;have ag:fP (ke.filter λn=> !decide (n∈nums)) f'=fP (ke.filter λn=> !decide (n∈nums)) f:=Ng λn aq=>by
  grind
 omega
section
variable {aF:Type}(S:iA aF)
structure nW where
 own:Nat->Option bF
 wiped:Nat->Bool
 ch:Nat->List (Nat×List UInt8)
structure nW.fL(C:nW):Prop where
 own:∀n x,C.own n=some x->fu x/\fc x=true
 ch:∀n,∀c∈C.ch n,c.1<64/\(c.2=[]\/c.2.length=512)
 aan:∀n,(C.ch n).Pairwise λa b=>a.1<b.1
def sF(table:Pt)(C:nW):List Nat->aF->List (Nat×bF)->aF×List (Nat×bF)×Int
 |[],s,cm=>(s,cm,0)
 |n::l,s,cm=>if(na S table (C.own n) (C.wiped n) (C.ch n) n s).2.2≠0 then((na S table (C.own n) (C.wiped n) (C.ch n) n s).1,[],(na S table (C.own n) (C.wiped n) (C.ch n) n s).2.2)
   else sF table C l (na S table (C.own n) (C.wiped n) (C.ch n) n s).1 (cm++[(na S table (C.own n) (C.wiped n) (C.ch n) n s).2.1])
def vN:Pt:=⟨5,0,0,0,0,List.replicate 32 0,[0,0,0,0]⟩
def mI(gen:Nat)(table top:Pt)(C:nW)(nums:List Nat)(s:aF):aF×(Pt×Pt)×Int:=
 let i:=sF S table C nums s []
 if i.2.2≠0 then(i.1,(ah,ah),i.2.2)else
 let t:=rR S.rd S.nw S.ca i.1 table i.2.1
 if t.2.2≠0 then(t.1,(ah,ah),t.2.2)else
 let p:=S.nw (S.ca t.1 top) vN (po (gen,t.2.1))
 if p.2.2≠0 then(p.1,(ah,ah),p.2.2)else(p.1,(p.2.1,t.2.1),0)
def nW.i'(C:nW)(v:List bF)(n:Nat):bF:=(C.own n).getD (v.getD n bp)
def nW.agD(C:nW)(v:List bF):Prop:=∀n,C.wiped n=false->C.i' v n≠bp->(v.getD n bp).V≠ah->jQ (C.i' v n).k=jQ (v.getD n bp).k
structure nj where
 x:Nat->bF
 uL:Nat->List Pt
 tQ:Nat->List Pt
def nj.eM(O:nj)(y:Pt)(n:Nat):Nat:=pr (O.x n).V (O.uL n) (O.tQ n) y
def nW.lf(C:nW)(v:List bF)(lf:Nat->Nat->Option (List UInt8))(n:Nat):Nat->Option (List UInt8):=QW (decide (C.i' v n=bp)) (C.wiped n) (C.ch n) (lf n)
def nW.uM(C:nW)(v:List bF)(n:Nat):Nat:=(C.ch n).length*fE (jQ (C.i' v n).k)+2*(if C.ch n=[]then 0 else(C.ch n).length+1)
variable {S}{s bK cR:aF}{m g gD cC gc cj:List Pt}{table:Pt}{dQ aN:List Pt}{v:List bF}{lf:Nat->Nat->Option (List UInt8)}{O:nj}{C:nW}
theorem auV(L:S.Laws)(ok:C.fL)(kd:C.agD v):∀(nums:List Nat) (s:aF) (cm:List (Nat×bF)),S.ok s->ob (S.has s) table dQ aN v->nums.Pairwise (·<·)->(∀n∈nums,1<=n/\n<=255)->(∀n∈nums,O.x n=v.getD n bp/\qC (S.has s) (O.x n) (O.uL n) (O.tQ n) (lf n))->
  (∃s',∃O':nj,∃m g,sF S table C nums s cm=(s',cm++nums.map (λn=>(n,O'.x n)),0)/\S.fO s s' m g/\(∀n,n∉nums->O'.x n=O.x n/\O'.uL n=O.uL n/\O'.tQ n=O.tQ n)/\
   (∀n∈nums,fu (O'.x n)/\fc (O'.x n)=true/\O'.x n=(if C.i' v n=bp then bp else{C.i' v n with V:=(O'.x n).V})/\qC (S.has s') (O'.x n) (O'.uL n) (O'.tQ n) (C.lf v lf n))/\
   (∀y,y≠ah->fP nums (O'.eM y)+g.count y=fP nums (O.eM y)+m.count y)/\gz m<=fP nums (C.uM v))\/
  S.uZ s (fP nums (C.uM v)) (sF S table C nums s cm)
 |[],s,cm,av,_,_,_,_=>.inl ⟨s,O,[],[],by simp[sF],iA.fO.refl av,λ_ _=>⟨rfl,rfl,rfl⟩,by simp,λy _=>by simp,by simp[gz]⟩
 |n::l,s,cm,av,t,am,aq,sJ=>by
  have gT:=oW.1 am;have qV:=aq n (by simp);obtain⟨W,ji⟩:=sJ n (by simp);unfold sF;rcases aMS L av t qV.1 qV.2 W.symm ji (own:=C.own n) (wiped:=C.wiped n) (ch:=C.ch n) (ok.own n) (ok.ch n) (ok.aan n) (by rw[W];exact kd n)with⟨bK,es,t1,J,gD,cC,aL,um,cG,aM0,lr,abX,ajM,Ry,N',auW,mx,lh,qL,bn,bh⟩|e
  ·rw[aL];simp only[ne_eq,not_true_eq_false,if_false];have vJ:n∉l:=λh=>by have:=gT.1 n h;omega
   rcases auV L ok kd l bK (cm++[(n,es)]) um.ok (t.mono um.has) gT.2 (λk r=>aq k (by simp[r])) (λk r=>⟨(sJ k (by simp[r])).1,(sJ k (by simp[r])).2.mono um.has⟩)with⟨cR,ka,gc,cj,aR,Ij,out,Kj,ajN,an⟩|e
   ·refine .inl ⟨cR,⟨λk=>if k=n then es else ka.x k,λk=>if k=n then t1 else ka.uL k,λk=>if k=n then J else ka.tQ k⟩,gD++gc,cC++cj,?_,um.trans Ij,λk r=> ?_,λk r=> ?_,λy ar=> ?_,?_⟩
    ·rw[aR,nv,oq];simp only[if_true,List.singleton_append];have:l.map (λk=>(k,if k=n then es else ka.x k))=l.map λk=>(k,ka.x k):=xE λk r=>by
      grind
     rw[this]
    ·grind
    ·by_cases lW:k=n
     ·subst lW;simp only[if_true];refine⟨cG,aM0,?_,?_⟩
      ·unfold nW.i'
       grind
      ·have:=abX.mono Ij.has;rw[W]at this;exact this
     grind
    ·have a1:=ajM y ar;have a2:=ajN y ar;rw[pY,pY,AE,AE];have bt:fP l (nj.eM ⟨λk=>if k=n then es else ka.x k,λk=>if k=n then t1 else ka.uL k,λk=>if k=n then J else ka.tQ k⟩ y)=fP l (ka.eM y):=Ng λk r=>by
      have lW:k≠n:=λe=>vJ (e▸r);unfold nj.eM;simp only[aQ lW]
     have cY:nj.eM ⟨λk=>if k=n then es else ka.x k,λk=>if k=n then t1 else ka.uL k,λk=>if k=n then J else ka.tQ k⟩ y n=pr es.V t1 J y:=by
      unfold nj.eM;simp only[if_true]
     have cK:O.eM y n=pr (O.x n).V (O.uL n) (O.tQ n) y:=rfl;omega
    ·rw[Fq,pY,auW,Fq,Wh bn,Wh bh];have b:Ry.length*fE (jQ ((C.own n).getD (O.x n)).k)<=(C.ch n).length*fE (jQ (C.i' v n).k):=by
      rw[W];exact Sn _ mx
     have cK:fE 3=2:=rfl;have cY:N'.length<=if C.ch n=[]then 0 else(C.ch n).length+1:=by
      by_cases Z:C.ch n=[]
      ·grind
      ·grind
     unfold nW.uM at an⊢;rw[cK];omega
   ·refine .inr ((e.after um).mono ?_);rw[pY,auW,Fq,Wh bn,Wh bh];have b:Ry.length*fE (jQ ((C.own n).getD (O.x n)).k)<=(C.ch n).length*fE (jQ (C.i' v n).k):=by
     rw[W];exact Sn _ mx
    have cK:fE 3=2:=rfl;have cY:N'.length<=if C.ch n=[]then 0 else(C.ch n).length+1:=by
     by_cases Z:C.ch n=[]
     ·grind
     ·grind
    have cI:C.uM v n=(C.ch n).length*fE (jQ (C.i' v n).k)+2*(if C.ch n=[]then 0 else(C.ch n).length+1):=rfl;rw[cK,cI];omega
  ·rw[be e.ne];refine .inr (iA.ni.mono e ?_);rw[pY,W];exact Cd _ _
theorem aM1(v:List bF)(nums:List Nat)(f:Nat->bF)(am:nums.Pairwise (·<·))(aq:∀n∈nums,n<v.length)(n:Nat):(Wf v (nums.map λn=>(n,f n))).getD n bp=if n∈nums then f n else v.getD n bp:=by
 have Ps:(nums.map λn=>(n,f n)).Pairwise λa b=>a.1<b.1:=Sl.2 am;by_cases h:n∈nums
 ·rw[be h];have aC:(n,f n)∈nums.map λn=>(n,f n):=lF.2 ⟨n,h,rfl⟩;exact We bp _ v Ps (n,f n) aC (aq n h)
 ·rw[aQ h];refine NT bp _ v n λx W e=> ?_
  grind
theorem auX:∀(nums:List Nat) (f:Nat->bF) (b:Option Nat),nums.Pairwise (·<·)->(∀n∈nums,1<=n/\n<=255)->(∀n∈nums,fc (f n)=true)->(∀z,b=some z->∀n∈nums,z<n)->wP b (nums.map λn=>(n,f n))=true
 |[],f,b,_,_,_,_=>rfl
 |n::l,f,b,am,aq,aC,ab=>by
  have gT:=oW.1 am;rw[oq,abw,ou (aq n (by simp)),aC n (by simp),auX l f (some n) gT.2 (λk r=>aq k (by simp[r])) (λk r=>aC k (by simp[r])) (λz hz k r=>by cases hz;exact gT.1 k r)]
  grind
structure qw(has:Pt->List UInt8->Prop)(table:Pt)(dQ aN:List Pt)(v:List bF)(O:nj)(lf:Nat->Nat->Option (List UInt8)):Prop where
 kp:ob has table dQ aN v
 x:∀n,1<=n->n<=255->O.x n=v.getD n bp
 ji:∀n,1<=n->n<=255->qC has (O.x n) (O.uL n) (O.tQ n) (lf n)
theorem qw.mono{has pX:Pt->List UInt8->Prop}(c:qw has table dQ aN v O lf)(aC:∀q b,has q b->pX q b):qw pX table dQ aN v O lf:=⟨c.kp.mono aC,c.x,λn J T=>(c.ji n J T).mono aC⟩
def yi(top table:Pt)(dQ aN:List Pt)(O:nj)(y:Pt):Nat:=(if top=y then 1 else 0)+pr table dQ aN y+fP ke (O.eM y)
theorem aoS:HI vN:=⟨⟨by decide,by decide,by decide,by decide,by decide,rfl,rfl,by simp[vN]⟩,.inr ⟨by decide,by decide,by decide,rfl⟩⟩
theorem ajO(l:List (Nat×bF)):(lU l).length<=l.length:=by
 have J:∀(os:List Nat),os.Pairwise (·<·)->(∀o∈os,fj l o≠[])->os.length<=l.length:=by
  intro os am av;have T:∀(os:List Nat),os.Pairwise (·<·)->∀l:List (Nat×bF),(∀o∈os,fj l o≠[])->os.length<=l.length:=by
   intro os
   induction os with
   |nil=>grind
   |cons o os bL=>
    intro am l av;have gT:=oW.1 am;have ag:=bL gT.2 (l.filter λx=>decide (x.1 / 4≠o)) λgg u_=>by
     have:=av gg (by simp[u_]);have dn:gg≠o:=by have:=gT.1 gg u_;omega
     intro e;apply this;unfold fj at e⊢;rw[ac1]at e
     grind
    have aP:(l.filter λx=>decide (x.1 / 4≠o)).length+(fj l o).length=l.length:=by
     unfold fj;clear av ag bL
     induction l with
     |nil=>rfl
     |cons x l bL=>
      grind
    have bH:(fj l o).length≠0:=λe=>av o (by simp) (wh e)
    grind
  exact T os am l av
 exact J _ (afv l) λo av=>(TV.1 av).2
theorem apY(L:S.Laws)(ok:C.fL)(kd:C.agD v)(av:S.ok s){top:Pt}{gen:Nat}(IY:gen<18446744073709551616)(c:qw (S.has s) table dQ aN v O lf)(yk:top=ah\/∃b,S.has s top b){nums:List Nat}(am:nums.Pairwise (·<·))(aq:∀n∈nums,1<=n/\n<=255)
  (KV:∀n,1<=n->n<=255->n∉nums->C.own n=none/\C.wiped n=false/\C.ch n=[]):
  (∃s' qx Wv yj rv v',∃O':nj,∃m g,mI S gen table top C nums s=(s',(qx,Wv),0)/\S.fO s s' m g/\S.has s' qx (po (gen,Wv))/\qx.k=5/\qw (S.has s') Wv yj rv v' O' (λn=>if n∈nums then C.lf v lf n else lf n)/\cc Wv/\
   (∀n,1<=n->n<=255->n∉nums->O'.x n=O.x n)/\(∀n∈nums,O'.x n=(if C.i' v n=bp then bp else{C.i' v n with V:=(O'.x n).V}))/\
   (∀y,y≠ah->yi qx Wv yj rv O' y+g.count y=yi top table dQ aN O y+m.count y)/\gz m<=fP nums (C.uM v)+2*(nums.length+10)/\qx∈m)\/
  S.uZ s (fP nums (C.uM v)+2*(nums.length+10)) (mI S gen table top C nums s):=by
 unfold mI;rcases auV L ok kd (O:=O) (lf:=lf) nums s [] av c.kp am aq (λn h=>⟨c.x n (aq n h).1 (aq n h).2,c.ji n (aq n h).1 (aq n h).2⟩)with⟨bK,gK,gD,cC,aL,um,out,Kj,ajM,ai⟩|e
 ·rw[aL];simp only[xu,ne_eq,not_true_eq_false,if_false];have fs:=auX nums gK.x none am aq (λn h=>(Kj n h).2.1) (λz hz=>by cases hz);rcases(c.kp.mono um.has).set L um.ok fs (λx W=>by
   obtain⟨n,h,rfl⟩:=lF.1 W;exact⟨by grind,(Kj n h).1⟩)with⟨cR,V,el,T,gc,cj,aR,Ij,auY,lh,bh,ajN⟩|e
  ·rw[aR];simp only[not_true_eq_false,if_false];have ajP:=um.trans Ij;obtain⟨cp,Rz,Nx⟩:∃cp,S.fO cR (S.ca cR top) [] cp/\∀y,y≠ah->cp.count y=if top=y then 1 else 0:=by
    by_cases hz:top=ah
    ·refine⟨[],by rw[hz];exact L.agt cR Ij.ok,λy ar=> ?_⟩
     grind
    ·obtain⟨b,ab⟩:=yk.resolve_left hz;refine⟨[top],L.ca cR top b Ij.ok (ajP.has _ _ ab),λy _=> ?_⟩;simp[OM,auO]
   have xb:cc V:=by
    rcases auY.oO.jC.dI with⟨e,_⟩|⟨_,_,ab,_⟩
    ·rw[e];exact cH
    ·exact(L.ae _ _ _ Ij.ok ab).1
   rcases L.nw (S.ca cR top) vN (po (gen,V)) Rz.ok aoS (afX (x:=(gen,V)) xb)with⟨q,dl,abZ,au,Rx,auS⟩|e
   ·have aW:(S.nw (S.ca cR top) vN (po (gen,V))).2.2=0:=by rw[dl]
    have bg:(S.nw (S.ca cR top) vN (po (gen,V))).2.1=q:=by rw[dl]
    rw[aQ (by rw[aW];simp),bg];have aM:∀n,(Wf v (nums.map λn=>(n,gK.x n))).getD n bp=if n∈nums then gK.x n else v.getD n bp:=λn=>aM1 v nums gK.x am (λn h=>by rw[c.kp.ak];have:=aq n h;omega) n
    refine .inl ⟨_,q,V,el,T,_,gK,gD++gc++[]++[q],cC++cj++cp++[],rfl,(ajP.trans Rz).trans abZ,au,Rx.1,⟨(auY.mono Rz.has).mono abZ.has,λn J T=> ?_,λn J T=> ?_⟩,xb,λn J T h=>(out n h).1,λn h=>(Kj n h).2.2.1,λy ar=> ?_,?_,by simp⟩
    ·rw[aM];by_cases h:n∈nums
     ·rw[be h]
     ·rw[aQ h,(out n h).1];exact c.x n J T
    ·by_cases h:n∈nums
     ·simp only[be h];exact(((Kj n h).2.2.2.mono Ij.has).mono Rz.has).mono abZ.has
     ·simp only[aQ h];obtain⟨nL,hr,lm⟩:=out n h;rw[nL,hr,lm];exact((((c.ji n J T).mono um.has).mono Ij.has).mono Rz.has).mono abZ.has
    ·have a1:=ajM y ar;have a2:=ajN y ar;have a3:=Nx y ar;have a4:=aMZ am aq (f:=O.eM y) (f':=gK.eM y) (λn h=>by
      unfold nj.eM
      grind)
     unfold yi
     grind
    ·rw[Fq,Fq,Fq];have bt:gz gc<=gc.length*2:=Rq λp am=>by
      rcases bh p am with e|e<;>rw[e]<;>decide
     have cY:gz [q]=2:=by
      unfold gz;rw[oq,Rx.1];rfl
     have cK:=ajO (nums.map λn=>(n,gK.x n));rw[oV]at cK;have cI:gz []=0:=rfl;omega
   ·rw[be e.ne];refine .inr ((iA.ni.after (ajP.trans Rz) e).mono ?_);rw[Fq,Fq];have bt:gz gc<=gc.length*2:=Rq λp am=>by
     rcases bh p am with e|e<;>rw[e]<;>decide
    have cY:fE vN.k=2:=rfl;have cK:=ajO (nums.map λn=>(n,gK.x n));rw[oV]at cK;have cI:gz []=0:=rfl;omega
  ·rw[be e.ne];refine .inr ((iA.ni.after um e).mono ?_);have cK:=ajO (nums.map λn=>(n,gK.x n))
   grind
 ·rw[be e.ne];exact .inr (iA.ni.mono e (by omega))
end
def Oa(x:BS):List N:=.int .u64 x.1::(ae x.2).toList
def iU(x:BS):Array N:=(Oa x).toArray
section
variable {x:BS}
theorem Fr(ok:Bw x):(iU x).size=42:=by
 have:=cd ok.p;simp[iU,Oa,this]
theorem UL(ok:Bw x):(iU x).extract 0 42=iU x:=by rw[<-Fr ok];simp
theorem apS:(iU x)[0]? =some (.int .u64 x.1):=by simp[iU,Oa]
theorem agA(ok:Bw x):(iU x).extract 1 42=ae x.2:=by
 have:=cd ok.p;apply ip;simp[iU,Oa,this];rw[mP (by simp[this])]
@[simp] theorem aTC(x:BS):jx (iU x)=true:=yJ (by
 intro u ap;unfold Oa at ap;rcases io.1 ap with rfl|ap
 ·rfl
 ·have T:=wc x.2;unfold jx at T;rw[AD]at T;exact T u (by simpa using ap))
end
theorem Kh:(prog.info? 182).map (λi=>i.zero.isSome)=some true:=by kernel_rfl
theorem Ki:kN prog 182=iU Ao:=by kernel_rfl
theorem auZ(n:Nat):dT (iU Ao) 0 #[.int .u64 n]=iU (n,ah):=by simp[dT,iU,Oa,Ao]
theorem au0(n:Nat){p q:Pt}(hS:cc p)(ov:cc q):dT (iU (n,q)) 1 (ae p)=iU (n,p):=by
 have J:=cd hS;have T:=cd ov;apply ip;simp[dT,iU,Oa,J,T]
theorem au1{w:M}{K:N->M->Prop}:jb prog 182 [] w K=K (.agg (iU Ao)) w:=
 ma underlying182 Kh (places:=#[(0,1),(1,41)]) (by simp[go_sem]) (by simp[jw,Ki])
theorem aM2(n:Nat){w:M}{K:N->M->Prop}:jb prog 182 [(0,.int .u64 n)] w K=K (.agg (iU (n,ah))) w:=by
 refine ma underlying182 Kh (places:=#[(0,1),(1,41)]) (by simp[go_sem]) ?_;have hz:=Fr Qs;simp[jw,Ki,Value.cells,hz,auZ]
theorem aCB(n:Nat)(p:Pt)(ok:cc p)(aq:n<18446744073709551616){w:M}{K:N->M->Prop}:jb prog 182 [(0,.int .u64 n),(1,.agg (ae p))] w K=K (.agg (iU (n,p))) w:=by
 refine ma underlying182 Kh (places:=#[(0,1),(1,41)]) (by simp[go_sem]) ?_;have hz:=Fr Qs;have T:=Fr (x:=(n,ah)) ⟨aq,cH⟩;have ad:=cd ok;simp[jw,Ki,Value.cells,hz,uf,auZ,au0,ok,cH,ad,T]
theorem af0(x:BS)(w:M)(ok:Bw x):bc prog 126 #[.agg (iU x)] w λv' w'=>kD 5 w v' 512 (br (po x)) w':=by
 refine bz func126 ntmps126 λbk af=> ?_;have wW:=Fr ok;have HK:=UL ok;simp[go_sem,wW,HK];have bt:=cr w (.cells (iU x) 182);have aY:=(H.refl al w).alloc (.cells (iU x) 182);obtain⟨ai,dx⟩:=aD (w.alloc (.cells (iU x) 182));rw[dx]at bt aY⊢;have aL:=(aG bt 0).trans apS;refine cT [F 0,F 1,F 3,F 4,(2,some [3,4]),(5,some []),(6,some []),F 7] ?_;simp[go_sem,aL,bt,wW,agA ok];refine(acF (.slice none 0 0) 0 [] x.1 _ ok.n (by decide) (pA _ _ _ _)).mono ?_;intro hk an hr;have cY:=hr.2.1.am (show ai.drew.1[w.1.size]? =_ from bt) λe=>by simp[Value.ownBlock]at e
 simp[go_sem,cY,wW,agA ok];refine(XW hk 8 (ci x.1 8) x.2 an ok.p (by decide) (ku _ _) (by simpa using hr.1)).mono ?_;intro v3 aJ lm;simp[go_sem];refine(Xl v3 72 (ci x.1 8++kf x.2) 512 aJ (by decide) (by decide) (by simp[ku,DR ok.p]) (by simpa using lm.1)).mono ?_;intro v4 bs nC;simp[go_sem];have gD:kD 5 w (.slice none 0 0) 0 (br []) ai.drew:=kD.nil _ aY.drew;have gc:=gD.grow hr.1 hr.2.1 hr.2.2;have jT:=gc.grow lm.1 lm.2.1 lm.2.2;have qd:=jT.grow nC.1 nC.2.1 nC.2.2;refine af _ _ ?_;have e:po x=[]++ci x.1 8++kf x.2++List.replicate (Int.toNat 512 - 72) 0:=by
  rw[show List.replicate (Int.toNat 512 - 72) (0:UInt8)=dh 440 from rfl,xu,nv];rfl
 rw[e];exact qd
theorem aEd(v:N)(b:List UInt8)(w:M)(ak:b.length<=1000000)(aA:bC w v b.length (br b))(bM:mb w):
  bc prog 78 #[v] w λv' w'=>v'=.tuple #[.agg (iU (uK b).1),aa (uK b).2]/\H al w w':=by
 refine bz func78 ntmps78 λbk af=> ?_;have ee:=Fr Qs;have ic:=UL Qs;have cu:=aA.len underlying101 3;have fb:=bM.lt;simp[go_sem,Kh,Ki];have aY:=(H.refl al w).alloc (.cells (iU Ao) 182);have bt:=cr w (.cells (iU Ao) 182);obtain⟨ai,dx⟩:=aD (w.alloc (.cells (iU Ao) 182));rw[dx]at bt aY⊢;have xA:=lt_of_block bt;refine(RO v b ai (by omega) (aA.ch aY λ_ _ e=>e)).mono ?_;rintro _ an ⟨cN,o,rfl,bn,W_,Ov,bh,bA⟩;have aK:=aY.trans bA;have cY:=bA.am bt id;simp[go_sem];refine(acu cN b 0 an (by omega) bh).mono ?_;rw[show dg b 0 8=t1 b from rfl];rintro _ aJ ⟨rfl,xx,ew⟩;have cK:=ew.am cY (by simp only[only];omega);have aI:H al w aJ:=aK.bZ ew λj I e=>by simp only[only]at e;omega
 have vC:=aI.size;have aTD:=ew.size;have FI:(t1 b).2.1.length<=b.length:=Pw _ _ _;obtain⟨G,fD⟩:=aD (em (t1 b).1);have JR:G<18446744073709551616:=fD▸JC b 0 8;rw[fD];have au2:Bw (G,ah):=⟨JR,cH⟩;have lp:=Fr au2;have aau:=UL au2;simp[go_sem,aM2,Kh,Ki,lp,aau,ee,bS];have dH:=(H.refl al aJ).alloc (.cells (iU (G,ah)) 182);have cI:=cr aJ (.cells (iU (G,ah)) 182);obtain⟨bs,qv⟩:=aD (aJ.alloc (.cells (iU (G,ah)) 182));rw[qv]at cI dH⊢;have bo:=aI.trans dH;have Tx:=lt_of_block cI;have ahk:=dH.am cK id;have aTE:=xx.lt;refine(acs cN o (t1 b).2.1 (t1 b).2.2 bs (by omega) (bM.ch bo id) (by omega) (xx.ch dH id id) (by omega)).mono ?_;rw[show qc (t1 b).2.1 (t1 b).2.2=el b from rfl];rintro _ bD ⟨rfl,wd,oN⟩;have hS:cc (el b).1:=Px _ _;have XV:(el b).2.1.length<=(t1 b).2.1.length:=aew _ _;have dG:=oN.am cI (by simp only[only];omega);have aM3:=oN.am ahk (by simp only[only];omega);have wT:Bw (G,(el b).1):=⟨JR,hS⟩;have wW:=Fr wT;have HK:=UL wT;have de:=cd hS;have bE:H al w bD:=bo.bZ oN λj I e=>by simp only[only]at e;omega
 have Kq:=bE.size;have aTF:=oN.size;simp[go_sem,dG,lp,de,au0 G hS cH];have Bi:=(H.refl (only aJ.1.size) bD).setRow (g:=aJ.1.size) (.inl rfl) (iU (G,(el b).1));have gj:(bD.setRow aJ.1.size (iU (G,(el b).1))).1[aJ.1.size]? =some (.cells (iU (G,(el b).1)) 182 (0,0)):=by rw[gh,dG];rfl
 obtain⟨cD,nc⟩:=aD (bD.setRow aJ.1.size (iU (G,(el b).1)));rw[nc]at gj Bi⊢;have Ow:=wd.ch Bi (by simp only[only];omega) (by simp only[only];omega);have aM4:=Bi.am aM3 (by simp only[only];omega);have cF:H al w cD:=bE.bZ Bi λj I e=>by simp only[only]at e;omega
 refine(RU cN _ _ cD Ow).mono ?_;rintro _ cE ⟨rfl,rfl⟩;simp[go_sem];refine(Xf cN _ _ _ cE (by omega) (by omega) Ow).mono ?_;rw[Ca,show we (el b).2.1 (el b).2.2 (el b).2.1.length=t3 b from rfl];rintro _ ec ⟨rfl,aeC,CQ⟩;have jI:=CQ.am gj (by simp only[only];omega);have ahj:=CQ.am aM4 (by simp only[only];omega);have ds:H al w ec:=cF.bZ CQ λj I e=>by simp only[only]at e;omega
 simp[go_sem];refine(Xg cN _ _ ec aeC).mono ?_;rw[show tf (t3 b).1 (t3 b).2=t4 b from rfl];rintro _ db ⟨rfl,aTG,Kt⟩;have qj:=Kt.am jI (by simp only[only];omega);have Ww:=Kt.am ahj (by simp only[only];omega);have dV:H al w db:=ds.bZ Kt λj I e=>by simp only[only]at e;omega
 by_cases h:(t4 b).2=0/\b.length=512
 ·have e:uK b=(Wu b,0):=by unfold uK;rw[be h]
  rw[e]at af;rw[show Wu b=(G,(el b).1)by rw[<-fD];rfl]at af;have PF:(db.setRow w.1.size (iU (G,(el b).1))).1[w.1.size]? =some (.cells (iU (G,(el b).1)) 182 (0,0)):=by rw[gh,Ww];rfl
  simp[go_sem,h.1,h.2,cu,qj,Ww,wW,HK,ee,bS,PF];exact af _ _ ⟨rfl,dV.setRow (g:=w.1.size) (.inr (by omega)) _⟩
 ·have e:uK b=(Ao,5):=by unfold uK;rw[aQ h]
  rw[e]at af;have PF:(db.setRow w.1.size (iU Ao)).1[w.1.size]? =some (.cells (iU Ao) 182 (0,0)):=by rw[gh,Ww];rfl
  by_cases aP:(t4 b).2=0
  ·have bH:((b.length:Int)!=512)=true:=by
    have:¬(b.length:Int)=512:=by omega
    simpa using this
   simp[go_sem,aP,bH,cu,au1,Ww,ee,ic,bS,PF];exact af _ _ ⟨rfl,dV.setRow (g:=w.1.size) (.inr (by omega)) _⟩
  ·have LP:((t4 b).2 !=0)=true:=by simpa using aP
   simp[go_sem,LP,au1,Ww,ee,ic,bS,PF];exact af _ _ ⟨rfl,dV.setRow (g:=w.1.size) (.inr (by omega)) _⟩
end Go.Proofs.YtoohkhcpboldjaaGreatDoor
