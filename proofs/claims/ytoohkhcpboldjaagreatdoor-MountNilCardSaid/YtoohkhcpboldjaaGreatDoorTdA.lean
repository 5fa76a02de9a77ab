/- Tops: what they are in memory, PutTop, TakeTop, and the law's top. Conditions: the variable ptr.wide holds what the text lays; sizes. -/
import Derived.Test.YtoohkhcpboldjaaGreatDoorStC
set_option linter.unusedSimpArgs false
set_option linter.unusedVariables false
namespace Go.Proofs.YtoohkhcpboldjaaGreatDoor
open Go.RowKit Go.Kin
theorem amJ(a b:Pt):(a==b)=decide (a=b):=rfl
structure mL(has:Pt->List UInt8->Prop)(x:br)(top h:List Pt)(lf:Nat->Option (List UInt8)):Prop where
 oq:hy has x.J top h
 jO:∀o,o<64->(h.getD o ad=ad/\lf o=none)\/(h.getD o ad≠ad/\(h.getD o ad).k=js x.k/\∃b,has (h.getD o ad) b/\lf o=some b)
section
variable{has ot:Pt->List UInt8->Prop}{x:br}{top h:List Pt}{lf:Nat->Option (List UInt8)}
theorem mL.mono(t:mL has x top h lf)(aH:∀q b,has q b->ot q b):mL ot x top h lf:=⟨t.oq.mono aH,λo aB=>(t.jO o aB).imp id λ⟨a,k,b,c,d⟩=>⟨a,k,b,aH _ _ c,d⟩⟩
theorem mL.aD(t:mL has x top h lf):∀o,o<64->h.getD o ad≠ad->∃b,has (h.getD o ad) b:=λo aB hz=>by
 rcases t.jO o aB with⟨e,_⟩|⟨_,_,b,e,_⟩
 ·exact absurd e hz
 ·exact⟨b,e⟩
theorem acN(n o:Nat):(List.replicate n ad).getD o ad=ad:=by
 grind
theorem mL.z{x:br}(M:x.J=ad):mL has x dY (List.replicate 64 ad) λ_=>none:=
 ⟨by rw[M];exact hy.z,λo _=>.inl ⟨acN _ _,rfl⟩⟩
theorem hy.ah8{has:Pt->List UInt8->Prop}{J:Pt}{top h:List Pt}(t:hy has J top h)(ap:J=ad){o:Nat}(aB:o<64):h.getD o ad=ad:=by
 have bd:=t.ho.iff.1 ap;have aF:=t.cq (o / 8) (by omega);rw[bd,DE]at aF;have e:=aF.iff.1 rfl;have H:=Ih (g:=o / 8) (k:=o%8) (h:=h) (by omega);rw[e,DE,show 8*(o / 8)+o%8=o by omega]at H;exact H.symm
theorem amK(h:List Pt){y:Pt}(ar:y≠ad):∀k,k<=h.length->((nQ h k).map (·.2)).count y=(h.take k).count y
 |0,_=>by simp[nQ]
 |k+1,r=>by
  have e:h.take (k+1)=h.take k++[h.getD k ad]:=by
   rw[List.take_add_one,List.getD_eq_getElem?_getD,List.getElem?_eq_getElem (by omega)];rfl
  rw[ajs,List.map_append,List.count_append,amK h ar k (by omega),e,List.count_append]
  grind
theorem aDj{J:Pt}{t:List Pt}(ap:J=ad->t=dY){y:Pt}(ar:y≠ad):(pD J t).count y=(if J=y then 1 else 0)+t.count y:=by
 unfold pD;by_cases h:J=ad
 ·rw[if_pos h,ap h,if_neg (by rw[h];exact Ne.symm ar)];unfold dY
  grind
 ·rw[if_neg h,List.count_cons,amJ];have:(t.filter λp=>decide (p≠ad)).count y=t.count y:=by
   simp_all
  grind
theorem amL{y:Pt}(ar:y≠ad):mM ad dY (List.replicate 64 ad) y=0:=by
 unfold mM dY
 grind
theorem hy.count{bu:Pt}(t:hy has bu top h){y:Pt}(ar:y≠ad):((nQ h 64).map (·.2)++pD bu top).count y=mM bu top h y:=by
 rw[List.count_append,amK h ar 64 (by rw[t.al];exact Nat.le_refl _),aDj t.ho.iff.1 ar,List.take_of_length_le (by rw[t.al];exact Nat.le_refl _)];unfold mM;omega
end
section
variable{ay:Type}(S:hp ay)
def sg(s:ay)(bu:Pt):ay×Unit×Int:=
 let t:=gU S.rd s bu
 if t.2.2.2≠0 then(t.1,(),t.2.2.2)else((t.2.1.map (·.2)++t.2.2.1).foldl S.bM t.1,(),0)
def kL(kind num off:Nat):Pt:=⟨js kind,0,num,off,0,List.replicate 32 0,[0,0,0,0]⟩
def lW(kind num:Nat):List (Nat×List UInt8)->ay->List (Nat×Pt)->ay×List (Nat×Pt)×Int
 |[],s,b'=>(s,b',0)
 |(o,b)::l,s,b'=>if b=[]then lW kind num l s (b'++[(o,ad)])else
   if(S.nw s (kL kind num o) b).2.2≠0 then((S.nw s (kL kind num o) b).1,[],(S.nw s (kL kind num o) b).2.2)else lW kind num l (S.nw s (kL kind num o) b).1 (b'++[(o,(S.nw s (kL kind num o) b).2.1)])
def lV(table:Pt)(own:Option br)(wiped:Bool)(ch:List (Nat×List UInt8))(num:Nat)(s:ay):ay×(Nat×br)×Int:=
 let w:=jN S.rd s table num
 if w.2.2≠0 then(w.1,(0,bA),w.2.2)else
 let nj:=own.getD w.2.1;let c:=if wiped=true\/nj=bA then sg S w.1 w.2.1.J else(w.1,(),0)
 if c.2.2≠0 then(c.1,(0,bA),c.2.2)else
 if nj=bA then(c.1,(num,bA),0)else
 let k:=lW S nj.k num ch c.1 []
 if k.2.2≠0 then(k.1,(0,bA),k.2.2)else
 let t:=pq S.rd S.nw S.bM num k.1 (if wiped=true then ad else w.2.1.J) k.2.1
 (t.1,(num,{nj with J:=t.2.1}),t.2.2)
variable{S}{s bt cw:ay}{m g gv cB fl cb:List Pt}{bu p:Pt}{top h n:List Pt}{v:List br}{lf:Nat->Option (List UInt8)}{x:br}
theorem amM(ae:S.Laws):∀(l:List Pt) (s:ay),S.ok s->(∀p∈l,∃b,S.has s p b)->S.fb s (l.foldl S.bM s) [] l
 |[],s,aB,_=>hp.fb.refl aB
 |p::l,s,aB,al=>by
  obtain⟨b,V⟩:=al p (by simp);have H:=ae.bM s p b aB V;have I:=amM ae l (S.bM s p) H.ok λq aq=>by
   obtain⟨c,T⟩:=al q (by simp[aq]);exact⟨c,H.has _ _ T⟩
  simpa using H.trans I
theorem aDk(ae:S.Laws)(aB:S.ok s)(t:hy (S.has s) bu top h)(aD:∀o,o<64->h.getD o ad≠ad->∃b,S.has s (h.getD o ad) b):
  (∃s' g,sg S s bu=(s',(),0)/\S.fb s s' [] g/\∀y,y≠ad->g.count y=mM bu top h y)\/S.sK s 0 (sg S s bu):=by
 unfold sg;rcases t.all ae aB with⟨aK,aW⟩|⟨s',e,aK,aW⟩
 ·have a_:(gU S.rd s bu).2.2.2=0:=by rw[aW]
  have bh:(gU S.rd s bu).2.1=nQ h 64:=by rw[aW]
  have bV:(gU S.rd s bu).2.2.1=pD bu top:=by rw[aW]
  simp only[a_,bh,bV,ne_eq,not_true_eq_false,if_false];refine .inl ⟨_,_,rfl,aK.trans (amM ae _ _ aK.ok λp ah=> ?_),λy ar=>t.count ar⟩;rcases List.mem_append.1 ah with ah|ah
  ·obtain⟨z,hz,rfl⟩:=List.mem_map.1 ah;unfold nQ at hz;obtain⟨o,qB,wg⟩:=List.mem_filterMap.1 hz;have qB:=List.mem_range.1 qB;by_cases ua:h.getD o ad=ad
   ·grind
   ·rw[if_neg ua]at wg;obtain⟨b,V⟩:=aD o qB ua
    cases wg
    exact⟨b,aK.has _ _ V⟩
  ·rcases(aB4 t.ho.ez.len t.ho.iff.1 p).1 ah with⟨H,rfl⟩|⟨G,ff,rfl,I⟩
   ·rcases t.ho.dn with⟨e,_⟩|⟨_,_,V,_⟩
    ·exact absurd e H
    ·exact⟨_,aK.has _ _ V⟩
   ·rcases(t.cq G ff).dn with⟨e,_⟩|⟨_,_,V,_⟩
    ·exact absurd e I
    ·exact⟨_,aK.has _ _ V⟩
 grind
theorem aDl{kind num off:Nat}(r:kind=1\/kind=2\/kind=3)(av:num<65536)(aB:off<64):Du (kL kind num off):=by
 have H:1<=js kind/\js kind<=2:=by rcases r with rfl|rfl|rfl<;>decide
 refine⟨⟨?_,by show 0<256;decide,av,?_,by show(0:Nat)<_;decide,rfl,rfl,by simp[kL]⟩,.inr ⟨H.1,?_,?_,rfl⟩⟩
 ·show js kind<256;omega
 ·show off<4294967296;omega
 ·show js kind<=5;omega
 ·show js kind≠3;omega
structure aDm(Uu:Nat)(has:Pt->List UInt8->Prop)(ch:List (Nat×List UInt8))(b':List (Nat×Pt)):Prop where
 fst:b'.map (·.1)=ch.map (·.1)
 ir:∀o b,(o,b)∈ch->∃p,(o,p)∈b'/\((b=[]/\p=ad)\/(b≠[]/\p≠ad/\p.k=Uu/\has p b))
theorem acO(ae:S.Laws){kind num:Nat}(r:kind=1\/kind=2\/kind=3)(av:num<65536):∀(ch:List (Nat×List UInt8)) (s:ay) (b':List (Nat×Pt)),S.ok s->(∀c∈ch,c.1<64/\(c.2=[]\/c.2.length=512))->
  (∃s' yt m,lW S kind num ch s b'=(s',b'++yt,0)/\S.fb s s' m []/\aDm (js kind) (S.has s') ch yt/\(∀z∈yt,z.2=ad\/((∃b,S.has s' z.2 b)/\∀c,¬S.has s z.2 c))/\m.length<=ch.length/\(∀y∈m,y.k=js kind)/\∀y,y≠ad->m.count y=(yt.map (·.2)).count y)\/
  S.sK s (ch.length*fm (js kind)) (lW S kind num ch s b')
 |[],s,b',aB,_=>.inl ⟨s,[],[],by simp[lW],hp.fb.refl aB,⟨rfl,by simp⟩,by simp,by simp,by simp,by simp⟩
 |(o,b)::l,s,b',aB,T=>by
  have ud:=T (o,b) (by simp);unfold lW;by_cases V:b=[]
  ·rw[if_pos V];rcases acO ae r av l s (b'++[(o,ad)]) aB (λc oV=>T c (by simp[oV]))with⟨cw,IE,fl,aW,cZ,jO,fr,xE,kd,uS⟩|e
   ·refine .inl ⟨cw,(o,ad)::IE,fl,by grind,cZ,⟨by simp[jO.fst],λeX nV aH=> ?_⟩,λz hz=> ?_,by rw[List.length_cons];omega,kd,λy ar=> ?_⟩
    ·rcases List.mem_cons.1 aH with e|aH
     ·grind
     ·obtain⟨p,H,I⟩:=jO.ir eX nV aH
      grind
    ·grind
    grind
   ·exact .inr (e.mono (by rw[List.length_cons,Nat.succ_mul];omega))
  ·rw[if_neg V];have cI:b.length=512:=ud.2.resolve_left V;rcases ae.nw s (kL kind num o) b aB (aDl r av ud.1) cI with⟨q,aK,ey,aq,LD,amN⟩|e
   ·have Aq:q≠ad:=λe=>by
     have:=(ae.Y _ _ _ ey.ok aq).2.1;rw[e]at this;exact absurd this (by decide)
    have a_:(S.nw s (kL kind num o) b).2.2=0:=by rw[aK]
    have bh:(S.nw s (kL kind num o) b).2.1=q:=by rw[aK]
    rw[if_neg (by rw[a_];simp),bh];rcases acO ae r av l (S.nw s (kL kind num o) b).1 (b'++[(o,q)]) ey.ok (λc oV=>T c (by simp[oV]))with⟨cw,IE,fl,aW,cZ,jO,fr,xE,kd,uS⟩|e
    ·refine .inl ⟨cw,(o,q)::IE,[q]++fl,by rw[aW,List.append_assoc];rfl,by simpa using ey.trans cZ,⟨by simp[jO.fst],λeX nV aH=> ?_⟩,λz hz=> ?_,by grind,λy ar=> ?_,λy ar=> ?_⟩
     ·rcases List.mem_cons.1 aH with e|aH
      ·cases e
       exact⟨q,by simp,.inr ⟨V,Aq,LD.1,cZ.has _ _ aq⟩⟩
      ·obtain⟨p,H,I⟩:=jO.ir eX nV aH
       grind
     ·rcases List.mem_cons.1 hz with rfl|hz
      ·exact .inr ⟨⟨b,cZ.has _ _ aq⟩,amN⟩
      ·refine(fr z hz).imp id λ⟨a,c⟩=>⟨a,λd bi=>c d (ey.has _ _ bi)⟩
     ·rcases List.mem_append.1 ar with ar|ar
      ·rw[List.mem_singleton]at ar;rw[ar];exact LD.1
      ·exact kd y ar
     grind
    ·refine .inr ((e.after ey).mono ?_);have ab:fU [q]=fm (js kind):=by
      unfold fU;rw[List.map_cons,LD.1];rfl
     rw[List.length_cons,Nat.succ_mul];omega
   ·rw[if_pos e.ne];refine .inr (e.mono ?_);have:fm (kL kind num o).k=fm (js kind):=rfl;rw[List.length_cons,Nat.succ_mul];omega
def Pq(ch:List (Nat×List UInt8))(o:Nat):Option (List UInt8):=(ch.find? λc=>decide (c.1=o)).map (·.2)
def Lb(z wiped:Bool)(ch:List (Nat×List UInt8))(lf:Nat->Option (List UInt8))(o:Nat):Option (List UInt8):=
 if z then none else match Pq ch o with
  |some b=>if b=[]then none else some b
  |none=>if wiped then none else lf o
theorem amO{ch:List (Nat×List UInt8)}(ah:ch.Pairwise λa b=>a.1<b.1){o:Nat}{b:List UInt8}:(o,b)∈ch↔Pq ch o=some b:=by
 unfold Pq
 induction ch with
 |nil=>simp
 |cons c ch bG=>
  have fW:=List.pairwise_cons.1 ah
  grind
theorem ZQ{x:br}(h:fI x=true)(hz:x≠bA):x.k=1\/x.k=2\/x.k=3:=by
 unfold fI at h
 grind
theorem aDn{x:br}(h:fI x=true)(hz:x≠bA){J:Pt}(ap:mV J=true):fI {x with J:=J}=true:=by
 have r:=ZQ h hz;unfold fI at h⊢
 grind
theorem aDo(ae:S.Laws)(aB:S.ok s){table:Pt}{dp aD:List Pt}(t:lj (S.has s) table dp aD v){num:Nat}(H:1<=num)(I:num<=255)(aS:v.getD num bA=x)(nK:mL (S.has s) x top h lf)
  {own:Option br}{wiped:Bool}{ch:List (Nat×List UInt8)}(eT:∀n,own=some n->gR n/\fI n=true)(yX:∀c∈ch,c.1<64/\(c.2=[]\/c.2.length=512))(ah:ch.Pairwise λa b=>a.1<b.1)(Dt:wiped=false->own.getD x≠bA->x.J≠ad->js (own.getD x).k=js x.k):
  (∃s' iC oU h' m g,lV S table own wiped ch num s=(s',(num,iC),0)/\S.fb s s' m g/\gR iC/\fI iC=true/\iC=(if own.getD x=bA then bA else{own.getD x with J:=iC.J})/\
   mL (S.has s') iC oU h' (Lb (decide (own.getD x=bA)) wiped ch lf)/\(∀y,y≠ad->mM iC.J oU h' y+g.count y=mM x.J top h y+m.count y)/\
   ∃LF IK,m=LF++IK/\LF.length<=ch.length/\IK.length<=ch.length+1/\(ch=[]->IK=[])/\(∀y∈LF,y.k=js (own.getD x).k)/\∀y∈IK,y.k=3)\/
  S.sK s (ch.length*fm (js (own.getD x).k)+2*(if ch=[]then 0 else ch.length+1)) (lV S table own wiped ch num s):=by
 unfold lV;have dh:gR x/\fI x=true:=by rw[<-aS];exact t.ez num
 have DU:gR (own.getD x)/\fI (own.getD x)=true:=by
  cases sL:own with
  |none=>exact dh
  |some n=>exact eT n sL
 rcases t.get ae aB H I with⟨aK,aW⟩|e
 ·rw[aS]at aW;have a_:(jN S.rd s table num).2.2=0:=by rw[aW]
  have bh:(jN S.rd s table num).2.1=x:=by rw[aW]
  simp only[a_,bh,ne_eq,not_true_eq_false,if_false];have Vw:=nK.mono aK.has;have JO:(∃cw kv,(if wiped=true\/own.getD x=bA then sg S (jN S.rd s table num).1 x.J else((jN S.rd s table num).1,(),0))=(cw,(),0)/\S.fb s cw [] kv/\
    ∀y,y≠ad->kv.count y=if wiped=true\/own.getD x=bA then mM x.J top h y else 0)\/S.sK s 0 (if wiped=true\/own.getD x=bA then sg S (jN S.rd s table num).1 x.J else((jN S.rd s table num).1,(),0)):=by
   by_cases aF:wiped=true\/own.getD x=bA
   ·simp only[if_pos aF];rcases aDk ae aK.ok Vw.oq Vw.aD with⟨cw,kv,a',aX,bq⟩|e
    ·exact .inl ⟨cw,kv,a',by simpa using aK.trans aX,bq⟩
    ·exact .inr (e.yr aK)
   ·grind
  rcases JO with⟨cw,kv,a',cZ,bq⟩|e
  ·rw[a'];simp only[not_true_eq_false,if_false];by_cases hz:own.getD x=bA
   ·rw[if_pos hz,decide_eq_true hz];refine .inl ⟨cw,bA,dY,List.replicate 64 ad,[],kv,rfl,cZ,ls,by decide,by rw[if_pos hz],?_,λy ar=> ?_,[],[],rfl,by simp,by simp,λ_=>rfl,by simp,by simp⟩
    ·have e:Lb true wiped ch lf=λ_=>none:=by funext o;unfold Lb;rw[if_pos rfl]
     rw[e];exact mL.z rfl
    ·rw[bq y ar,if_pos (.inr hz)];have:=amL ar;show mM ad dY _ y+_=_;rw[this];simp
   ·rw[if_neg hz,decide_eq_false hz];have pC:=ZQ DU.2 hz;rcases acO ae pC (num:=num) (by omega) ch cw [] cZ.ok yX with⟨gL,b',iN,Ip,iq,jO,fr,xE,kd,uS⟩|e
    ·rw[Ip];simp only[List.nil_append,not_true_eq_false,if_false];obtain⟨acP,bf,amP,AL,fG,aDp⟩:∃acP bf,hy (S.has cw) (if wiped=true then ad else x.J) acP bf/\(∀o,o<64->bf.getD o ad≠ad->∃b,S.has cw (bf.getD o ad) b)/\
       (∀y,y≠ad->mM (if wiped=true then ad else x.J) acP bf y+kv.count y=mM x.J top h y)/\
       ∀o,o<64->(bf.getD o ad=ad/\(if wiped=true then none else lf o)=none)\/(bf.getD o ad≠ad/\(bf.getD o ad).k=js (own.getD x).k/\∃b,S.has cw (bf.getD o ad) b/\(if wiped=true then none else lf o)=some b):=by
      by_cases bH:wiped=true
      ·refine⟨dY,List.replicate 64 ad,by rw[if_pos bH];exact hy.z,λo _ hz=>absurd (acN _ _) hz,λy ar=> ?_,λo _=>.inl ⟨acN _ _,by rw[if_pos bH]⟩⟩;rw[if_pos bH,amL ar,bq y ar,if_pos (.inl bH)];simp
      ·have Vx:=nK.mono cZ.has;refine⟨top,h,by rw[if_neg bH];exact Vx.oq,Vx.aD,λy ar=> ?_,λo aB=> ?_⟩
       ·grind
       ·simp only[if_neg bH];rcases Vx.jO o aB with k|⟨a',aX,bq⟩
        ·exact .inl k
        ·refine .inr ⟨a',?_,bq⟩;rw[aX];by_cases ap:x.J=ad
         ·exact absurd (Vx.oq.ah8 ap aB) a'
         grind
     have aDq:∀z∈b',z.1<64:=λz vX=>by
      have aH:z.1∈b'.map (·.1):=List.mem_map.2 ⟨z,vX,rfl⟩;rw[jO.fst]at aH
      grind
     have amQ:b'.Pairwise λa b=>a.1<b.1:=by
      have:=List.pairwise_map.2 ah;rw[<-jO.fst]at this;exact List.pairwise_map.1 this
     rcases(amP.mono iq.has).set ae iq.ok (obj:=num) (by omega) amQ aDq (λo aB vX=>by
      obtain⟨b,V⟩:=AL o aB vX;exact⟨b,iq.has _ _ V⟩) (λz vX=>by
      grind)with⟨hv,J,rh,ix,dw,rj,jk,acQ,EJ,aCd,uO,aDr,aJK⟩|e
     ·have vF:mV J=true:=by
       have:=acQ.BJ;unfold r' at this;unfold mV;simpa using this
      rw[rj];refine .inl ⟨hv,{own.getD x with J:=J},rh,kx bf b',iN++ix,kv++dw,rfl,?_,?_,aDn DU.2 hz vF,by rw[if_neg hz],⟨acQ,λo aB=> ?_⟩,λy ar=> ?_,iN,ix,rfl,xE,?_,λe=> ?_,kd,aDr⟩
      ·simpa using(cZ.trans iq).trans jk
      ·refine⟨DU.1.k,DU.1.n,DU.1.s,?_⟩;rcases acQ.ho.dn with⟨e,_⟩|⟨_,_,V,_⟩
       ·show bN J;rw[e];exact cE
       ·exact(ae.Y _ _ _ jk.ok V).1
      ·unfold Lb;simp only[Bool.false_eq_true,if_false]
       cases T:Pq ch o with
       |some b=>
        obtain⟨p,fW,nP⟩:=jO.ir o b ((amO ah).2 T);have e:(kx bf b').getD o ad=p:=by
         rw[Qm];exact Qk ad b' bf amQ (o,p) fW (by rw[amP.al];exact aB)
        simp only;rw[e];rcases nP with⟨a,nV⟩|⟨a,nV,qr,c⟩
        ·grind
        ·rw[if_neg a];exact .inr ⟨nV,qr,b,jk.has _ _ c,rfl⟩
       |none=>
        have e:(kx bf b').getD o ad=bf.getD o ad:=by
         rw[Qm];refine ID ad b' bf o λz vX e=> ?_;have aH:z.1∈b'.map (·.1):=List.mem_map.2 ⟨z,vX,rfl⟩;rw[jO.fst]at aH;obtain⟨c,nX,aW⟩:=List.mem_map.1 aH;have:(o,c.2)∈ch:=by rw[<-e,<-aW];exact nX
         rw[amO ah,T]at this
         cases this
        simp only;rw[e];exact(aDp o aB).imp id λ⟨a,k,b,c,d⟩=>⟨a,k,b,jk.has _ _ (iq.has _ _ c),d⟩
      ·grind
      ·have:b'.length=ch.length:=by rw[<-List.length_map (f:=λz:Nat×Pt=>z.1),jO.fst,List.length_map]
       omega
      ·apply uO;have:b'.map (·.1)=[]:=by rw[jO.fst,e];rfl
       simpa using this
     ·refine .inr (((e.after iq).yr cZ).mono ?_);have sj:b'.length=ch.length:=by rw[<-List.length_map (f:=λz:Nat×Pt=>z.1),jO.fst,List.length_map]
      have ab:fU iN<=ch.length*fm (js (own.getD x).k):=by
       rw[Qn kd];exact Nat.mul_le_mul_right _ xE
      grind
    ·rw[if_pos e.ne];exact .inr ((hp.mg.yr cZ e).mono (by omega))
  ·rw[if_pos e.ne];exact .inr (hp.mg.mono e (Nat.zero_le _))
 ·simp only[e.ne,ne_eq,not_false_eq_true,if_true];exact .inr (hp.mg.mono e (Nat.zero_le _))
end
abbrev yv:=Nat×Pt
structure xV(x:yv):Prop where
 n:x.1<18446744073709551616
 p:bN x.2
def wW:yv:=(0,ad)
theorem KG:xV wW:=⟨by decide,cE⟩
def nH(x:yv):List UInt8:=bX x.1 8++(jq x.2++cV 440)
theorem Zd{x:yv}(ok:bN x.2):(nH x).length=512:=by
 simp[nH,jC,Ax ok,lM]
def t1(b:List UInt8):=cQ b 0 8
def dK(b:List UInt8):=oy (t1 b).2.1 (t1 b).2.2
def t3(b:List UInt8):=tK (dK b).2.1 (dK b).2.2 (dK b).2.1.length
def t4(b:List UInt8):=rf (t3 b).1 (t3 b).2
def Qw(b:List UInt8):yv:=(dQ (t1 b).1,(dK b).1)
theorem aDs(b:List UInt8):xV (Qw b):=⟨EL b 0 8,JC _ _⟩
def sz(b:List UInt8):yv×Int:=if(t4 b).2=0/\b.length=512 then(Qw b,0)else(wW,5)
theorem auT(b:List UInt8):xV (sz b).1:=by
 unfold sz;split
 ·exact aDs b
 ·exact KG
def H'(p:Pt):Bool:=decide (p=ad)||iX p
theorem aDt(n:Nat):nU (cV n)=false:=(V_ _).2 (by rw[lM])
theorem aDu(l:List UInt8):tK l 0 l.length=if nU l then([],5)else([],0):=by
 unfold tK cQ mU;simp
theorem ax9{x:yv}(ok:xV x):sz (nH x)=if H' x.2 then(x,0)else(wW,5):=by
 have al:=Ax ok.p;have cI:=Zd ok.p;have aK:t1 (nH x)=(bX x.1 8,jq x.2++cV 440,0):=by
  unfold t1 cQ;rw[if_neg (by simp),if_neg (by rw[cI];decide)];unfold nH;rfl
 have cR:cQ (jq x.2++cV 440) 0 64=(jq x.2,cV 440,0):=by
  unfold cQ
  grind
 have bU:dQ (bX x.1 8)=x.1:=by rw[Mb,Nat.mod_eq_of_lt (by have:=ok.n;simpa using this)]
 have jh:uP (jq x.2)=H' x.2:=by
  have H:=(adN (Ax ok.p)).1 (by rw[Jb ok.p]);unfold uP H';rw[H,Jb ok.p];simp
 have aW:dK (nH x)=if H' x.2 then(x.2,cV 440,0)else(ad,[],5):=by
  unfold dK;rw[aK];show oy (jq x.2++cV 440) 0=_;unfold oy;rw[cR];simp only[al,jh,Jb ok.p];rw[if_neg (by decide)]
 unfold sz Qw t4 t3;rw[aW,aK,cI]
 cases aF:H' x.2
 ·rfl
 ·simp only[if_true,aDu,aDt,bU];simp[rf]
def hN(l:List Nat)(f:Nat->Nat):Nat:=(l.map f).sum
theorem vs(n:Nat)(l:List Nat)(f:Nat->Nat):hN (n::l) f=f n+hN l f:=by simp[hN]
theorem Ov{l:List Nat}{f f':Nat->Nat}(h:∀n∈l,f n=f' n):hN l f=hN l f':=by
 unfold hN;rw[List.map_congr_left h]
theorem amR(l:List Nat)(P:Nat->Bool)(f:Nat->Nat):hN l f=hN (l.filter P) f+hN (l.filter λn=> !P n) f:=by
 induction l with
 |nil=>rfl
 |cons n l bG=>
  rw[vs,List.filter_cons,List.filter_cons]
  cases P n
  ·simp only[Bool.false_eq_true,if_false,Bool.not_false,if_true,vs];omega
  ·simp only[if_true,Bool.not_true,Bool.false_eq_true,if_false,vs];omega
def lJ:List Nat:=(List.range 256).filter λn=>decide (1<=n)
theorem Fu{n:Nat}:n∈lJ↔1<=n/\n<=255:=by
 unfold lJ
 grind
theorem aDv:lJ.Pairwise (·<·):=List.Pairwise.filter _ List.pairwise_lt_range
theorem aDw{nums:List Nat}(ah:nums.Pairwise (·<·))(av:∀n∈nums,1<=n/\n<=255){f f':Nat->Nat}(h:∀n,n∉nums->f' n=f n):hN lJ f'+hN nums f=hN lJ f+hN nums f':=by
 have e:lJ.filter (λn=>decide (n∈nums))=nums:=by
  refine YC (List.Pairwise.filter _ aDv) ah λx=> ?_;rw[List.mem_filter,decide_eq_true_eq];exact⟨λe=>e.2,λe=>⟨Fu.2 (av x e),e⟩⟩
 have H:=amR lJ (λn=>decide (n∈nums)) f;have I:=amR lJ (λn=>decide (n∈nums)) f';rw[e]at H I;have af:hN (lJ.filter λn=> !decide (n∈nums)) f'=hN (lJ.filter λn=> !decide (n∈nums)) f:=Ov λn av=>by
  grind
 omega
section
variable{ay:Type}(S:hp ay)
structure no where
 own:Nat->Option br
 wiped:Nat->Bool
 ch:Nat->List (Nat×List UInt8)
structure no.nB(C:no):Prop where
 own:∀n x,C.own n=some x->gR x/\fI x=true
 ch:∀n,∀c∈C.ch n,c.1<64/\(c.2=[]\/c.2.length=512)
 TG:∀n,(C.ch n).Pairwise λa b=>a.1<b.1
def qL(table:Pt)(C:no):List Nat->ay->List (Nat×br)->ay×List (Nat×br)×Int
 |[],s,b'=>(s,b',0)
 |n::l,s,b'=>if(lV S table (C.own n) (C.wiped n) (C.ch n) n s).2.2≠0 then((lV S table (C.own n) (C.wiped n) (C.ch n) n s).1,[],(lV S table (C.own n) (C.wiped n) (C.ch n) n s).2.2)
   else qL table C l (lV S table (C.own n) (C.wiped n) (C.ch n) n s).1 (b'++[(lV S table (C.own n) (C.wiped n) (C.ch n) n s).2.1])
def tj:Pt:=⟨5,0,0,0,0,List.replicate 32 0,[0,0,0,0]⟩
def lD(gen:Nat)(table top:Pt)(C:no)(nums:List Nat)(s:ay):ay×(Pt×Pt)×Int:=
 let i:=qL S table C nums s []
 if i.2.2≠0 then(i.1,(ad,ad),i.2.2)else
 let t:=pZ S.rd S.nw S.bM i.1 table i.2.1
 if t.2.2≠0 then(t.1,(ad,ad),t.2.2)else
 let p:=S.nw (S.bM t.1 top) tj (nH (gen,t.2.1))
 if p.2.2≠0 then(p.1,(ad,ad),p.2.2)else(p.1,(p.2.1,t.2.1),0)
def no.nj(C:no)(v:List br)(n:Nat):br:=(C.own n).getD (v.getD n bA)
def no.ZW(C:no)(v:List br):Prop:=∀n,C.wiped n=false->C.nj v n≠bA->(v.getD n bA).J≠ad->js (C.nj v n).k=js (v.getD n bA).k
structure lh where
 x:Nat->br
 sx:Nat->List Pt
 sy:Nat->List Pt
def lh.eN(O:lh)(y:Pt)(n:Nat):Nat:=mM (O.x n).J (O.sx n) (O.sy n) y
def no.lf(C:no)(v:List br)(lf:Nat->Nat->Option (List UInt8))(n:Nat):Nat->Option (List UInt8):=Lb (decide (C.nj v n=bA)) (C.wiped n) (C.ch n) (lf n)
def no.zQ(C:no)(v:List br)(n:Nat):Nat:=(C.ch n).length*fm (js (C.nj v n).k)+2*(if C.ch n=[]then 0 else(C.ch n).length+1)
variable{S}{s bt cw:ay}{m g gv cB fl cb:List Pt}{table:Pt}{dp aD:List Pt}{v:List br}{lf:Nat->Nat->Option (List UInt8)}{O:lh}{C:no}
theorem amS(ae:S.Laws)(ok:C.nB)(kd:C.ZW v):∀(nums:List Nat) (s:ay) (b':List (Nat×br)),S.ok s->lj (S.has s) table dp aD v->nums.Pairwise (·<·)->(∀n∈nums,1<=n/\n<=255)->(∀n∈nums,O.x n=v.getD n bA/\mL (S.has s) (O.x n) (O.sx n) (O.sy n) (lf n))->
  (∃s',∃O':lh,∃m g,qL S table C nums s b'=(s',b'++nums.map (λn=>(n,O'.x n)),0)/\S.fb s s' m g/\(∀n,n∉nums->O'.x n=O.x n/\O'.sx n=O.sx n/\O'.sy n=O.sy n)/\
   (∀n∈nums,gR (O'.x n)/\fI (O'.x n)=true/\O'.x n=(if C.nj v n=bA then bA else{C.nj v n with J:=(O'.x n).J})/\mL (S.has s') (O'.x n) (O'.sx n) (O'.sy n) (C.lf v lf n))/\
   (∀y,y≠ad->hN nums (O'.eN y)+g.count y=hN nums (O.eN y)+m.count y)/\fU m<=hN nums (C.zQ v))\/
  S.sK s (hN nums (C.zQ v)) (qL S table C nums s b')
 |[],s,b',aB,_,_,_,_=>.inl ⟨s,O,[],[],by simp[qL],hp.fb.refl aB,λ_ _=>⟨rfl,rfl,rfl⟩,by simp,λy _=>by simp,by simp[fU]⟩
 |n::l,s,b',aB,t,ah,av,vn=>by
  have fW:=List.pairwise_cons.1 ah;have pe:=av n (by simp);obtain⟨M,nK⟩:=vn n (by simp);unfold qL;rcases aDo ae aB t pe.1 pe.2 M.symm nK (own:=C.own n) (wiped:=C.wiped n) (ch:=C.ch n) (ok.own n) (ok.ch n) (ok.TG n) (by rw[M];exact kd n)with⟨bt,ey,t1,H,gv,cB,aK,ym,dh,aDx,lF,Vw,acR,LF,IK,TZ,lm,jD,nT,a',aX⟩|e
  ·rw[aK];simp only[ne_eq,not_true_eq_false,if_false];have Be:n∉l:=λh=>by have:=fW.1 n h;omega
   rcases amS ae ok kd l bt (b'++[(n,ey)]) ym.ok (t.mono ym.has) fW.2 (λk r=>av k (by simp[r])) (λk r=>⟨(vn k (by simp[r])).1,(vn k (by simp[r])).2.mono ym.has⟩)with⟨cw,iK,fl,cb,aW,DV,out,KH,acS,ai⟩|e
   ·refine .inl ⟨cw,⟨λk=>if k=n then ey else iK.x k,λk=>if k=n then t1 else iK.sx k,λk=>if k=n then H else iK.sy k⟩,gv++fl,cB++cb,?_,ym.trans DV,λk r=> ?_,λk r=> ?_,λy ar=> ?_,?_⟩
    ·rw[aW,List.append_assoc,List.map_cons];simp only[if_true,List.singleton_append];have:l.map (λk=>(k,if k=n then ey else iK.x k))=l.map λk=>(k,iK.x k):=List.map_congr_left λk r=>by
      grind
     rw[this]
    ·grind
    ·by_cases kQ:k=n
     ·subst kQ;simp only[if_true];refine⟨dh,aDx,?_,?_⟩
      ·unfold no.nj
       grind
      ·have:=Vw.mono DV.has;rw[M]at this;exact this
     grind
    ·have a1:=acR y ar;have a2:=acS y ar;rw[vs,vs,List.count_append,List.count_append];have ba:hN l (lh.eN ⟨λk=>if k=n then ey else iK.x k,λk=>if k=n then t1 else iK.sx k,λk=>if k=n then H else iK.sy k⟩ y)=hN l (iK.eN y):=Ov λk r=>by
      have kQ:k≠n:=λe=>Be (e▸r);unfold lh.eN;simp only[if_neg kQ]
     have cC:lh.eN ⟨λk=>if k=n then ey else iK.x k,λk=>if k=n then t1 else iK.sx k,λk=>if k=n then H else iK.sy k⟩ y n=mM ey.J t1 H y:=by
      unfold lh.eN;simp only[if_true]
     have cm:O.eN y n=mM (O.x n).J (O.sx n) (O.sy n) y:=rfl;omega
    ·rw[BE,vs,TZ,BE,Qn a',Qn aX];have b:LF.length*fm (js ((C.own n).getD (O.x n)).k)<=(C.ch n).length*fm (js (C.nj v n).k):=by
      rw[M];exact Nat.mul_le_mul_right _ lm
     have cm:fm 3=2:=rfl;have cC:IK.length<=if C.ch n=[]then 0 else(C.ch n).length+1:=by
      by_cases T:C.ch n=[]
      ·grind
      ·grind
     unfold no.zQ at ai⊢;rw[cm];omega
   ·refine .inr ((e.after ym).mono ?_);rw[vs,TZ,BE,Qn a',Qn aX];have b:LF.length*fm (js ((C.own n).getD (O.x n)).k)<=(C.ch n).length*fm (js (C.nj v n).k):=by
     rw[M];exact Nat.mul_le_mul_right _ lm
    have cm:fm 3=2:=rfl;have cC:IK.length<=if C.ch n=[]then 0 else(C.ch n).length+1:=by
     by_cases T:C.ch n=[]
     ·grind
     ·grind
    have ci:C.zQ v n=(C.ch n).length*fm (js (C.nj v n).k)+2*(if C.ch n=[]then 0 else(C.ch n).length+1):=rfl;rw[cm,ci];omega
  ·rw[if_pos e.ne];refine .inr (hp.mg.mono e ?_);rw[vs,M];exact Nat.le_add_right _ _
theorem aDy(v:List br)(nums:List Nat)(f:Nat->br)(ah:nums.Pairwise (·<·))(av:∀n∈nums,n<v.length)(n:Nat):(Ql v (nums.map λn=>(n,f n))).getD n bA=if n∈nums then f n else v.getD n bA:=by
 have K_:(nums.map λn=>(n,f n)).Pairwise λa b=>a.1<b.1:=List.pairwise_map.2 ah;by_cases h:n∈nums
 ·rw[if_pos h];have aH:(n,f n)∈nums.map λn=>(n,f n):=List.mem_map.2 ⟨n,h,rfl⟩;exact Qk bA _ v K_ (n,f n) aH (av n h)
 ·rw[if_neg h];refine ID bA _ v n λx M e=> ?_
  grind
theorem amT:∀(nums:List Nat) (f:Nat->br) (b:Option Nat),nums.Pairwise (·<·)->(∀n∈nums,1<=n/\n<=255)->(∀n∈nums,fI (f n)=true)->(∀z,b=some z->∀n∈nums,z<n)->ul b (nums.map λn=>(n,f n))=true
 |[],f,b,_,_,_,_=>rfl
 |n::l,f,b,ah,av,aH,V=>by
  have fW:=List.pairwise_cons.1 ah;rw[List.map_cons,Vc,decide_eq_true (av n (by simp)),aH n (by simp),amT l f (some n) fW.2 (λk r=>av k (by simp[r])) (λk r=>aH k (by simp[r])) (λz hz k r=>by cases hz;exact fW.1 k r)]
  grind
structure qQ(has:Pt->List UInt8->Prop)(table:Pt)(dp aD:List Pt)(v:List br)(O:lh)(lf:Nat->Nat->Option (List UInt8)):Prop where
 kT:lj has table dp aD v
 x:∀n,1<=n->n<=255->O.x n=v.getD n bA
 nK:∀n,1<=n->n<=255->mL has (O.x n) (O.sx n) (O.sy n) (lf n)
theorem qQ.mono{has ot:Pt->List UInt8->Prop}(c:qQ has table dp aD v O lf)(aH:∀q b,has q b->ot q b):qQ ot table dp aD v O lf:=⟨c.kT.mono aH,c.x,λn H I=>(c.nK n H I).mono aH⟩
def uv(top table:Pt)(dp aD:List Pt)(O:lh)(y:Pt):Nat:=(if top=y then 1 else 0)+mM table dp aD y+hN lJ (O.eN y)
theorem ag9:Du tj:=⟨⟨by decide,by decide,by decide,by decide,by decide,rfl,rfl,by simp[tj]⟩,.inr ⟨by decide,by decide,by decide,rfl⟩⟩
theorem acT(l:List (Nat×br)):(kN l).length<=l.length:=by
 have H:∀(os:List Nat),os.Pairwise (·<·)->(∀o∈os,eK l o≠[])->os.length<=l.length:=by
  intro os ah aB;have I:∀(os:List Nat),os.Pairwise (·<·)->∀l:List (Nat×br),(∀o∈os,eK l o≠[])->os.length<=l.length:=by
   intro os
   induction os with
   |nil=>grind
   |cons o os bG=>
    intro ah l aB;have fW:=List.pairwise_cons.1 ah;have af:=bG fW.2 (l.filter λx=>decide (x.1 / 4≠o)) λeX sL=>by
     have:=aB eX (by simp[sL]);have da:eX≠o:=by have:=fW.1 eX sL;omega
     intro e;apply this;unfold eK at e⊢;rw[List.filter_filter]at e
     grind
    have aU:(l.filter λx=>decide (x.1 / 4≠o)).length+(eK l o).length=l.length:=by
     unfold eK;clear aB af bG
     induction l with
     |nil=>rfl
     |cons x l bG=>
      grind
    have bC:(eK l o).length≠0:=λe=>aB o (by simp) (List.eq_nil_of_length_eq_zero e)
    grind
  exact I os ah l aB
 exact H _ (YD l) λo aB=>(Ny.1 aB).2
theorem aio(ae:S.Laws)(ok:C.nB)(kd:C.ZW v)(aB:S.ok s){top:Pt}{gen:Nat}(zP:gen<18446744073709551616)(c:qQ (S.has s) table dp aD v O lf)(sw:top=ad\/∃b,S.has s top b){nums:List Nat}(ah:nums.Pairwise (·<·))(av:∀n∈nums,1<=n/\n<=255)
  (F_:∀n,1<=n->n<=255->n∉nums->C.own n=none/\C.wiped n=false/\C.ch n=[]):
  (∃s' oU Qx wF qn W,∃O':lh,∃m g,lD S gen table top C nums s=(s',(oU,Qx),0)/\S.fb s s' m g/\S.has s' oU (nH (gen,Qx))/\oU.k=5/\qQ (S.has s') Qx wF qn W O' (λn=>if n∈nums then C.lf v lf n else lf n)/\bN Qx/\
   (∀n,1<=n->n<=255->n∉nums->O'.x n=O.x n)/\(∀n∈nums,O'.x n=(if C.nj v n=bA then bA else{C.nj v n with J:=(O'.x n).J}))/\
   (∀y,y≠ad->uv oU Qx wF qn O' y+g.count y=uv top table dp aD O y+m.count y)/\fU m<=hN nums (C.zQ v)+2*(nums.length+10)/\oU∈m)\/
  S.sK s (hN nums (C.zQ v)+2*(nums.length+10)) (lD S gen table top C nums s):=by
 unfold lD;rcases amS ae ok kd (O:=O) (lf:=lf) nums s [] aB c.kT ah av (λn h=>⟨c.x n (av n h).1 (av n h).2,c.nK n (av n h).1 (av n h).2⟩)with⟨bt,fP,gv,cB,aK,ym,out,KH,acR,ab⟩|e
 ·rw[aK];simp only[List.nil_append,ne_eq,not_true_eq_false,if_false];have gg:=amT nums fP.x none ah av (λn h=>(KH n h).2.1) (λz hz=>by cases hz);rcases(c.kT.mono ym.has).set ae ym.ok gg (λx M=>by
   obtain⟨n,h,rfl⟩:=List.mem_map.1 M;exact⟨by grind,(KH n h).1⟩)with⟨cw,J,dK,I,fl,cb,aW,DV,amU,jD,aX,acS⟩|e
  ·rw[aW];simp only[not_true_eq_false,if_false];have acU:=ym.trans DV;obtain⟨cj,LG,PD⟩:∃cj,S.fb cw (S.bM cw top) [] cj/\∀y,y≠ad->cj.count y=if top=y then 1 else 0:=by
    by_cases hz:top=ad
    ·refine⟨[],by rw[hz];exact ae.ZM cw DV.ok,λy ar=> ?_⟩
     grind
    ·obtain⟨b,V⟩:=sw.resolve_left hz;refine⟨[top],ae.bM cw top b DV.ok (acU.has _ _ V),λy _=> ?_⟩;simp[List.count_cons,amJ]
   have Cb:bN J:=by
    rcases amU.lK.ho.dn with⟨e,_⟩|⟨_,_,V,_⟩
    ·rw[e];exact cE
    ·exact(ae.Y _ _ _ DV.ok V).1
   rcases ae.nw (S.bM cw top) tj (nH (gen,J)) LG.ok ag9 (Zd (x:=(gen,J)) Cb)with⟨q,cW,Vy,aq,LD,amN⟩|e
   ·have a_:(S.nw (S.bM cw top) tj (nH (gen,J))).2.2=0:=by rw[cW]
    have bh:(S.nw (S.bM cw top) tj (nH (gen,J))).2.1=q:=by rw[cW]
    rw[if_neg (by rw[a_];simp),bh];have aS:∀n,(Ql v (nums.map λn=>(n,fP.x n))).getD n bA=if n∈nums then fP.x n else v.getD n bA:=λn=>aDy v nums fP.x ah (λn h=>by rw[c.kT.al];have:=av n h;omega) n
    refine .inl ⟨_,q,J,dK,I,_,fP,gv++fl++[]++[q],cB++cb++cj++[],rfl,(acU.trans LG).trans Vy,aq,LD.1,⟨(amU.mono LG.has).mono Vy.has,λn H I=> ?_,λn H I=> ?_⟩,Cb,λn H I h=>(out n h).1,λn h=>(KH n h).2.2.1,λy ar=> ?_,?_,by simp⟩
    ·rw[aS];by_cases h:n∈nums
     ·rw[if_pos h]
     ·rw[if_neg h,(out n h).1];exact c.x n H I
    ·by_cases h:n∈nums
     ·simp only[if_pos h];exact(((KH n h).2.2.2.mono DV.has).mono LG.has).mono Vy.has
     ·simp only[if_neg h];obtain⟨om,hL,kC⟩:=out n h;rw[om,hL,kC];exact((((c.nK n H I).mono ym.has).mono DV.has).mono LG.has).mono Vy.has
    ·have a1:=acR y ar;have a2:=acS y ar;have a3:=PD y ar;have a4:=aDw ah av (f:=O.eN y) (f':=fP.eN y) (λn h=>by
      unfold lh.eN
      grind)
     unfold uv
     grind
    ·rw[BE,BE,BE];have ba:fU fl<=fl.length*2:=Ly λp ah=>by
      rcases aX p ah with e|e<;>rw[e]<;>decide
     have cC:fU [q]=2:=by
      unfold fU;rw[List.map_cons,LD.1];rfl
     have cm:=acT (nums.map λn=>(n,fP.x n));rw[List.length_map]at cm;have ci:fU []=0:=rfl;omega
   ·rw[if_pos e.ne];refine .inr ((hp.mg.after (acU.trans LG) e).mono ?_);rw[BE,BE];have ba:fU fl<=fl.length*2:=Ly λp ah=>by
     rcases aX p ah with e|e<;>rw[e]<;>decide
    have cC:fm tj.k=2:=rfl;have cm:=acT (nums.map λn=>(n,fP.x n));rw[List.length_map]at cm;have ci:fU []=0:=rfl;omega
  ·rw[if_pos e.ne];refine .inr ((hp.mg.after ym e).mono ?_);have cm:=acT (nums.map λn=>(n,fP.x n))
   grind
 ·rw[if_pos e.ne];exact .inr (hp.mg.mono e (by omega))
end
def IL(x:yv):List Value:=.int .u64 x.1::(Y x.2).toList
def hO(x:yv):Array Value:=(IL x).toArray
section
variable{x:yv}
theorem BI(ok:xV x):(hO x).size=42:=by
 have:=bW ok.p;simp[hO,IL,this]
theorem Oz(ok:xV x):(hO x).extract 0 42=hO x:=by rw[<-BI ok];simp
theorem aii:(hO x)[0]? =some (.int .u64 x.1):=by simp[hO,IL]
theorem ZT(ok:xV x):(hO x).extract 1 42=Y x.2:=by
 have:=bW ok.p;apply Array.ext';simp[hO,IL,this];rw[List.take_of_length_le (by simp[this])]
@[simp] theorem aJL(x:yv):jT (hO x)=true:=yC (by
 intro u an;unfold IL at an;rcases List.mem_cons.1 an with rfl|an
 ·rfl
 ·have I:=sN x.2;unfold jT at I;rw[Array.all_eq_true']at I;exact I u (by simpa using an))
end
theorem Fx:(Tryz.prog.info? 182).map (λi=>i.zero.isSome)=some true:=by kernel_rfl
theorem Fy:ln Tryz.prog 182=hO wW:=by kernel_rfl
theorem amV(n:Nat):d' (hO wW) 0 #[.int .u64 n]=hO (n,ad):=by simp[d',hO,IL,wW]
theorem amW(n:Nat){p q:Pt}(ji:bN p)(kV:bN q):d' (hO (n,q)) 1 (Y p)=hO (n,p):=by
 have H:=bW ji;have I:=bW kV;apply Array.ext';simp[d',hO,IL,H,I]
theorem amX{w:World}{K:Value->World->Prop}:hX Tryz.prog 182 [] w K=K (.agg (hO wW)) w:=
 lp Tryz.underlying182 Fx (places:=#[(0,1),(1,41)]) (by simp[go_sem]) (by simp[iH,Fy])
theorem aDz(n:Nat){w:World}{K:Value->World->Prop}:hX Tryz.prog 182 [(0,.int .u64 n)] w K=K (.agg (hO (n,ad))) w:=by
 refine lp Tryz.underlying182 Fx (places:=#[(0,1),(1,41)]) (by simp[go_sem]) ?_;have hz:=BI KG;simp[iH,Fy,Value.cells,hz,amV]
theorem as4(n:Nat)(p:Pt)(ok:bN p)(av:n<18446744073709551616){w:World}{K:Value->World->Prop}:hX Tryz.prog 182 [(0,.int .u64 n),(1,.agg (Y p))] w K=K (.agg (hO (n,p))) w:=by
 refine lp Tryz.underlying182 Fx (places:=#[(0,1),(1,41)]) (by simp[go_sem]) ?_;have hz:=BI KG;have I:=BI (x:=(n,ad)) ⟨av,cE⟩;have aa:=bW ok;simp[iH,Fy,Value.cells,hz,tI,amV,amW,ok,cE,aa,I]
theorem Zg(x:yv)(w:World)(ok:xV x):aP Tryz.prog 126 #[.agg (hO x)] w λW w'=>nf 5 w W 512 (bm (nH x)) w':=by
 refine bn Tryz.func126 Tryz.ntmps126 λaZ Z=> ?_;have zO:=BI ok;have wE:=Oz ok;simp[go_sem,zO,wE];have ba:=cl w (.cells (hO x) 182);have aI:=(D.refl ak w).alloc (.cells (hO x) 182);obtain⟨ab,de⟩:=az (w.alloc (.cells (hO x) 182));rw[de]at ba aI⊢;have aK:=(aG ba 0).trans aii;refine cD [A 0,A 1,A 3,A 4,(2,some [3,4]),(5,some []),(6,some []),A 7] ?_;simp[go_sem,aK,ba,zO,ZT ok];refine(Wp (.slice none 0 0) 0 [] x.1 _ ok.n (by decide) (World.ownsRow_nil _ _ _ _)).mono ?_;intro jf ai hL;have cC:=hL.2.1.ah (show ab.drew.1[w.1.size]? =_ from ba) λe=>by simp[Value.ownBlock]at e
 simp[go_sem,cC,zO,ZT ok];refine(Rv jf 8 (bX x.1 8) x.2 ai ok.p (by decide) (jC _ _) (by simpa using hL.1)).mono ?_;intro v3 aC kC;simp[go_sem];refine(Rk v3 72 (bX x.1 8++jq x.2) 512 aC (by decide) (by decide) (by simp[jC,Ax ok.p]) (by simpa using kC.1)).mono ?_;intro v4 be mv;simp[go_sem];have gv:nf 5 w (.slice none 0 0) 0 (bm []) ab.drew:=nf.nil _ aI.drew;have fl:=gv.grow hL.1 hL.2.1 hL.2.2;have iN:=fl.grow kC.1 kC.2.1 kC.2.2;have ix:=iN.grow mv.1 mv.2.1 mv.2.2;refine Z _ _ ?_;have e:nH x=[]++bX x.1 8++jq x.2++List.replicate (Int.toNat 512 - 72) 0:=by
  rw[show List.replicate (Int.toNat 512 - 72) (0:UInt8)=cV 440 from rfl,List.nil_append,List.append_assoc];rfl
 rw[e];exact ix
theorem auS(v:Value)(b:List UInt8)(w:World)(al:b.length<=1000000)(aw:bD w v b.length (bm b))(bH:lN w):
  aP Tryz.prog 78 #[v] w λW w'=>W=.tuple #[.agg (hO (sz b).1),.int .i64 (sz b).2]/\D ak w w':=by
 refine bn Tryz.func78 Tryz.ntmps78 λaZ Z=> ?_;have dN:=BI KG;have iz:=Oz KG;have cI:=aw.len Tryz.underlying101 3;have eG:=bH.lt;simp[go_sem,Fx,Fy];have aI:=(D.refl ak w).alloc (.cells (hO wW) 182);have ba:=cl w (.cells (hO wW) 182);obtain⟨ab,de⟩:=az (w.alloc (.cells (hO wW) 182));rw[de]at ba aI⊢;have xg:=lt_of_block ba;refine(Mc v b ab (by omega) (aw.ch aI λ_ _ e=>e)).mono ?_;rintro _ ai ⟨cq,o,rfl,a',QX,Jd,aX,bq⟩;have aA:=aI.trans bq;have cC:=bq.ah ba id;simp[go_sem];refine(We cq b 0 ai (by omega) aX).mono ?_;rw[show cQ b 0 8=t1 b from rfl];rintro _ aC ⟨rfl,uQ,ei⟩;have cm:=ei.ah cC (by simp only[only];omega);have aE:D ak w aC:=aA.bJ ei λj F e=>by simp only[only]at e;omega
 have AV:=aE.size;have aJM:=ei.size;have B_:(t1 b).2.1.length<=b.length:=JB _ _ _;obtain⟨G,ff⟩:=az (dQ (t1 b).1);have Kb:G<18446744073709551616:=ff▸EL b 0 8;rw[ff];have amY:xV (G,ad):=⟨Kb,cE⟩;have mG:=BI amY;have aDA:=Oz amY;simp[go_sem,aDz,Fx,Fy,mG,aDA,dN,bQ];have dU:=(D.refl ak aC).alloc (.cells (hO (G,ad)) 182);have ci:=cl aC (.cells (hO (G,ad)) 182);obtain⟨be,mb⟩:=az (aC.alloc (.cells (hO (G,ad)) 182));rw[mb]at ci dU⊢;have bv:=aE.trans dU;have Xw:=lt_of_block ci;have aDB:=dU.ah cm id;have aJN:=uQ.lt;refine(Wc cq o (t1 b).2.1 (t1 b).2.2 be (by omega) (bH.ch bv id) (by omega) (uQ.ch dU id id) (by omega)).mono ?_;rw[show oy (t1 b).2.1 (t1 b).2.2=dK b from rfl];rintro _ bw ⟨rfl,tJ,mc⟩;have ji:bN (dK b).1:=JC _ _;have Ru:(dK b).2.1.length<=(t1 b).2.1.length:=Xv _ _;have dj:=mc.ah ci (by simp only[only];omega);have aDC:=mc.ah aDB (by simp only[only];omega);have ur:xV (G,(dK b).1):=⟨Kb,ji⟩;have zO:=BI ur;have wE:=Oz ur;have cU:=bW ji;have bx:D ak w bw:=bv.bJ mc λj F e=>by simp only[only]at e;omega
 have LH:=bx.size;have aJO:=mc.size;simp[go_sem,dj,mG,cU,amW G ji cE];have xC:=(D.refl (only aC.1.size) bw).setRow (g:=aC.1.size) (.inl rfl) (hO (G,(dK b).1));have gx:(bw.setRow aC.1.size (hO (G,(dK b).1))).1[aC.1.size]? =some (.cells (hO (G,(dK b).1)) 182 (0,0)):=by rw[gk,dj];rfl
 obtain⟨cd,pr⟩:=az (bw.setRow aC.1.size (hO (G,(dK b).1)));rw[pr]at gx xC⊢;have Je:=tJ.ch xC (by simp only[only];omega) (by simp only[only];omega);have aDD:=xC.ah aDC (by simp only[only];omega);have co:D ak w cd:=bx.bJ xC λj F e=>by simp only[only]at e;omega
 refine(Mi cq _ _ cd Je).mono ?_;rintro _ cF ⟨rfl,rfl⟩;simp[go_sem];refine(Re cq _ _ _ cF (by omega) (by omega) Je).mono ?_;rw[Int.toNat_natCast,show tK (dK b).2.1 (dK b).2.2 (dK b).2.1.length=t3 b from rfl];rintro _ eA ⟨rfl,XC,EM⟩;have oj:=EM.ah gx (by simp only[only];omega);have aDE:=EM.ah aDD (by simp only[only];omega);have ev:D ak w eA:=co.bJ EM λj F e=>by simp only[only]at e;omega
 simp[go_sem];refine(Rf cq _ _ eA XC).mono ?_;rw[show rf (t3 b).1 (t3 b).2=t4 b from rfl];rintro _ dC ⟨rfl,aJP,acV⟩;have rG:=acV.ah oj (by simp only[only];omega);have Qy:=acV.ah aDE (by simp only[only];omega);have dX:D ak w dC:=ev.bJ acV λj F e=>by simp only[only]at e;omega
 by_cases h:(t4 b).2=0/\b.length=512
 ·have e:sz b=(Qw b,0):=by unfold sz;rw[if_pos h]
  rw[e]at Z;rw[show Qw b=(G,(dK b).1)by rw[<-ff];rfl]at Z;have JL:(dC.setRow w.1.size (hO (G,(dK b).1))).1[w.1.size]? =some (.cells (hO (G,(dK b).1)) 182 (0,0)):=by rw[gk,Qy];rfl
  simp[go_sem,h.1,h.2,cI,rG,Qy,zO,wE,dN,bQ,JL];exact Z _ _ ⟨rfl,dX.setRow (g:=w.1.size) (.inr (by omega)) _⟩
 ·have e:sz b=(wW,5):=by unfold sz;rw[if_neg h]
  rw[e]at Z;have JL:(dC.setRow w.1.size (hO wW)).1[w.1.size]? =some (.cells (hO wW) 182 (0,0)):=by rw[gk,Qy];rfl
  by_cases aU:(t4 b).2=0
  ·have bC:((b.length:Int)!=512)=true:=by
    have:¬(b.length:Int)=512:=by omega
    simpa using this
   simp[go_sem,aU,bC,cI,amX,Qy,dN,iz,bQ,JL];exact Z _ _ ⟨rfl,dX.setRow (g:=w.1.size) (.inr (by omega)) _⟩
  ·have GJ:((t4 b).2 !=0)=true:=by simpa using aU
   simp[go_sem,GJ,amX,Qy,dN,iz,bQ,JL];exact Z _ _ ⟨rfl,dX.setRow (g:=w.1.size) (.inr (by omega)) _⟩
end Go.Proofs.YtoohkhcpboldjaaGreatDoor
