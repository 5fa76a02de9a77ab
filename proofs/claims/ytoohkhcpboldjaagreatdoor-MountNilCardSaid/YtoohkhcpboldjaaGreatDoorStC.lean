/- A table in a store: read, told, set, and which blocks come and go. They speak of no memory. No condition. -/
import Derived.Test.YtoohkhcpboldjaaGreatDoorStA
set_option linter.unusedSimpArgs false
set_option linter.unusedVariables false
namespace Go.Proofs.YtoohkhcpboldjaaGreatDoor
open Go.RowKit Go.Kin
theorem Vg(l:List Pt){i:Nat}(aa:i<l.length)(y x:Pt):(l.set i y).count x+(if l.getD i ad=x then 1 else 0)=l.count x+(if y=x then 1 else 0):=by
 grind
section
variable{ay:Type}{S:hp ay}{s bt cw:ay}{m g gv cB fl cb:List Pt}{bu p:Pt}{top h n:List Pt}{off:Nat}
theorem al1(ae:S.Laws){G:Nat}{n0:List Pt}:∀(l:List (Nat×Pt)) (s:ay) (n:List Pt),S.ok s->n.length=8->(∀x∈l,x.1 / 8=G)->l.Pairwise (λx y=>x.1<y.1)->(∀x∈l,n.getD (x.1%8) ad=n0.getD (x.1%8) ad)->
  (∀k,k<8->n0.getD k ad≠ad->∃b,S.has s (n0.getD k ad) b)->(∀x∈l,x.2=ad\/x.2≠n0.getD (x.1%8) ad)->
  ∃s' g,l.foldl (qY S.bM) (s,n)=(s',uD n l)/\S.fb s s' [] g/\∀x,x≠ad->(uD n l).count x+g.count x=n.count x+(l.map (·.2)).count x
 |[],s,n,aB,_,_,_,_,_,_=>⟨s,[],by simp[uD],hp.fb.refl aB,λx _=>by simp[uD]⟩
 |x::l,s,n,aB,av,aF,ah,bf,aD,bU=>by
  have M:=aF x (by simp);have iT:=bf x (by simp);have aB7:=bU x (by simp);obtain⟨k,r⟩:=az (x.1%8);have AU:k<8:=by omega
  rw[r]at iT aB7;have fW:=List.pairwise_cons.1 ah;obtain⟨bt,cB,aK,ey,aI⟩:∃bt cB,qY S.bM (s,n) x=(bt,n.set k x.2)/\S.fb s bt [] cB/\∀y,y≠ad->(n.set k x.2).count y+cB.count y=n.count y+(if x.2=y then 1 else 0):=by
   have T:=λy=>Vg n (i:=k) (by omega) x.2 y;unfold qY;rw[r,iT];simp only[iT]at T;by_cases hz:n0.getD k ad=ad
   ·rw[if_neg (λe=>e.2 hz)];refine⟨s,[],rfl,hp.fb.refl aB,λy ar=> ?_⟩
    grind
   ·by_cases ar:n0.getD k ad=x.2
    ·grind
    ·rw[if_pos ⟨ar,hz⟩];obtain⟨b,V⟩:=aD k AU hz;refine⟨_,[n0.getD k ad],rfl,ae.bM s _ b aB V,λy _=> ?_⟩
     grind
  obtain⟨cw,cb,aW,cZ,aA⟩:=al1 ae (G:=G) (n0:=n0) l bt (n.set k x.2) ey.ok (by simp[av]) (λy ar=>aF y (by simp[ar])) fW.2 (λy ar=>by
   grind) (λj F hz=>by
   obtain⟨b,V⟩:=aD j F hz;exact⟨b,ey.has _ _ V⟩) λy ar=>bU y (by simp[ar])
  have aw:uD n (x::l)=uD (n.set k x.2) l:=by rw[<-r];rfl
  refine⟨cw,cB++cb,?_,ey.trans cZ,λy ar=> ?_⟩
  ·grind
  grind
theorem al2(ae:S.Laws){aQ DS:List Pt}{lev obj off:Nat}(aB:S.ok s)(J:pE (S.has s) p aQ)(oP:hE DS)(lJ:DS.all fy=true)(aB8:lev=1\/lev=2)(Ap:obj<65536)(lg:off<4294967296):
  (∃s' q m g,qZ S.nw S.bM s p aQ DS lev obj off=(s',q,0)/\S.fb s s' m g/\pE (S.has s') q DS/\m.length<=1/\(∀y∈m,y.k=3/\y.l=lev)/\(q=p\/q=ad\/(q.k=3/\q.l=lev))/\∀x,x≠ad->(if q=x then 1 else 0)+g.count x=(if p=x then 1 else 0)+m.count x)\/
  S.sK s 2 (qZ S.nw S.bM s p aQ DS lev obj off):=by
 have ba:∀a b:Pt,(a==b)=decide (a=b):=λ_ _=>rfl;have xD:∀s',S.fb s s' [] []->S.fb s (if p=ad then s' else S.bM s' p) [] (if p=ad then[]else[p]):=λs' M=>by
  by_cases ah:p=ad
  ·grind
  ·rw[if_neg ah,if_neg ah];rcases J.dn with⟨e,_⟩|⟨_,_,V,_⟩
   ·exact absurd e ah
   ·exact M.trans (ae.bM _ _ _ M.ok (M.has _ _ V))
 have XG:∀x,x≠ad->(if p=ad then[]else[p]).count x=if p=x then 1 else 0:=λx M=>by
  grind
 unfold qZ;by_cases aw:DS=aQ
 ·rw[if_pos aw];exact .inl ⟨s,p,[],[],rfl,hp.fb.refl aB,by rw[aw];exact J,by simp,by simp,.inl rfl,λx _=>by simp⟩
 rw[if_neg aw];have qB:=xD s (hp.fb.refl aB);by_cases hz:DS=dY
 ·rw[if_pos hz];refine .inl ⟨_,ad,[],_,rfl,qB,by rw[hz];exact pE.z,by simp,by simp,.inr (.inl rfl),λx M=> ?_⟩
  grind
 rw[if_neg hz,if_neg (by rw[lJ];decide)];have cI:(lS DS).length=512:=by rw[RP _ oP.all,oP.len]
 have acd:Du (rP lev obj off):=⟨al3 (by omega) Ap lg,.inl ⟨rfl,aB8⟩⟩;rcases ae.nw _ (rP lev obj off) (lS DS) qB.ok acd cI with⟨q,aK,aW,dt,cW,fD⟩|e
 ·have aq:=(ae.Y _ _ _ aW.ok dt);have Aq:q≠ad:=λe=>by rw[e]at aq;exact absurd aq.2.1 (by decide)
  refine .inl ⟨_,q,[q],_,aK,qB.trans aW,⟨oP,lJ,.inr ⟨Aq,hz,dt,cW.1⟩⟩,by simp,λy ar=> ?_,.inr (.inr ⟨cW.1,cW.2.1⟩),λx M=> ?_⟩
  ·rw[List.mem_singleton]at ar;rw[ar];exact⟨cW.1,cW.2.1⟩
  grind
 ·exact .inr (e.yr qB)
theorem aB9(ae:S.Laws){G obj:Nat}{aQ:List Pt}{l:List (Nat×Pt)}(aB:S.ok s)(ff:G<8)(J:pE (S.has s) p aQ)(al:∀x∈l,x.1 / 8=G)(ah:l.Pairwise λx y=>x.1<y.1)(gg:∀x∈l,bN x.2/\fy x.2=true)
  (nN:∀k,k<8->aQ.getD k ad≠ad->∃b,S.has s (aQ.getD k ad) b)(bU:∀x∈l,x.2=ad\/x.2≠aQ.getD (x.1%8) ad)(Ap:obj<65536):
  (∃s' q m g,nR S.rd S.nw S.bM obj s p G l=(s',q,0)/\S.fb s s' m g/\pE (S.has s') q (uD aQ l)/\m.length<=1/\(∀y∈m,y.k=3)/\bN q/\fy q=true/\
   ∀x,x≠ad->(if q=x then 1 else 0)+(uD aQ l).count x+g.count x=(if p=x then 1 else 0)+aQ.count x+m.count x+(l.map (·.2)).count x)\/
  S.sK s 2 (nR S.rd S.nw S.bM obj s p G l):=by
 unfold nR;rcases J.vo ae aB with⟨aK,aW⟩|⟨_,aK⟩
 ·have a_:(cv S.rd s p).2.2=0:=by rw[aW]
  have bh:(cv S.rd s p).2.1=aQ:=by rw[aW]
  rw[if_neg (by rw[a_];simp),bh];obtain⟨cw,cb,H,I,af⟩:=al1 ae (G:=G) (n0:=aQ) l (cv S.rd s p).1 aQ aK.ok J.ez.len al ah (λ_ _=>rfl) (λk r hz=>by
   obtain⟨b,V⟩:=nN k r hz;exact⟨b,aK.has _ _ V⟩) bU
  rw[H];obtain⟨oP,lJ⟩:=alS l aQ J.ez J.all gg;have cZ:=aK.trans I;rcases al2 ae (lev:=1) (obj:=obj) (off:=G) I.ok (J.mono cZ.has) oP lJ (.inl rfl) Ap (by omega)with⟨gL,q,iN,cj,a',aX,bq,ec,ft,iI,lP⟩|k
  ·refine .inl ⟨gL,q,iN,cb++cj,a',by simpa using cZ.trans aX,bq,ec,λy ar=>(ft y ar).1,?_,?_,λx M=> ?_⟩
   ·rcases bq.dn with⟨e,_⟩|⟨_,_,V,_⟩
    ·rw[e];exact cE
    ·exact(ae.Y _ _ _ aX.ok V).1
   ·rcases bq.dn with⟨e,_⟩|⟨_,_,V,_⟩
    ·rw[e];decide
    ·exact RF.2 (.inr (ae.Y _ _ _ aX.ok V).2.1)
   grind
  ·exact .inr (k.yr cZ)
 ·rw[if_pos aK.ne];exact .inr (aK.mono (by omega))
structure DT(S:hp ay)(tR:ay)(t h:List Pt)(s:ay)(n c:List Pt)(m g put:List Pt):Prop where
 ext:S.fb tR s m g
 Vh:n.length=8
 iZ:c.length=64
 ez:∀p∈n,bN p
 all:n.all fy=true
 cq:∀G,G<8->pE (S.has s) (n.getD G ad) (it G c)
 Vi:∀y∈m,y.k=3
 TI:∀x,x≠ad->n.count x+c.count x+g.count x=t.count x+h.count x+m.count x+put.count x
theorem al4(G:Nat)(ff:G<8):∀(l:List (Nat×Pt)) (c:List Pt),c.length=64->(∀x∈l,x.1 / 8=G)->∀x,(kx c l).count x+(it G c).count x=c.count x+(uD (it G c) l).count x
 |[],c,_,_,x=>by simp[kx,uD]
 |y::l,c,T,al,x=>by
  have ar:=al y (by simp);have bG:=al4 G ff l (c.set y.1 y.2) (by grind) (λz hz=>al z (by simp[hz])) x;have aK:it G (c.set y.1 y.2)=(it G c).set (y.1%8) y.2:=by rw[<-alO,show 8*G+y.1%8=y.1 by omega]
  rw[aK]at bG;have H:=Vg c (i:=y.1) (by omega) y.2 x;have I:=Vg (it G c) (i:=y.1%8) (by rw[ah7 T ff];omega) y.2 x;rw[Ih (by omega),show 8*G+y.1%8=y.1 by omega]at I;show(kx (c.set y.1 y.2) l).count x+_=_+(uD ((it G c).set (y.1%8) y.2) l).count x;omega
theorem DT.low{tR:ay}{t c put:List Pt}(ae:S.Laws)(hq:DT S tR t h s n c m g put){G obj:Nat}{l:List (Nat×Pt)}(ff:G<8)(al:∀x∈l,x.1 / 8=G)(ah:l.Pairwise λx y=>x.1<y.1)(gg:∀x∈l,bN x.2/\fy x.2=true)
  (nN:∀o,o<64->c.getD o ad≠ad->∃b,S.has s (c.getD o ad) b)(bU:∀x∈l,x.2=ad\/x.2≠c.getD x.1 ad)(Ap:obj<65536):
  (∃s' q m' l_,nR S.rd S.nw S.bM obj s (n.getD G ad) G l=(s',q,0)/\S.fb s s' m' l_/\m'.length<=1/\DT S tR t h s' (n.set G q) (kx c l) (m++m') (g++l_) (put++l.map (·.2)))\/
  S.sK s 2 (nR S.rd S.nw S.bM obj s (n.getD G ad) G l):=by
 rcases aB9 ae (G:=G) (obj:=obj) (l:=l) hq.ext.ok ff (hq.cq G ff) al ah gg (λk r hz=>by
  rw[Ih r]at hz⊢;exact nN _ (by omega) hz) (λx M=>by
  rw[Ih (by omega),show 8*G+x.1%8=x.1 by have:=al x M;omega];exact bU x M) Ap with⟨s',q,m',l_,H,I,af,aU,bC,cG,eD,eb⟩|e
 ·refine .inl ⟨s',q,m',l_,H,I,aU,hq.ext.trans I,by simp[hq.Vh],by rw[alN,hq.iZ],λy ar=> ?_,?_,λj F=> ?_,λy ar=> ?_,λx M=> ?_⟩
  ·rcases List.mem_or_eq_of_mem_set ar with ar|rfl
   ·exact hq.ez y ar
   ·exact cG
  ·rw[List.all_eq_true];intro y ar;rcases List.mem_or_eq_of_mem_set ar with ar|rfl
   ·exact List.all_eq_true.1 hq.all y ar
   ·exact eD
  ·by_cases ace:j=G
   ·subst ace;rw[alM (by rw[hq.Vh];exact F),alP l c al];exact af
   ·rw[getD_set_ne (Ne.symm ace),alQ (Ne.symm ace) l c al];exact(hq.cq j F).mono I.has
  ·rcases List.mem_append.1 ar with ar|ar
   ·exact hq.Vi y ar
   ·exact bC y ar
  ·have a1:=hq.TI x M;have a2:=eb x M;have a3:=Vg n (i:=G) (by rw[hq.Vh];exact ff) q x;have a4:=al4 G ff l c hq.iZ al x
   grind
 ·exact .inr e
theorem DT.al5{tR:ay}{t:List Pt}(ae:S.Laws){obj:Nat}(Ap:obj<65536):∀(iF:Nat) (l:List (Nat×Pt)) (vE:Nat) (s:ay) (n c m g put:List Pt),DT S tR t h s n c m g put->l.length<=iF->l.Pairwise (λx y=>x.1<y.1)->(∀x∈l,x.1<64/\vE<=x.1 / 8)->
  (∀x∈l,bN x.2/\fy x.2=true)->(∀o,vE<=o / 8->c.getD o ad=h.getD o ad)->(∀o,o<64->h.getD o ad≠ad->∃b,S.has tR (h.getD o ad) b)->(∀x∈l,x.2=ad\/x.2≠h.getD x.1 ad)->
  (∀o,o<64->c.getD o ad≠ad->∃b,S.has s (c.getD o ad) b)->(∀x∈l,x.2=ad\/∃b,S.has s x.2 b)->
  (∃s' fi m' l_,o_ S.rd S.nw S.bM obj iF s n l=(s',fi,0)/\S.fb s s' m' l_/\m'.length<=l.length/\m'.length<=8 - vE/\DT S tR t h s' fi (kx c l) (m++m') (g++l_) (put++l.map (·.2)))\/S.sK s (2*min l.length (8 - vE)) (o_ S.rd S.nw S.bM obj iF s n l)
 |0,l,vE,s,n,c,m,g,put,hq,bU,_,_,_,_,_,_,_,_=>by
  obtain rfl:l=[]:=List.eq_nil_of_length_eq_zero (by omega);exact .inl ⟨s,n,[],[],rfl,hp.fb.refl hq.ext.ok,by simp,by simp,by simpa[kx]using hq⟩
 |iF+1,[],vE,s,n,c,m,g,put,hq,bU,_,_,_,_,_,_,_,_=>.inl ⟨s,n,[],[],rfl,hp.fb.refl hq.ext.ok,by simp,by simp,by simpa[kx]using hq⟩
 |iF+1,x::l,vE,s,n,c,m,g,put,hq,bU,ah,al,gg,T,aD,da,yX,vP=>by
  obtain⟨G,ff⟩:=az (x.1 / 8);have M:=al x (by simp);have Kb:G<8:=by omega
  have nJ:∀y∈x::l,G<=y.1 / 8:=λy ar=>by
   rcases List.mem_cons.1 ar with rfl|h
   ·omega
   ·have:=(List.pairwise_cons.1 ah).1 y h;omega
  have GT:(jB G (x::l)).Sublist (x::l):=List.takeWhile_sublist _;have aJu:1<=(jB G (x::l)).length:=by
   unfold jB;rw[List.takeWhile_cons,if_pos (by simp[ff])];simp
  rw[o_];simp only[ff];rcases hq.low ae Kb (l:=jB G (x::l)) (λy ar=>(Vf ar).2) (ah.sublist GT) (λy ar=>gg y (Vf ar).1) yX (λy ar=>by
   grind) Ap with⟨bt,q,gv,cB,aK,ey,lm,FD⟩|e
  ·rw[aK];simp only[ne_eq,not_true_eq_false,if_false];have cI:(jB G (x::l)).length+((x::l).drop (jB G (x::l)).length).length=(x::l).length:=by
    rw[List.length_drop];have:=GT.length_le;omega
   rcases DT.al5 ae Ap iF ((x::l).drop (jB G (x::l)).length) (G+1) bt (n.set G q) _ _ _ _ FD (by omega) (ah.sublist (List.drop_sublist _ _)) (λy ar=>by
    rw[alT]at ar;obtain⟨H,I⟩:=alU ah nJ y ar;exact⟨(al y H).1,I⟩) (λy ar=>gg y (List.mem_of_mem_drop ar)) (λo aB=>by
    rw[alR (g:=G) _ _ (λy ar=>(Vf ar).2) o (by omega)];exact T o (by omega)) aD (λy ar=>da y (List.mem_of_mem_drop ar)) (λo aB hz=>by
    by_cases al6:∃y∈jB G (x::l),y.1=o
    ·obtain⟨y,ar,rfl⟩:=al6;have aW:(kx c (jB G (x::l))).getD y.1 ad=y.2:=by
      rw[Qm];exact Qk ad _ c (ah.sublist GT) y ar (by rw[hq.iZ];exact aB)
     rw[aW]at hz⊢;rcases vP y (Vf ar).1 with dt|⟨b,V⟩
     ·exact absurd dt hz
     ·exact⟨b,ey.has _ _ V⟩
    ·have aW:(kx c (jB G (x::l))).getD o ad=c.getD o ad:=by
      rw[Qm];exact ID ad _ c o λy ar e=>al6 ⟨y,ar,e⟩
     rw[aW]at hz⊢;obtain⟨b,V⟩:=yX o aB hz;exact⟨b,ey.has _ _ V⟩) (λy ar=>(vP y (List.mem_of_mem_drop ar)).imp id λ⟨b,V⟩=>⟨b,ey.has _ _ V⟩)with⟨cw,kA,fl,cb,aW,cZ,jD,Cf,al7⟩|e
   ·have e:jB G (x::l)++(x::l).drop (jB G (x::l)).length=x::l:=by
     rw[alT];exact List.takeWhile_append_dropWhile
    have dt:kx (kx c (jB G (x::l))) ((x::l).drop (jB G (x::l)).length)=kx c (x::l):=by rw[<-aB2,e]
    have cW:put++(jB G (x::l)).map (·.2)++((x::l).drop (jB G (x::l)).length).map (·.2)=put++(x::l).map (·.2):=by grind
    rw[dt,cW,List.append_assoc,List.append_assoc]at al7;exact .inl ⟨cw,kA,gv++fl,cB++cb,aW,ey.trans cZ,by grind,by rw[List.length_append];omega,al7⟩
   ·refine .inr ((e.after ey).mono ?_);have ab:fU gv<=gv.length*2:=Ly λy ar=>by
     have:=FD.Vi y (by simp[ar]);rw[this];decide
    omega
  ·rw[if_pos e.ne];refine .inr (e.mono ?_)
   grind
def mM(bu:Pt)(top h:List Pt)(x:Pt):Nat:=(if bu=x then 1 else 0)+top.count x+h.count x
theorem hy.set(ae:S.Laws)(aB:S.ok s)(t:hy (S.has s) bu top h){obj:Nat}(Ap:obj<65536){l:List (Nat×Pt)}(ah:l.Pairwise λx y=>x.1<y.1)(al:∀x∈l,x.1<64)
  (aD:∀o,o<64->h.getD o ad≠ad->∃b,S.has s (h.getD o ad) b)(vP:∀x∈l,x.2=ad\/(x.2≠h.getD x.1 ad/\∃b,S.has s x.2 b)):
  (∃s' J n m g,pq S.rd S.nw S.bM obj s bu l=(s',J,0)/\S.fb s s' m g/\hy (S.has s') J n (kx h l)/\m.length<=l.length+1/\m.length<=9/\(l=[]->m=[])/\(∀y∈m,y.k=3)/\(∀x,x≠ad->mM J n (kx h l) x+g.count x=mM bu top h x+m.count x+(l.map (·.2)).count x))\/
  S.sK s (if l=[]then 0 else 2*(min l.length 8+1)) (pq S.rd S.nw S.bM obj s bu l):=by
 have gg:∀x∈l,bN x.2/\fy x.2=true:=λx M=>by
  rcases vP x M with e|⟨_,b,V⟩
  ·rw[e];exact⟨cE,by decide⟩
  ·have:=ae.Y _ _ _ aB V;exact⟨this.1,RF.2 (.inr this.2.1)⟩
 have ij:=alV l none (λx M=>⟨al x M,(gg x M).2⟩) ah (λy ar=>by cases ar);unfold pq;rw[ij,t.BJ];simp only[Bool.and_self,if_true];by_cases nY:l=[]
 ·subst nY;rw[if_pos rfl];exact .inl ⟨s,bu,top,[],[],rfl,hp.fb.refl aB,t,by simp,by simp,λ_=>rfl,by simp,λx _=>by simp[kx]⟩
 rw[if_neg nY];rcases t.ho.vo ae aB with⟨aK,aW⟩|⟨_,aK⟩
 ·have a_:(cv S.rd s bu).2.2=0:=by rw[aW]
  have bh:(cv S.rd s bu).2.1=top:=by rw[aW]
  rw[if_neg (by rw[a_];simp),bh];have aB_:DT S s top h (cv S.rd s bu).1 top h [] [] []:=⟨aK,t.ho.ez.len,t.al,t.ho.ez.all,t.ho.all,λG ff=>(t.cq G ff).mono aK.has,by simp,λx _=>by simp⟩;rcases DT.al5 ae Ap l.length l 0 _ top h [] [] [] aB_ (Nat.le_refl _) ah (λx M=>⟨al x M,Nat.zero_le _⟩) gg (λ_ _=>rfl) aD (λx M=>(vP x M).imp id λe=>e.1) (λo sL hz=>by
   obtain⟨b,V⟩:=aD o sL hz;exact⟨b,aK.has _ _ V⟩) (λx M=>(vP x M).imp id λ⟨_,b,V⟩=>⟨b,aK.has _ _ V⟩)with⟨cw,n,fl,cb,a',aX,bq,np,hq⟩|e
  ·rw[a'];simp only[ne_eq,not_true_eq_false,if_false];simp only[List.nil_append]at hq;have ez:hE n:=⟨hq.Vh,hq.ez⟩;rcases al2 ae (lev:=2) (obj:=obj) (off:=0) hq.ext.ok (t.ho.mono hq.ext.has) ez hq.all (.inr rfl) Ap (by decide)with⟨gL,q,iN,cj,Ip,eM,GY,aeU,Xp,aB',AS⟩|e
   ·refine .inl ⟨gL,q,n,fl++iN,cb++cj,Ip,hq.ext.trans eM,⟨GY,?_,λG ff=>(hq.cq G ff).mono eM.has,hq.iZ⟩,by rw[List.length_append];omega,by grind,λe=>absurd e nY,λy ar=> ?_,λx M=> ?_⟩
    ·unfold r';rcases aB' with e|e|e
     ·rw[e];exact t.BJ
     ·rw[e];decide
     ·rcases GY.dn with⟨fD,_⟩|⟨_,_,V,_⟩
      ·rw[fD];decide
      ·rw[(ae.Y _ _ _ eM.ok V).2.1,e.1,e.2];simp
    ·rcases List.mem_append.1 ar with ar|ar
     ·exact hq.Vi y ar
     ·exact(Xp y ar).1
    ·have a1:=hq.TI x M;have a2:=AS x M;unfold mM
     grind
   ·refine .inr ((e.after hq.ext).mono ?_);have ab:fU fl<=fl.length*2:=Ly λy ar=>by
     have:=hq.Vi y ar;rw[this];decide
    rw[if_neg nY];omega
  ·rw[if_pos e.ne];refine .inr ((e.yr aK).mono ?_);rw[if_neg nY];omega
 ·rw[if_pos aK.ne];exact .inr (aK.mono (Nat.zero_le _))
end
structure sH(has:Pt->List UInt8->Prop)(p:Pt)(ae:List br):Prop where
 ok:kW ae
 all:ae.all fI=true
 dn:(p=ad/\ae=fO)\/(p≠ad/\ae≠fO/\has p (lv ae)/\p.k=4)
structure lj(has:Pt->List UInt8->Prop)(p:Pt)(top h:List Pt)(v:List br):Prop where
 lK:hy has p top h
 lf:∀o,o<64->sH has (h.getD o ad) (iv o v)
 al:v.length=256
 v0:v.getD 0 bA=bA
section
variable{has ot:Pt->List UInt8->Prop}{p q bu:Pt}{n top h:List Pt}{v ae:List br}
theorem sH.z:sH has ad fO:=⟨uR,aei,.inl ⟨rfl,rfl⟩⟩
theorem sH.iff(h:sH has p ae):p=ad↔ae=fO:=by
 rcases h.dn with⟨H,I⟩|⟨H,I,_⟩
 ·grind
 grind
theorem sH.mono(h:sH has p ae)(aH:∀q b,has q b->ot q b):sH ot p ae:=⟨h.ok,h.all,h.dn.imp id λ⟨a,b,c,d⟩=>⟨a,b,aH _ _ c,d⟩⟩
theorem lj.mono(t:lj has p top h v)(aH:∀q b,has q b->ot q b):lj ot p top h v:=⟨t.lK.mono aH,λo aB=>(t.lf o aB).mono aH,t.al,t.v0⟩
theorem lj.z:lj has ad dY (List.replicate 64 ad) (List.replicate 256 bA):=by
 refine⟨hy.z,λo aB=> ?_,List.length_replicate,rfl⟩;have e:iv o (List.replicate 256 bA)=fO:=by
  unfold iv fO
  grind
 have aW:(List.replicate 64 ad).getD o ad=ad:=by
  rw[List.getD_eq_getElem?_getD,List.getElem?_replicate];split<;>rfl
 rw[e,aW];exact sH.z
theorem lj.aD(t:lj has p top h v):∀o,o<64->h.getD o ad≠ad->∃b,has (h.getD o ad) b:=λo aB hz=>by
 rcases(t.lf o aB).dn with⟨e,_⟩|⟨_,_,e,_⟩
 ·exact absurd e hz
 ·exact⟨_,e⟩
theorem lj.aCa(t:lj has p top h v):∀x∈v,gR x/\fI x=true:=λx M=>by
 obtain⟨n,av⟩:=List.mem_iff_getElem?.1 M;have aO:=(List.getElem?_eq_some_iff.1 av).1;rw[t.al]at aO;have e:=KE (o:=n / 4) (v:=v) (show n%4<4 by omega);have al:=aib t.al (show n / 4<64 by omega);rw[show 4*(n / 4)+n%4=n by omega,List.getD_eq_getElem?_getD,List.getD_eq_getElem?_getD,av,List.getElem?_eq_getElem (by rw[al];omega)]at e;have e:(iv (n / 4) v)[n%4]'(by rw[al];omega)=x:=e;have aH:x∈iv (n / 4) v:=by rw[<-e];exact List.getElem_mem _
 have lf:=t.lf (n / 4) (by omega);exact⟨lf.ok.all x aH,List.all_eq_true.1 lf.all x aH⟩
theorem lj.ez(t:lj has p top h v)(n:Nat):gR (v.getD n bA)/\fI (v.getD n bA)=true:=by
 rw[List.getD_eq_getElem?_getD]
 cases av:v[n]? with
 |none=>exact⟨ls,by decide⟩
 |some x=>exact t.aCa x (List.mem_of_getElem? av)
end
section
variable{ay:Type}{S:hp ay}{s bt cw:ay}{m g gv cB fl cb:List Pt}{bu p:Pt}{top h n:List Pt}{v:List br}{off:Nat}
theorem sH.vo(ae:S.Laws)(aB:S.ok s){x:List br}(J:sH (S.has s) p x):(S.fb s (fS S.rd s p).1 [] []/\(fS S.rd s p).2=(x,0))\/((fS S.rd s p).2.1=fO/\S.sK s 0 (fS S.rd s p)):=by
 unfold fS;rcases J.dn with⟨rfl,rfl⟩|⟨H,I,af,_⟩
 ·exact .inl ⟨by simpa using hp.fb.refl aB,by simp⟩
 ·rw[if_neg H];rcases ae.rd s p _ aB af with⟨aK,aW⟩|aK
  ·have cW:(S.rd s p).2.2=0:=by rw[aW]
   have fD:(S.rd s p).2.1=lv x:=by rw[aW]
   rw[if_neg (by rw[cW];simp),fD,aey J.ok J.all,if_neg (by simp)];exact .inl ⟨aK,rfl⟩
  ·rw[if_pos aK.ne];exact .inr ⟨rfl,aK⟩
theorem lj.get(ae:S.Laws)(aB:S.ok s)(t:lj (S.has s) bu top h v){n:Nat}(H:1<=n)(I:n<=255):(S.fb s (jN S.rd s bu n).1 [] []/\(jN S.rd s bu n).2=(v.getD n bA,0))\/S.sK s 0 (jN S.rd s bu n):=by
 unfold jN;rw[if_neg (λe=>e ⟨H,I⟩)];rcases t.lK.get ae aB (off:=n / 4) (by omega)with⟨aK,aW⟩|⟨cR,aK⟩
 ·have a_:(dl S.rd s bu (n / 4)).2.2=0:=by rw[aW]
  have bh:(dl S.rd s bu (n / 4)).2.1=h.getD (n / 4) ad:=by rw[aW]
  rw[if_neg (by rw[a_];simp),bh];rcases((t.lf (n / 4) (by omega)).mono aK.has).vo ae aK.ok with⟨a',aX⟩|⟨a',aX⟩
  ·refine .inl ⟨by simpa using aK.trans a',?_⟩;rw[aX];simp only;rw[KE (by omega),show 4*(n / 4)+n%4=n by omega]
  ·exact .inr (aX.yr aK)
 ·rw[if_pos aK.ne];exact .inr aK
theorem aCb(ae:S.Laws)(aB:S.ok s)(t:lj (S.has s) bu top h v){o:Nat}(UJ:o<64){g:List (Nat×br)}(aF:∀x∈g,kM x/\fI x.2=true):
  (∃s' q b m,la S.rd S.nw s bu o g=(s',q,b,0)/\S.fb s s' m []/\m.length<=1/\(∀y∈m,y.k=4)/\
   ((b=false/\mq (iv o v) g=iv o v/\m=[])\/(b=true/\mq (iv o v) g≠iv o v/\sH (S.has s') q (mq (iv o v) g)/\q≠h.getD o ad/\∀x,x≠ad->m.count x=if q=x then 1 else 0)))\/
  S.mg s 2 (la S.rd S.nw s bu o g).1 (la S.rd S.nw s bu o g).2.2.2:=by
 have lf:=t.lf o UJ;have uE:=acf g lf.ok λx M=>(aF x M).1;have al8:=al0 g _ lf.all λx M=>(aF x M).2;unfold la;rcases t.lK.get ae aB UJ with⟨aK,aW⟩|⟨cR,aK⟩
 ·have a_:(dl S.rd s bu o).2.2=0:=by rw[aW]
  have bh:(dl S.rd s bu o).2.1=h.getD o ad:=by rw[aW]
  rw[if_neg (by rw[a_];simp),bh];rcases(lf.mono aK.has).vo ae aK.ok with⟨a',aX⟩|⟨a',aX⟩
  ·have ey:=aK.trans a';have Ip:(fS S.rd (dl S.rd s bu o).1 (h.getD o ad)).2.2=0:=by rw[aX]
   have eM:(fS S.rd (dl S.rd s bu o).1 (h.getD o ad)).2.1=iv o v:=by rw[aX]
   rw[if_neg (by rw[Ip];simp),eM];by_cases eR:mq (iv o v) g=iv o v
   ·grind
   rw[if_neg eR];by_cases hz:mq (iv o v) g=fO
   ·rw[if_pos hz];refine .inl ⟨_,_,_,[],rfl,by simpa using ey,by simp,by simp,.inr ⟨rfl,eR,by rw[hz];exact sH.z,λe=> ?_,λx M=> ?_⟩⟩
    ·exact eR (by rw[hz,lf.iff.1 e.symm])
    grind
   rw[if_neg hz,if_neg (by rw[al8];decide)];have cI:(lv (mq (iv o v) g)).length=512:=by rw[Mu _ uE.all,uE.len]
   have acd:Du (q_ o):=⟨al9 (by omega),.inr ⟨by show 1<=4;decide,by show 4<=5;decide,by show(4:Nat)≠3;decide,rfl⟩⟩;rcases ae.nw _ (q_ o) (lv (mq (iv o v) g)) ey.ok acd cI with⟨q,aI,aA,aE,bv,bx⟩|e
   ·have aq:=ae.Y _ _ _ aA.ok aE;have Aq:q≠ad:=λe=>by rw[e]at aq;exact absurd aq.2.1 (by decide)
    rw[aI];refine .inl ⟨_,q,true,[q],rfl,by simpa using ey.trans aA,by simp,λy ar=> ?_,.inr ⟨rfl,eR,⟨uE,al8,.inr ⟨Aq,hz,aE,bv.1⟩⟩,λe=> ?_,λx M=> ?_⟩⟩
    ·rw[List.mem_singleton]at ar;rw[ar];exact bv.1
    ·rcases lf.dn with⟨a1,_⟩|⟨a1,_,a2,_⟩
     ·exact Aq (e.trans a1)
     ·rw[e]at bx;exact bx _ (ey.has _ _ a2)
    grind
   ·exact .inr (e.yr ey)
  ·rw[if_pos aX.ne];exact .inr ((aX.yr aK).mono (by omega))
 ·rw[if_pos aK.ne];exact .inr (aK.mono (by omega))
theorem acg(ae:S.Laws){l:List (Nat×br)}(al:∀x∈l,kM x/\fI x.2=true):∀(os:List Nat) (s:ay) (b':List (Nat×Pt)),os.Pairwise (·<·)->(∀o∈os,o<64)->S.ok s->lj (S.has s) bu top h v->
  (∃s' yt m,lY S.rd S.nw bu l os s b'=(s',b'++yt,0)/\S.fb s s' m []/\m.length<=os.length/\(∀y∈m,y.k=4)/\yt.Pairwise (λx y=>x.1<y.1)/\(∀x∈yt,x.1∈os)/\yt.length<=os.length/\
   (∀x∈yt,sH (S.has s') x.2 (mq (iv x.1 v) (eK l x.1))/\x.2≠h.getD x.1 ad)/\(∀o∈os,(∀x∈yt,x.1≠o)->mq (iv o v) (eK l o)=iv o v)/\∀x,x≠ad->m.count x=(yt.map (·.2)).count x)\/
  S.sK s (2*os.length) (lY S.rd S.nw bu l os s b')
 |[],s,b',_,_,aB,t=>.inl ⟨s,[],[],by unfold lY;simp,hp.fb.refl aB,by simp,by simp,List.Pairwise.nil,by simp,by simp,by simp,by simp,by simp⟩
 |o::os,s,b',ah,Dq,aB,t=>by
  have fW:=List.pairwise_cons.1 ah;have zg:∀x∈eK l o,kM x/\fI x.2=true:=λx M=>al x (YB.1 M).1;rw[lY];rcases aCb ae aB t (Dq o (by simp)) zg with⟨bt,q,b,gv,aK,ey,lm,a',V⟩|e
  ·rw[aK];simp only[ne_eq,not_true_eq_false,if_false];rcases V with⟨rfl,aw,rfl⟩|⟨rfl,aw,tE,xH,T⟩
   ·simp only[Bool.false_eq_true,if_false];rcases acg ae al os bt b' fW.2 (λx M=>Dq x (by simp[M])) ey.ok (t.mono ey.has)with⟨cw,IE,fl,aW,cZ,jD,aX,tm,nA,len,all,out,uS⟩|e
    ·refine .inl ⟨cw,IE,fl,aW,by simpa using ey.trans cZ,by rw[List.length_cons];omega,aX,tm,λx M=>by simp[nA x M],by rw[List.length_cons];omega,all,λeX sL av=> ?_,uS⟩
     grind
    ·exact .inr ((e.yr ey).mono (by rw[List.length_cons];omega))
   ·simp only[if_true];rcases acg ae al os bt (b'++[(o,q)]) fW.2 (λx M=>Dq x (by simp[M])) ey.ok (t.mono ey.has)with⟨cw,IE,fl,aW,cZ,jD,aX,tm,nA,len,all,out,uS⟩|e
    ·refine .inl ⟨cw,(o,q)::IE,gv++fl,by rw[aW,List.append_assoc];rfl,by simpa using ey.trans cZ,by rw[List.length_cons,List.length_append];omega,λy ar=> ?_,List.pairwise_cons.2 ⟨λx M=>fW.1 _ (nA x M),tm⟩,λx M=> ?_,by grind,λx M=> ?_,λeX sL av=> ?_,λx M=> ?_⟩
     ·grind
     ·grind
     ·rcases List.mem_cons.1 M with rfl|M
      ·exact⟨tE.mono cZ.has,xH⟩
      ·exact all x M
     ·rcases List.mem_cons.1 sL with rfl|sL
      ·simp_all
      grind
     grind
    ·refine .inr ((e.after ey).mono ?_);have ab:fU gv<=gv.length*2:=Ly λy ar=>by
      rw[a' y ar];decide
     grind
  ·rw[if_pos e.ne];exact .inr (e.mono (by rw[List.length_cons];omega))
theorem lj.set(ae:S.Laws)(aB:S.ok s)(t:lj (S.has s) bu top h v){l:List (Nat×br)}(gg:ul none l=true)(hR:∀x∈l,kM x):
  (∃s' J n h' m g,pZ S.rd S.nw S.bM s bu l=(s',J,0)/\S.fb s s' m g/\lj (S.has s') J n h' (Ql v l)/\m.length<=(kN l).length+9/\(∀y∈m,y.k=3\/y.k=4)/\∀x,x≠ad->mM J n h' x+g.count x=mM bu top h x+m.count x)\/
  S.sK s (2*((kN l).length+9)) (pZ S.rd S.nw S.bM s bu l):=by
 have al:=alF gg;have aJv:=(alG gg).1;unfold pZ;rw[if_pos gg];rcases acg ae (l:=l) (λx M=>⟨hR x M,(al x M).2⟩) (kN l) s [] (YD l) (λo aB=>(Ny.1 aB).1) aB t with⟨bt,b',gv,aK,ey,lm,a',tm,nA,len,all,out,uS⟩|e
 ·rw[aK];simp only[List.nil_append,ne_eq,not_true_eq_false,if_false];have al_:∀x∈b',x.1<64:=λx M=>(Ny.1 (nA x M)).1;have t1:=t.mono ey.has;rcases t1.lK.set ae ey.ok (obj:=0) (by decide) tm al_ t1.aD (λx M=>by
   have ajW:=(all x M).1;rcases ajW.dn with⟨a,_⟩|⟨a,_,b,_⟩
   ·exact .inl a
   grind)with⟨cw,J,n,fl,cb,aW,cZ,aCc,jD,aCd,_,aX,TI⟩|e
  ·refine .inl ⟨cw,J,n,kx h b',gv++fl,cb,aW,by simpa using ey.trans cZ,⟨aCc,λo aB=> ?_,by rw[alX,t.al],?_⟩,by grind,λy ar=> ?_,λx M=> ?_⟩
   ·rw[alZ,Qm];by_cases aa:∃x∈b',x.1=o
    ·obtain⟨x,M,rfl⟩:=aa;rw[Qk ad b' h tm x M (by rw[t.lK.al];exact al_ x M)];exact(all x M).1.mono cZ.has
    ·have av:∀x∈b',x.1≠o:=λx M e=>aa ⟨x,M,e⟩;rw[ID ad b' h o av];have e:mq (iv o v) (eK l o)=iv o v:=by
      by_cases aH:o∈kN l
      ·exact out o aH av
      ·have:eK l o=[]:=by
        apply Classical.byContradiction;intro aF;exact aH (Ny.2 ⟨aB,aF⟩)
       rw[this];rfl
     rw[e];exact(t1.lf o aB).mono cZ.has
   ·rw[ID bA l v 0 λx M=>by have:=(al x M).1;omega];exact t.v0
   ·grind
   grind
  ·refine .inr ((e.after ey).mono ?_);have ab:fU gv<=gv.length*2:=Ly λy ar=>by
    rw[a' y ar];decide
   split<;>omega
 ·rw[if_pos e.ne];exact .inr (e.mono (by omega))
end
end Go.Proofs.YtoohkhcpboldjaaGreatDoor
