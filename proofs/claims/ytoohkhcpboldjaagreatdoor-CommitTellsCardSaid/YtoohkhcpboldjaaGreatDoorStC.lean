/- A table in a store: read, told, set, and which blocks come and go. They speak of no memory. No condition. -/
import Derived.Test.YtoohkhcpboldjaaGreatDoorStA
set_option linter.unusedSimpArgs false
set_option linter.unusedVariables false
namespace Go.Proofs.YtoohkhcpboldjaaGreatDoor
open Go.RowKit Go.Kin Tryz
theorem abA(l:List Pt){i:Nat}(ad:i<l.length)(y x:Pt):(l.set i y).count x+(if l.getD i ah=x then 1 else 0)=l.count x+(if y=x then 1 else 0):=by
 grind
section
variable {aF:Type}{S:iA aF}{s bK cR:aF}{m g gD cC gc cj:List Pt}{bO p:Pt}{top h n:List Pt}{off:Nat}
theorem at1(L:S.Laws){G:Nat}{n0:List Pt}:∀(l:List (Nat×Pt)) (s:aF) (n:List Pt),S.ok s->n.length=8->(∀x∈l,x.1 / 8=G)->l.Pairwise (λx y=>x.1<y.1)->(∀x∈l,n.getD (x.1%8) ah=n0.getD (x.1%8) ah)->
  (∀k,k<8->n0.getD k ah≠ah->∃b,S.has s (n0.getD k ah) b)->(∀x∈l,x.2=ah\/x.2≠n0.getD (x.1%8) ah)->
  ∃s' g,l.foldl (sR S.ca) (s,n)=(s',xl n l)/\S.fO s s' [] g/\∀x,x≠ah->(xl n l).count x+g.count x=n.count x+(l.map (·.2)).count x
 |[],s,n,av,_,_,_,_,_,_=>⟨s,[],by simp[xl],iA.fO.refl av,λx _=>by simp[xl]⟩
 |x::l,s,n,av,aq,aH,am,bi,aN,bP=>by
  have W:=aH x (by simp);have jJ:=bi x (by simp);have aLd:=bP x (by simp);obtain⟨k,r⟩:=aD (x.1%8);have mT:k<8:=by omega
  rw[r]at jJ aLd;have gT:=oW.1 am;obtain⟨bK,cC,aL,es,aY⟩:∃bK cC,sR S.ca (s,n) x=(bK,n.set k x.2)/\S.fO s bK [] cC/\∀y,y≠ah->(n.set k x.2).count y+cC.count y=n.count y+(if x.2=y then 1 else 0):=by
   have Z:=λy=>abA n (i:=k) (by omega) x.2 y;unfold sR;rw[r,jJ];simp only[jJ]at Z;by_cases hz:n0.getD k ah=ah
   ·rw[aQ (λe=>e.2 hz)];refine⟨s,[],rfl,iA.fO.refl av,λy ar=> ?_⟩
    grind
   ·by_cases ar:n0.getD k ah=x.2
    ·grind
    ·rw[be ⟨ar,hz⟩];obtain⟨b,ab⟩:=aN k mT hz;refine⟨_,[n0.getD k ah],rfl,L.ca s _ b av ab,λy _=> ?_⟩
     grind
  obtain⟨cR,cj,aR,cX,aK⟩:=at1 L (G:=G) (n0:=n0) l bK (n.set k x.2) es.ok (by simp[aq]) (λy ar=>aH y (by simp[ar])) gT.2 (λy ar=>by
   grind) (λj I hz=>by
   obtain⟨b,ab⟩:=aN j I hz;exact⟨b,es.has _ _ ab⟩) λy ar=>bP y (by simp[ar])
  have aA:xl n (x::l)=xl (n.set k x.2) l:=by rw[<-r];rfl
  refine⟨cR,cC++cj,?_,es.trans cX,λy ar=> ?_⟩
  ·grind
  grind
theorem at2(L:S.Laws){bd If:List Pt}{lev obj off:Nat}(av:S.ok s)(V:ro (S.has s) p bd)(hY:iJ If)(ke:If.all gI=true)(aLe:lev=1\/lev=2)(DJ:obj<65536)(iD:off<4294967296):
  (∃s' q m g,sS S.nw S.ca s p bd If lev obj off=(s',q,0)/\S.fO s s' m g/\ro (S.has s') q If/\m.length<=1/\(∀y∈m,y.k=3/\y.l=lev)/\(q=p\/q=ah\/(q.k=3/\q.l=lev))/\∀x,x≠ah->(if q=x then 1 else 0)+g.count x=(if p=x then 1 else 0)+m.count x)\/
  S.uZ s 2 (sS S.nw S.ca s p bd If lev obj off):=by
 have bt:∀a b:Pt,(a==b)=decide (a=b):=λ_ _=>rfl;have Bj:∀s',S.fO s s' [] []->S.fO s (if p=ah then s' else S.ca s' p) [] (if p=ah then[]else[p]):=λs' W=>by
  by_cases am:p=ah
  ·grind
  ·rw[aQ am,aQ am];rcases V.dI with⟨e,_⟩|⟨_,_,ab,_⟩
   ·exact absurd e am
   ·exact W.trans (L.ca _ _ _ W.ok (W.has _ _ ab))
 have aeG:∀x,x≠ah->(if p=ah then[]else[p]).count x=if p=x then 1 else 0:=λx W=>by
  grind
 unfold sS;by_cases aA:If=bd
 ·rw[be aA];exact .inl ⟨s,p,[],[],rfl,iA.fO.refl av,by rw[aA];exact V,by simp,by simp,.inl rfl,λx _=>by simp⟩
 rw[aQ aA];have sy:=Bj s (iA.fO.refl av);by_cases hz:If=eE
 ·rw[be hz];refine .inl ⟨_,ah,[],_,rfl,sy,by rw[hz];exact ro.z,by simp,by simp,.inr (.inl rfl),λx W=> ?_⟩
  grind
 rw[aQ hz,aQ (by rw[ke];decide)];have cu:(mZ If).length=512:=by rw[YK _ hY.all,hY.len]
 have ai4:HI (ub lev obj off):=⟨at3 (by omega) DJ iD,.inl ⟨rfl,aLe⟩⟩;rcases L.nw _ (ub lev obj off) (mZ If) sy.ok ai4 cu with⟨q,aL,aR,dB,dl,gL⟩|e
 ·have au:=(L.ae _ _ _ aR.ok dB);have DK:q≠ah:=λe=>by rw[e]at au;exact absurd au.2.1 (by decide)
  refine .inl ⟨_,q,[q],_,aL,sy.trans aR,⟨hY,ke,.inr ⟨DK,hz,dB,dl.1⟩⟩,by simp,λy ar=> ?_,.inr (.inr ⟨dl.1,dl.2.1⟩),λx W=> ?_⟩
  ·rw[sc]at ar;rw[ar];exact⟨dl.1,dl.2.1⟩
  grind
 ·exact .inr (e.BO sy)
theorem aLf(L:S.Laws){G obj:Nat}{bd:List Pt}{l:List (Nat×Pt)}(av:S.ok s)(fD:G<8)(V:ro (S.has s) p bd)(ak:∀x∈l,x.1 / 8=G)(am:l.Pairwise λx y=>x.1<y.1)(fs:∀x∈l,cc x.2/\gI x.2=true)
  (pt:∀k,k<8->bd.getD k ah≠ah->∃b,S.has s (bd.getD k ah) b)(bP:∀x∈l,x.2=ah\/x.2≠bd.getD (x.1%8) ah)(DJ:obj<65536):
  (∃s' q m g,px S.rd S.nw S.ca obj s p G l=(s',q,0)/\S.fO s s' m g/\ro (S.has s') q (xl bd l)/\m.length<=1/\(∀y∈m,y.k=3)/\cc q/\gI q=true/\
   ∀x,x≠ah->(if q=x then 1 else 0)+(xl bd l).count x+g.count x=(if p=x then 1 else 0)+bd.count x+m.count x+(l.map (·.2)).count x)\/
  S.uZ s 2 (px S.rd S.nw S.ca obj s p G l):=by
 unfold px;rcases V.xS L av with⟨aL,aR⟩|⟨_,aL⟩
 ·have aW:(cM S.rd s p).2.2=0:=by rw[aR]
  have bg:(cM S.rd s p).2.1=bd:=by rw[aR]
  rw[aQ (by rw[aW];simp),bg];obtain⟨cR,cj,J,T,ag⟩:=at1 L (G:=G) (n0:=bd) l (cM S.rd s p).1 bd aL.ok V.fx.len ak am (λ_ _=>rfl) (λk r hz=>by
   obtain⟨b,ab⟩:=pt k r hz;exact⟨b,aL.has _ _ ab⟩) bP
  rw[J];obtain⟨hY,ke⟩:=atT l bd V.fx V.all fs;have cX:=aL.trans T;rcases at2 L (lev:=1) (obj:=obj) (off:=G) T.ok (V.mono cX.has) hY ke (.inl rfl) DJ (by omega)with⟨iC,q,jT,cp,bn,bh,bA,ex,fJ,jZ,oU⟩|k
  ·refine .inl ⟨iC,q,jT,cj++cp,bn,by simpa using cX.trans bh,bA,ex,λy ar=>(fJ y ar).1,?_,?_,λx W=> ?_⟩
   ·rcases bA.dI with⟨e,_⟩|⟨_,_,ab,_⟩
    ·rw[e];exact cH
    ·exact(L.ae _ _ _ bh.ok ab).1
   ·rcases bA.dI with⟨e,_⟩|⟨_,_,ab,_⟩
    ·rw[e];decide
    ·exact Yy.2 (.inr (L.ae _ _ _ bh.ok ab).2.1)
   grind
  ·exact .inr (k.BO cX)
 ·rw[be aL.ne];exact .inr (aL.mono (by omega))
structure Ig(S:iA aF)(wo:aF)(t h:List Pt)(s:aF)(n c:List Pt)(m g put:List Pt):Prop where
 ext:S.fO wo s m g
 abB:n.length=8
 hB:c.length=64
 fx:∀p∈n,cc p
 all:n.all gI=true
 cN:∀G,G<8->ro (S.has s) (n.getD G ah) (jX G c)
 abC:∀y∈m,y.k=3
 Qt:∀x,x≠ah->n.count x+c.count x+g.count x=t.count x+h.count x+m.count x+put.count x
theorem at4(G:Nat)(fD:G<8):∀(l:List (Nat×Pt)) (c:List Pt),c.length=64->(∀x∈l,x.1 / 8=G)->∀x,(lC c l).count x+(jX G c).count x=c.count x+(xl (jX G c) l).count x
 |[],c,_,_,x=>by simp[lC,xl]
 |y::l,c,Z,ak,x=>by
  have ar:=ak y (by simp);have bL:=at4 G fD l (c.set y.1 y.2) (by grind) (λz hz=>ak z (by simp[hz])) x;have aL:jX G (c.set y.1 y.2)=(jX G c).set (y.1%8) y.2:=by rw[<-atO,show 8*G+y.1%8=y.1 by omega]
  rw[aL]at bL;have J:=abA c (i:=y.1) (by omega) y.2 x;have T:=abA (jX G c) (i:=y.1%8) (by rw[atI Z fD];omega) y.2 x;rw[Nt (by omega),show 8*G+y.1%8=y.1 by omega]at T;show(lC (c.set y.1 y.2) l).count x+_=_+(xl ((jX G c).set (y.1%8) y.2) l).count x;omega
theorem Ig.low{wo:aF}{t c put:List Pt}(L:S.Laws)(aw:Ig S wo t h s n c m g put){G obj:Nat}{l:List (Nat×Pt)}(fD:G<8)(ak:∀x∈l,x.1 / 8=G)(am:l.Pairwise λx y=>x.1<y.1)(fs:∀x∈l,cc x.2/\gI x.2=true)
  (pt:∀o,o<64->c.getD o ah≠ah->∃b,S.has s (c.getD o ah) b)(bP:∀x∈l,x.2=ah\/x.2≠c.getD x.1 ah)(DJ:obj<65536):
  (∃s' q m' nE,px S.rd S.nw S.ca obj s (n.getD G ah) G l=(s',q,0)/\S.fO s s' m' nE/\m'.length<=1/\Ig S wo t h s' (n.set G q) (lC c l) (m++m') (g++nE) (put++l.map (·.2)))\/
  S.uZ s 2 (px S.rd S.nw S.ca obj s (n.getD G ah) G l):=by
 rcases aLf L (G:=G) (obj:=obj) (l:=l) aw.ext.ok fD (aw.cN G fD) ak am fs (λk r hz=>by
  rw[Nt r]at hz⊢;exact pt _ (by omega) hz) (λx W=>by
  rw[Nt (by omega),show 8*G+x.1%8=x.1 by have:=ak x W;omega];exact bP x W) DJ with⟨s',q,m',nE,J,T,ag,aP,bH,cS,fi,er⟩|e
 ·refine .inl ⟨s',q,m',nE,J,T,aP,aw.ext.trans T,by simp[aw.abB],by rw[atN,aw.hB],λy ar=> ?_,?_,λj I=> ?_,λy ar=> ?_,λx W=> ?_⟩
  ·rcases Xo ar with ar|rfl
   ·exact aw.fx y ar
   ·exact cS
  ·rw[vg];intro y ar;rcases Xo ar with ar|rfl
   ·exact vg.1 aw.all y ar
   ·exact fi
  ·by_cases ai5:j=G
   ·subst ai5;rw[atM (by rw[aw.abB];exact I),atP l c ak];exact ag
   ·rw[getD_set_ne (Ne.symm ai5),atQ (Ne.symm ai5) l c ak];exact(aw.cN j I).mono T.has
  ·rcases hP.1 ar with ar|ar
   ·exact aw.abC y ar
   ·exact bH y ar
  ·have a1:=aw.Qt x W;have a2:=er x W;have a3:=abA n (i:=G) (by rw[aw.abB];exact fD) q x;have a4:=at4 G fD l c aw.hB ak x
   grind
 ·exact .inr e
theorem Ig.at5{wo:aF}{t:List Pt}(L:S.Laws){obj:Nat}(DJ:obj<65536):∀(eX:Nat) (l:List (Nat×Pt)) (sP:Nat) (s:aF) (n c m g put:List Pt),Ig S wo t h s n c m g put->l.length<=eX->l.Pairwise (λx y=>x.1<y.1)->(∀x∈l,x.1<64/\sP<=x.1 / 8)->
  (∀x∈l,cc x.2/\gI x.2=true)->(∀o,sP<=o / 8->c.getD o ah=h.getD o ah)->(∀o,o<64->h.getD o ah≠ah->∃b,S.has wo (h.getD o ah) b)->(∀x∈l,x.2=ah\/x.2≠h.getD x.1 ah)->
  (∀o,o<64->c.getD o ah≠ah->∃b,S.has s (c.getD o ah) b)->(∀x∈l,x.2=ah\/∃b,S.has s x.2 b)->
  (∃s' fB m' nE,qH S.rd S.nw S.ca obj eX s n l=(s',fB,0)/\S.fO s s' m' nE/\m'.length<=l.length/\m'.length<=8 - sP/\Ig S wo t h s' fB (lC c l) (m++m') (g++nE) (put++l.map (·.2)))\/S.uZ s (2*min l.length (8 - sP)) (qH S.rd S.nw S.ca obj eX s n l)
 |0,l,sP,s,n,c,m,g,put,aw,bP,_,_,_,_,_,_,_,_=>by
  obtain rfl:l=[]:=wh (by omega);exact .inl ⟨s,n,[],[],rfl,iA.fO.refl aw.ext.ok,by simp,by simp,by simpa[lC]using aw⟩
 |eX+1,[],sP,s,n,c,m,g,put,aw,bP,_,_,_,_,_,_,_,_=>.inl ⟨s,n,[],[],rfl,iA.fO.refl aw.ext.ok,by simp,by simp,by simpa[lC]using aw⟩
 |eX+1,x::l,sP,s,n,c,m,g,put,aw,bP,am,ak,fs,Z,aN,dn,zk,yK=>by
  obtain⟨G,fD⟩:=aD (x.1 / 8);have W:=ak x (by simp);have JR:G<8:=by omega
  have pe:∀y∈x::l,G<=y.1 / 8:=λy ar=>by
   rcases io.1 ar with rfl|h
   ·omega
   ·have:=(oW.1 am).1 y h;omega
  have H':(ks G (x::l)).Sublist (x::l):=ac9 _;have aTc:1<=(ks G (x::l)).length:=by
   unfold ks;rw[XF,be (by simp[fD])];simp
  rw[qH];simp only[fD];rcases aw.low L JR (l:=ks G (x::l)) (λy ar=>(abz ar).2) (am.sublist H') (λy ar=>fs y (abz ar).1) zk (λy ar=>by
   grind) DJ with⟨bK,q,gD,cC,aL,es,mx,KG⟩|e
  ·rw[aL];simp only[ne_eq,not_true_eq_false,if_false];have cu:(ks G (x::l)).length+((x::l).drop (ks G (x::l)).length).length=(x::l).length:=by
    rw[xv];have:=H'.length_le;omega
   rcases Ig.at5 L DJ eX ((x::l).drop (ks G (x::l)).length) (G+1) bK (n.set G q) _ _ _ _ KG (by omega) (am.sublist (List.drop_sublist _ _)) (λy ar=>by
    rw[atU]at ar;obtain⟨J,T⟩:=atV am pe y ar;exact⟨(ak y J).1,T⟩) (λy ar=>fs y (XI ar)) (λo av=>by
    rw[atS (g:=G) _ _ (λy ar=>(abz ar).2) o (by omega)];exact Z o (by omega)) aN (λy ar=>dn y (XI ar)) (λo av hz=>by
    by_cases at6:∃y∈ks G (x::l),y.1=o
    ·obtain⟨y,ar,rfl⟩:=at6;have aR:(lC c (ks G (x::l))).getD y.1 ah=y.2:=by
      rw[Wg];exact We ah _ c (am.sublist H') y ar (by rw[aw.hB];exact av)
     rw[aR]at hz⊢;rcases yK y (abz ar).1 with dB|⟨b,ab⟩
     ·exact absurd dB hz
     ·exact⟨b,es.has _ _ ab⟩
    ·have aR:(lC c (ks G (x::l))).getD o ah=c.getD o ah:=by
      rw[Wg];exact NT ah _ c o λy ar e=>at6 ⟨y,ar,e⟩
     rw[aR]at hz⊢;obtain⟨b,ab⟩:=zk o av hz;exact⟨b,es.has _ _ ab⟩) (λy ar=>(yK y (XI ar)).imp id λ⟨b,ab⟩=>⟨b,es.has _ _ ab⟩)with⟨cR,kh,gc,cj,aR,cX,lh,NQ,at7⟩|e
   ·have e:ks G (x::l)++(x::l).drop (ks G (x::l)).length=x::l:=by
     rw[atU];exact List.takeWhile_append_dropWhile
    have dB:lC (lC c (ks G (x::l))) ((x::l).drop (ks G (x::l)).length)=lC c (x::l):=by rw[<-aK_,e]
    have dl:put++(ks G (x::l)).map (·.2)++((x::l).drop (ks G (x::l)).length).map (·.2)=put++(x::l).map (·.2):=by grind
    rw[dB,dl,nv,nv]at at7;exact .inl ⟨cR,kh,gD++gc,cC++cj,aR,es.trans cX,by grind,by rw[kR];omega,at7⟩
   ·refine .inr ((e.after es).mono ?_);have ai:gz gD<=gD.length*2:=Rq λy ar=>by
     have:=KG.abC y (by simp[ar]);rw[this];decide
    omega
  ·rw[be e.ne];refine .inr (e.mono ?_)
   grind
def pr(bO:Pt)(top h:List Pt)(x:Pt):Nat:=(if bO=x then 1 else 0)+top.count x+h.count x
theorem jD.set(L:S.Laws)(av:S.ok s)(t:jD (S.has s) bO top h){obj:Nat}(DJ:obj<65536){l:List (Nat×Pt)}(am:l.Pairwise λx y=>x.1<y.1)(ak:∀x∈l,x.1<64)
  (aN:∀o,o<64->h.getD o ah≠ah->∃b,S.has s (h.getD o ah) b)(yK:∀x∈l,x.2=ah\/(x.2≠h.getD x.1 ah/\∃b,S.has s x.2 b)):
  (∃s' V n m g,rc S.rd S.nw S.ca obj s bO l=(s',V,0)/\S.fO s s' m g/\jD (S.has s') V n (lC h l)/\m.length<=l.length+1/\m.length<=9/\(l=[]->m=[])/\(∀y∈m,y.k=3)/\(∀x,x≠ah->pr V n (lC h l) x+g.count x=pr bO top h x+m.count x+(l.map (·.2)).count x))\/
  S.uZ s (if l=[]then 0 else 2*(min l.length 8+1)) (rc S.rd S.nw S.ca obj s bO l):=by
 have fs:∀x∈l,cc x.2/\gI x.2=true:=λx W=>by
  rcases yK x W with e|⟨_,b,ab⟩
  ·rw[e];exact⟨cH,by decide⟩
  ·have:=L.ae _ _ _ av ab;exact⟨this.1,Yy.2 (.inr this.2.1)⟩
 have hU:=atW l none (λx W=>⟨ak x W,(fs x W).2⟩) am (λy ar=>by cases ar);unfold rc;rw[hU,t.HL];simp only[Sf,if_true];by_cases pD:l=[]
 ·subst pD;rw[be rfl];exact .inl ⟨s,bO,top,[],[],rfl,iA.fO.refl av,t,by simp,by simp,λ_=>rfl,by simp,λx _=>by simp[lC]⟩
 rw[aQ pD];rcases t.jC.xS L av with⟨aL,aR⟩|⟨_,aL⟩
 ·have aW:(cM S.rd s bO).2.2=0:=by rw[aR]
  have bg:(cM S.rd s bO).2.1=top:=by rw[aR]
  rw[aQ (by rw[aW];simp),bg];have xg:Ig S s top h (cM S.rd s bO).1 top h [] [] []:=⟨aL,t.jC.fx.len,t.ak,t.jC.fx.all,t.jC.all,λG fD=>(t.cN G fD).mono aL.has,by simp,λx _=>by simp⟩;rcases Ig.at5 L DJ l.length l 0 _ top h [] [] [] xg (c_ _) am (λx W=>⟨ak x W,gG _⟩) fs (λ_ _=>rfl) aN (λx W=>(yK x W).imp id λe=>e.1) (λo u_ hz=>by
   obtain⟨b,ab⟩:=aN o u_ hz;exact⟨b,aL.has _ _ ab⟩) (λx W=>(yK x W).imp id λ⟨_,b,ab⟩=>⟨b,aL.has _ _ ab⟩)with⟨cR,n,gc,cj,bn,bh,bA,pZ,aw⟩|e
  ·rw[bn];simp only[ne_eq,not_true_eq_false,if_false];simp only[xu]at aw;have fx:iJ n:=⟨aw.abB,aw.fx⟩;rcases at2 L (lev:=2) (obj:=obj) (off:=0) aw.ext.ok (t.jC.mono aw.ext.has) fx aw.all (.inr rfl) DJ (by decide)with⟨iC,q,jT,cp,ND,fl,Ml,amv,aen,aLg,EH⟩|e
   ·refine .inl ⟨iC,q,n,gc++jT,cj++cp,ND,aw.ext.trans fl,⟨Ml,?_,λG fD=>(aw.cN G fD).mono fl.has,aw.hB⟩,by rw[kR];omega,by grind,λe=>absurd e pD,λy ar=> ?_,λx W=> ?_⟩
    ·unfold uu;rcases aLg with e|e|e
     ·rw[e];exact t.HL
     ·rw[e];decide
     ·rcases Ml.dI with⟨gL,_⟩|⟨_,_,ab,_⟩
      ·rw[gL];decide
      ·rw[(L.ae _ _ _ fl.ok ab).2.1,e.1,e.2];simp
    ·rcases hP.1 ar with ar|ar
     ·exact aw.abC y ar
     ·exact(aen y ar).1
    ·have a1:=aw.Qt x W;have a2:=EH x W;unfold pr
     grind
   ·refine .inr ((e.after aw.ext).mono ?_);have ai:gz gc<=gc.length*2:=Rq λy ar=>by
     have:=aw.abC y ar;rw[this];decide
    rw[aQ pD];omega
  ·rw[be e.ne];refine .inr ((e.BO aL).mono ?_);rw[aQ pD];omega
 ·rw[be aL.ne];exact .inr (aL.mono (gG _))
end
structure vV(has:Pt->List UInt8->Prop)(p:Pt)(L:List bF):Prop where
 ok:me L
 all:L.all fc=true
 dI:(p=ah/\L=hm)\/(p≠ah/\L≠hm/\has p (my L)/\p.k=4)
structure ob(has:Pt->List UInt8->Prop)(p:Pt)(top h:List Pt)(v:List bF):Prop where
 oO:jD has p top h
 lf:∀o,o<64->vV has (h.getD o ah) (jE o v)
 ak:v.length=256
 v0:v.getD 0 bp=bp
section
variable {has pX:Pt->List UInt8->Prop}{p q bO:Pt}{n top h:List Pt}{v L:List bF}
theorem vV.z:vV has ah hm:=⟨yT,alo,.inl ⟨rfl,rfl⟩⟩
theorem vV.iff(h:vV has p L):p=ah↔L=hm:=by
 rcases h.dI with⟨J,T⟩|⟨J,T,_⟩
 ·grind
 grind
theorem vV.mono(h:vV has p L)(aC:∀q b,has q b->pX q b):vV pX p L:=⟨h.ok,h.all,h.dI.imp id λ⟨a,b,c,d⟩=>⟨a,b,aC _ _ c,d⟩⟩
theorem ob.mono(t:ob has p top h v)(aC:∀q b,has q b->pX q b):ob pX p top h v:=⟨t.oO.mono aC,λo av=>(t.lf o av).mono aC,t.ak,t.v0⟩
theorem ob.z:ob has ah eE (List.replicate 64 ah) (List.replicate 256 bp):=by
 refine⟨jD.z,λo av=> ?_,yC,rfl⟩;have e:jE o (List.replicate 256 bp)=hm:=by
  unfold jE hm
  grind
 have aR:(List.replicate 64 ah).getD o ah=ah:=by
  rw[lk,DW];split<;>rfl
 rw[e,aR];exact vV.z
theorem ob.aN(t:ob has p top h v):∀o,o<64->h.getD o ah≠ah->∃b,has (h.getD o ah) b:=λo av hz=>by
 rcases(t.lf o av).dI with⟨e,_⟩|⟨_,_,e,_⟩
 ·exact absurd e hz
 ·exact⟨_,e⟩
theorem ob.aLh(t:ob has p top h v):∀x∈v,fu x/\fc x=true:=λx W=>by
 obtain⟨n,aq⟩:=vf.1 W;have aO:=(jG.1 aq).1;rw[t.ak]at aO;have e:=QF (o:=n / 4) (v:=v) (show n%4<4 by omega);have ak:=atY t.ak (show n / 4<64 by omega);rw[show 4*(n / 4)+n%4=n by omega,lk,lk,aq,d_ (by rw[ak];omega)]at e;have e:(jE (n / 4) v)[n%4]'(by rw[ak];omega)=x:=e;have aC:x∈jE (n / 4) v:=by rw[<-e];exact wj _
 have lf:=t.lf (n / 4) (by omega);exact⟨lf.ok.all x aC,vg.1 lf.all x aC⟩
theorem ob.fx(t:ob has p top h v)(n:Nat):fu (v.getD n bp)/\fc (v.getD n bp)=true:=by
 rw[lk]
 cases aq:v[n]? with
 |none=>exact⟨jy,by decide⟩
 |some x=>exact t.aLh x (ib aq)
end
section
variable {aF:Type}{S:iA aF}{s bK cR:aF}{m g gD cC gc cj:List Pt}{bO p:Pt}{top h n:List Pt}{v:List bF}{off:Nat}
theorem vV.xS(L:S.Laws)(av:S.ok s){x:List bF}(V:vV (S.has s) p x):(S.fO s (hC S.rd s p).1 [] []/\(hC S.rd s p).2=(x,0))\/((hC S.rd s p).2.1=hm/\S.uZ s 0 (hC S.rd s p)):=by
 unfold hC;rcases V.dI with⟨rfl,rfl⟩|⟨J,T,ag,_⟩
 ·exact .inl ⟨by simpa using iA.fO.refl av,by simp⟩
 ·rw[aQ J];rcases L.rd s p _ av ag with⟨aL,aR⟩|aL
  ·have dl:(S.rd s p).2.2=0:=by rw[aR]
   have gL:(S.rd s p).2.1=my x:=by rw[aR]
   rw[aQ (by rw[dl];simp),gL,amc V.ok V.all,aQ (by simp)];exact .inl ⟨aL,rfl⟩
  ·rw[be aL.ne];exact .inr ⟨rfl,aL⟩
theorem ob.get(L:S.Laws)(av:S.ok s)(t:ob (S.has s) bO top h v){n:Nat}(J:1<=n)(T:n<=255):(S.fO s (kI S.rd s bO n).1 [] []/\(kI S.rd s bO n).2=(v.getD n bp,0))\/S.uZ s 0 (kI S.rd s bO n):=by
 unfold kI;rw[aQ (λe=>e ⟨J,T⟩)];rcases t.oO.get L av (off:=n / 4) (by omega)with⟨aL,aR⟩|⟨dk,aL⟩
 ·have aW:(dz S.rd s bO (n / 4)).2.2=0:=by rw[aR]
  have bg:(dz S.rd s bO (n / 4)).2.1=h.getD (n / 4) ah:=by rw[aR]
  rw[aQ (by rw[aW];simp),bg];rcases((t.lf (n / 4) (by omega)).mono aL.has).xS L aL.ok with⟨bn,bh⟩|⟨bn,bh⟩
  ·refine .inl ⟨by simpa using aL.trans bn,?_⟩;rw[bh];simp only;rw[QF (by omega),show 4*(n / 4)+n%4=n by omega]
  ·exact .inr (bh.BO aL)
 ·rw[be aL.ne];exact .inr aL
theorem aLi(L:S.Laws)(av:S.ok s)(t:ob (S.has s) bO top h v){o:Nat}(abb:o<64){g:List (Nat×bF)}(aH:∀x∈g,pT x/\fc x.2=true):
  (∃s' q b m,mo S.rd S.nw s bO o g=(s',q,b,0)/\S.fO s s' m []/\m.length<=1/\(∀y∈m,y.k=4)/\
   ((b=false/\nt (jE o v) g=jE o v/\m=[])\/(b=true/\nt (jE o v) g≠jE o v/\vV (S.has s') q (nt (jE o v) g)/\q≠h.getD o ah/\∀x,x≠ah->m.count x=if q=x then 1 else 0)))\/
  S.ni s 2 (mo S.rd S.nw s bO o g).1 (mo S.rd S.nw s bO o g).2.2.2:=by
 have lf:=t.lf o abb;have xm:=ai6 g lf.ok λx W=>(aH x W).1;have at8:=at0 g _ lf.all λx W=>(aH x W).2;unfold mo;rcases t.oO.get L av abb with⟨aL,aR⟩|⟨dk,aL⟩
 ·have aW:(dz S.rd s bO o).2.2=0:=by rw[aR]
  have bg:(dz S.rd s bO o).2.1=h.getD o ah:=by rw[aR]
  rw[aQ (by rw[aW];simp),bg];rcases(lf.mono aL.has).xS L aL.ok with⟨bn,bh⟩|⟨bn,bh⟩
  ·have es:=aL.trans bn;have ND:(hC S.rd (dz S.rd s bO o).1 (h.getD o ah)).2.2=0:=by rw[bh]
   have fl:(hC S.rd (dz S.rd s bO o).1 (h.getD o ah)).2.1=jE o v:=by rw[bh]
   rw[aQ (by rw[ND];simp),fl];by_cases gY:nt (jE o v) g=jE o v
   ·grind
   rw[aQ gY];by_cases hz:nt (jE o v) g=hm
   ·rw[be hz];refine .inl ⟨_,_,_,[],rfl,by simpa using es,by simp,by simp,.inr ⟨rfl,gY,by rw[hz];exact vV.z,λe=> ?_,λx W=> ?_⟩⟩
    ·exact gY (by rw[hz,lf.iff.1 e.symm])
    grind
   rw[aQ hz,aQ (by rw[at8];decide)];have cu:(my (nt (jE o v) g)).length=512:=by rw[Sz _ xm.all,xm.len]
   have ai4:HI (sY o):=⟨at9 (by omega),.inr ⟨by show 1<=4;decide,by show 4<=5;decide,by show(4:Nat)≠3;decide,rfl⟩⟩;rcases L.nw _ (sY o) (my (nt (jE o v) g)) es.ok ai4 cu with⟨q,aY,aK,aI,bo,bE⟩|e
   ·have au:=L.ae _ _ _ aK.ok aI;have DK:q≠ah:=λe=>by rw[e]at au;exact absurd au.2.1 (by decide)
    rw[aY];refine .inl ⟨_,q,true,[q],rfl,by simpa using es.trans aK,by simp,λy ar=> ?_,.inr ⟨rfl,gY,⟨xm,at8,.inr ⟨DK,hz,aI,bo.1⟩⟩,λe=> ?_,λx W=> ?_⟩⟩
    ·rw[sc]at ar;rw[ar];exact bo.1
    ·rcases lf.dI with⟨a1,_⟩|⟨a1,_,a2,_⟩
     ·exact DK (e.trans a1)
     ·rw[e]at bE;exact bE _ (es.has _ _ a2)
    grind
   ·exact .inr (e.BO es)
  ·rw[be bh.ne];exact .inr ((bh.BO aL).mono (by omega))
 ·rw[be aL.ne];exact .inr (aL.mono (by omega))
theorem ai7(L:S.Laws){l:List (Nat×bF)}(ak:∀x∈l,pT x/\fc x.2=true):∀(os:List Nat) (s:aF) (cm:List (Nat×Pt)),os.Pairwise (·<·)->(∀o∈os,o<64)->S.ok s->ob (S.has s) bO top h v->
  (∃s' BP m,nf S.rd S.nw bO l os s cm=(s',cm++BP,0)/\S.fO s s' m []/\m.length<=os.length/\(∀y∈m,y.k=4)/\BP.Pairwise (λx y=>x.1<y.1)/\(∀x∈BP,x.1∈os)/\BP.length<=os.length/\
   (∀x∈BP,vV (S.has s') x.2 (nt (jE x.1 v) (fj l x.1))/\x.2≠h.getD x.1 ah)/\(∀o∈os,(∀x∈BP,x.1≠o)->nt (jE o v) (fj l o)=jE o v)/\∀x,x≠ah->m.count x=(BP.map (·.2)).count x)\/
  S.uZ s (2*os.length) (nf S.rd S.nw bO l os s cm)
 |[],s,cm,_,_,av,t=>.inl ⟨s,[],[],by unfold nf;simp,iA.fO.refl av,by simp,by simp,IJ,by simp,by simp,by simp,by simp,by simp⟩
 |o::os,s,cm,am,HC,av,t=>by
  have gT:=oW.1 am;have CL:∀x∈fj l o,pT x/\fc x.2=true:=λx W=>ak x (aft.1 W).1;rw[nf];rcases aLi L av t (HC o (by simp)) CL with⟨bK,q,b,gD,aL,es,mx,bn,ab⟩|e
  ·rw[aL];simp only[ne_eq,not_true_eq_false,if_false];rcases ab with⟨rfl,aA,rfl⟩|⟨rfl,aA,vZ,Bn,Z⟩
   ·simp only[wk,if_false];rcases ai7 L ak os bK cm gT.2 (λx W=>HC x (by simp[W])) es.ok (t.mono es.has)with⟨cR,NU,gc,aR,cX,lh,bh,vB,pb,len,all,out,xH⟩|e
    ·refine .inl ⟨cR,NU,gc,aR,by simpa using es.trans cX,by rw[qK];omega,bh,vB,λx W=>by simp[pb x W],by rw[qK];omega,all,λgg u_ aq=> ?_,xH⟩
     grind
    ·exact .inr ((e.BO es).mono (by rw[qK];omega))
   ·simp only[if_true];rcases ai7 L ak os bK (cm++[(o,q)]) gT.2 (λx W=>HC x (by simp[W])) es.ok (t.mono es.has)with⟨cR,NU,gc,aR,cX,lh,bh,vB,pb,len,all,out,xH⟩|e
    ·refine .inl ⟨cR,(o,q)::NU,gD++gc,by rw[aR,nv];rfl,by simpa using es.trans cX,by rw[qK,kR];omega,λy ar=> ?_,oW.2 ⟨λx W=>gT.1 _ (pb x W),vB⟩,λx W=> ?_,by grind,λx W=> ?_,λgg u_ aq=> ?_,λx W=> ?_⟩
     ·grind
     ·grind
     ·rcases io.1 W with rfl|W
      ·exact⟨vZ.mono cX.has,Bn⟩
      ·exact all x W
     ·rcases io.1 u_ with rfl|u_
      ·simp_all
      grind
     grind
    ·refine .inr ((e.after es).mono ?_);have ai:gz gD<=gD.length*2:=Rq λy ar=>by
      rw[bn y ar];decide
     grind
  ·rw[be e.ne];exact .inr (e.mono (by rw[qK];omega))
theorem ob.set(L:S.Laws)(av:S.ok s)(t:ob (S.has s) bO top h v){l:List (Nat×bF)}(fs:wP none l=true)(fo:∀x∈l,pT x):
  (∃s' V n h' m g,rR S.rd S.nw S.ca s bO l=(s',V,0)/\S.fO s s' m g/\ob (S.has s') V n h' (Wf v l)/\m.length<=(lU l).length+9/\(∀y∈m,y.k=3\/y.k=4)/\∀x,x≠ah->pr V n h' x+g.count x=pr bO top h x+m.count x)\/
  S.uZ s (2*((lU l).length+9)) (rR S.rd S.nw S.ca s bO l):=by
 have ak:=atD fs;have aTd:=(atE fs).1;unfold rR;rw[be fs];rcases ai7 L (l:=l) (λx W=>⟨fo x W,(ak x W).2⟩) (lU l) s [] (afv l) (λo av=>(TV.1 av).1) av t with⟨bK,cm,gD,aL,es,mx,bn,vB,pb,len,all,out,xH⟩|e
 ·rw[aL];simp only[xu,ne_eq,not_true_eq_false,if_false];have at_:∀x∈cm,x.1<64:=λx W=>(TV.1 (pb x W)).1;have t1:=t.mono es.has;rcases t1.oO.set L es.ok (obj:=0) (by decide) vB at_ t1.aN (λx W=>by
   have arR:=(all x W).1;rcases arR.dI with⟨a,_⟩|⟨a,_,b,_⟩
   ·exact .inl a
   grind)with⟨cR,V,n,gc,cj,aR,cX,aLj,lh,aLk,_,bh,Qt⟩|e
  ·refine .inl ⟨cR,V,n,lC h cm,gD++gc,cj,aR,by simpa using es.trans cX,⟨aLj,λo av=> ?_,by rw[atX,t.ak],?_⟩,by grind,λy ar=> ?_,λx W=> ?_⟩
   ·rw[atZ,Wg];by_cases ad:∃x∈cm,x.1=o
    ·obtain⟨x,W,rfl⟩:=ad;rw[We ah cm h vB x W (by rw[t.oO.ak];exact at_ x W)];exact(all x W).1.mono cX.has
    ·have aq:∀x∈cm,x.1≠o:=λx W e=>ad ⟨x,W,e⟩;rw[NT ah cm h o aq];have e:nt (jE o v) (fj l o)=jE o v:=by
      by_cases aC:o∈lU l
      ·exact out o aC aq
      ·have:fj l o=[]:=by
        apply yE;intro aH;exact aC (TV.2 ⟨av,aH⟩)
       rw[this];rfl
     rw[e];exact(t1.lf o av).mono cX.has
   ·rw[NT bp l v 0 λx W=>by have:=(ak x W).1;omega];exact t.v0
   ·grind
   grind
  ·refine .inr ((e.after es).mono ?_);have ai:gz gD<=gD.length*2:=Rq λy ar=>by
    rw[bn y ar];decide
   split<;>omega
 ·rw[be e.ne];exact .inr (e.mono (by omega))
end
end Go.Proofs.YtoohkhcpboldjaaGreatDoor
