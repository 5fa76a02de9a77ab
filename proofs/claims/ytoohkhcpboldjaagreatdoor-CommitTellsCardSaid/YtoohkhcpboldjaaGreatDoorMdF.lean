/- A rig, kept beside other blocks; does a state tell what the model has? Conditions: the variables that are listed hold what the text lays; sizes. -/
import Derived.Test.YtoohkhcpboldjaaGreatDoorVwC
set_option maxRecDepth 100000
set_option maxHeartbeats 4000000
set_option linter.unusedSimpArgs false
set_option linter.unusedVariables false
namespace Go.Kin
open Go Go.RowKit
theorem aEy{P:Program}{l:List Oper}{n:Nat}{Q:(Nat->N)->M->Prop}{g:Option Bool}{tU:Bool}{o:Oper}{cP:List Oper}{f:Nat->N}{w:M}(bq:(Nat->N)->M->Prop)(h:wY P l n bq g tU o cP f w)(bW:∀f w,bq f w->Q f w):wY P l n Q g tU o cP f w:=by
 unfold wY at*;split at h
 ·rename_i aH;rw[be aH];exact ed.mono (λv w' aM=>by rw[aEz]at*;exact iz.mono bW _ _ _ aM) h
 ·rename_i aH;rw[aQ aH];exact iz.mono bW _ _ _ h
end Go.Kin
namespace Go.Proofs.YtoohkhcpboldjaaGreatDoor
open Go.RowKit Go.Kin Go.Maps Tryz
section
variable {cs:Array N}{aw:co}{k o:Nat}{w w':M}{S:Nat->Prop}{q:Nat}
theorem rl.aEA(h:rl cs aw)(r:k<256){p:Pt}(hS:cc p):rl (dT cs (k*44+3) (ae p)) (aw.sK k {aw.x k with V:=p}):=by
 have aA:=cd hS;have hz:=h.size;have ab:k*44+3+(ae p).size<=cs.size:=by omega
 have ok:fu {aw.x k with V:=p}:=⟨(h.ok k).k,(h.ok k).n,(h.ok k).s,hS⟩;refine⟨by rw[uf ab,hz],λi j ad I=> ?_,λi=> ?_,λi o ad av=> ?_⟩
 ·rw[aar ab,aA];unfold co.sK;simp only;by_cases e:i=k
  ·subst e;rw[be rfl];by_cases ag:j<3
   ·rw[aQ (by omega),h.x i j ad I];have:j=0\/j=1\/j=2:=by omega
    rcases this with rfl|rfl|rfl
    ·rw[Gn,Gn]
    ·rw[LI,LI]
    ·rw[LJ,LJ]
   ·rw[be (by omega)];have ax:=IP ok
    grind
  ·rw[aQ (by omega),aQ e,h.x i j ad I]
 ·unfold co.sK;simp only;split
  ·exact ok
  ·exact h.ok i
 ·rw[aar ab,aA,aQ (by omega)];exact h.l i o ad av
theorem rl.all(h:rl cs aw):cs.extract 0 27648=cs:=by rw[<-h.size];simp
theorem tu.ch(h:tu w q aw)(Z:H S w w')(au:¬S q):tu w' q aw:=by
 obtain⟨cs,ab,fp⟩:=h;exact⟨cs,Z.obj ab au,fp⟩
theorem aEB{P:N->Prop}(h:rl cs aw)(ad:∀x:bF,∀u∈(aZ x).toList,P u)(ak:∀z:Int,P (aa z)):∀u∈cs.toList,P u:=by
 intro u ap;obtain⟨i,yl⟩:=vf.1 ap;rw[acW]at yl;have aO:i<cs.size:=(B'.1 yl).1;have hz:=h.size;by_cases W:i<11264
 ·have:=h.x (i / 44) (i%44) (by omega) (by omega);rw[show i / 44*44+i%44=i by omega,yl]at this;exact ad (aw.x (i / 44)) u (ib (by rw[acW];exact this.symm))
 ·have:=h.l ((i - 11264) / 64) ((i - 11264)%64) (by omega) (by omega);rw[show 11264+(i - 11264) / 64*64+(i - 11264)%64=i by omega,yl]at this;rw[sb this];exact ak _
theorem rl.jx(h:rl cs aw):jx cs=true:=yJ (l:=cs.toList) (aEB h (λx u ap=>by
 have T:=Sw x;unfold Go.Kin.jx at T;exact AD.1 T u (by simpa using ap)) λ_=>rfl)
end
theorem aEC(x:gR)(h:1<(iZ x).size):(iZ x)[1]'h=.int .u16 x.num.val:=by
 rfl
def co.Kk(aw:co)(i j:Nat):co:={aw with l:=λa b=>if(a<i\/(a=i/\b<j))/\aw.x a=bp then -1 else aw.l a b}
def co.aas(aw:co)(k j:Nat):co:={aw with l:=λa b=>if a=k/\b<j then -1 else aw.l a b}
section
variable {w w':M}{S:Nat->Prop}{o n:Nat}{base fZ:N}{D:cV}{X bw Y':Nat->Prop}{z:zE}
theorem axO(h:jg w o base fZ n D X bw z){q:Nat}{aw:co}(hb:tu w q aw)(v:N)(l:List gR)(ak:fC w v ln 49 l)(fo:∀x∈l,x.fL)(aq:l.length<=1000)(Hb:n<=10000)(bM:mb w)(agH:¬X 0)(zH:∀k,v.ownBlock=some k->¬X k):
  bc prog 17 #[az o,az q,v] w λv' w'=>∃Mu Y',v'=az Mu/\tu w' Mu (vo aw l)/\w.1.size<=Mu/\jg w' o base fZ (n+l.length) (mU D l) X Y' z/\(∀k,Y' k->bw k\/w.1.size<=k)/\H X w w':=by
 refine bz func17 ntmps17 λbk af=> ?_;have cu:=ak.len underlying23 3;obtain⟨cs,ab,fp⟩:=hb;have cU:=fp.size;have gV:=fp.all;have sC:=fp.jx;have dD:=cr w (.cells cs 129);have aU:=(H.refl al w).alloc (.cells cs 129);have ee:=agI.size;obtain⟨agJ,nR⟩:=aD (Dl.toArray);rw[nR]at ee;simp[go_sem,ab,cU,gV,pJ,ap',aqa,nR,ee,sC,bS];obtain⟨g,aH⟩:=aD (w.1.size);rw[aH]at dD⊢;have aqb:∀k,X k->k<g:=λk r=>by rw[<-aH];exact h.lt k (.inl r)
 have aRW:∀k,bw k->k<g:=λk r=>by rw[<-aH];exact h.lt k (.inr r)
 have yZ:¬X g:=λe=>FX _ (aqb g e);refine di (λV f u=>∃i,V=l.length - i/\i<=l.length/\f 0=az o/\f 2=v/\f 7=az g/\f 8=aa i/\tu u g ((l.take i).foldl mL aw)/\(∃Y',jg u o base fZ (n+i) (mU D (l.take i)) X Y' z/\∀k,Y' k->bw k\/g<k)/\H X w u) l.length
  ⟨0,rfl,by omega,by simp,by simp,by simp,by simp,⟨cs,dD,fp⟩,⟨bw,h.ch aU (λ_ _ e=>e) λ_ _ e=>e,λk r=>.inl r⟩,aU.mono λ_ _ e=>e.elim⟩ ?_
 rintro cQ bJ _ f u ⟨i,rfl,ad,f0,bg,bQ,bB,hb,⟨Y',eZ,MX⟩,Z⟩;have afO:=Z.size;by_cases aO:i<l.length
 ·have fy:(i:Int)<l.length:=by omega
  have eQ:IntKind.i64.wrap ((i:Int)+1)=(i:Int)+1:=by rw[cz];omega
  obtain⟨x,W⟩:∃x,l[i]? =some x:=⟨_,d_ aO⟩;have cG:=fo x (ib W);have eF:=LX cG;have JD:=LX agK;obtain⟨b,off,nT,ha,bv,fr,wZ,iQ,Dm,fd,_,mr⟩:=agL (ak.ch Z λk _ e=>zH k e) (by decide) W (Qv cG);have aat:ha.extract (off+i*49) (off+i*49+49)=iZ x:=by rw[show off+i*49=off+i*49+0 by omega,mr 0 49 (by omega)];exact agM cG
  have Fk:=agN cG;have agO:=cr u (.cells (iZ x) 132);have Qw:=(H.refl al u).alloc (.cells (iZ x) 132);have iX:l.take (i+1)=l.take i++[x]:=by rw[nA,W];rfl
  have Qx:(l.take (i+1)).foldl mL aw=mL ((l.take i).foldl mL aw) x:=by rw[iX,Cc];rfl
  have aqc:mU D (l.take (i+1))=tV (mU D (l.take i)) x:=by unfold mU;rw[iX,Cc];rfl
  obtain⟨aqd,aqe⟩:=aD ((l.take i).foldl mL aw);obtain⟨Kl,aED⟩:=aD (mU D (l.take i));rw[aqe]at hb Qx;rw[aED]at eZ aqc;subst wZ;simp[go_sem,f0,bg,bQ,bB,cu,aO,fy,Dm,fd,aat,pJ,agP,agQ,JD,eF,bS,UQ,agO,Fk,aEC];obtain⟨ai,dx⟩:=aD (u.alloc (.cells (iZ x) 132));obtain⟨a,ao⟩:=aD (u.1.size);have uq:ai.1.size=u.1.size+1:=by rw[<-dx];simp
  rw[dx,ao]at agO;rw[dx]at Qw;rw[dx,ao];clear dx;have gS:∀{w:M} {S:Nat->Prop},H S ai w->¬S a->w.cell? (bl a 0)=some (.int .u8 x.d)/\w.cell? (bl a 1)=some (.int .u16 x.num.val)/\w.cell? (bl a 2)=some (.int .u32 x.off.val)/\w.1[a]? =some (.cells (iZ x) 132 (0,0))/\w.cell? (bl a 47)=some (.int .u16 x.n)/\w.cell? (bl a 48)=some (.int .u8 x.c.toNat):=λZ aq=>by
   have ab:=Z.obj agO aq;exact⟨by rw[aG ab];exact aEE,by rw[aG ab];exact aqf,by rw[aG ab];exact aEF,ab,by rw[aG ab];exact aEG cG,by rw[aG ab];exact aEH cG⟩
  have aau:g<u.1.size:=by obtain⟨_,vc,_⟩:=id hb;exact lt_of_block vc
  have aqg:a≠g:=by omega
  have Qy:¬X a:=λe=>by have:=aqb a e;omega
  have aRX:∀k,(Value.slice (some ⟨b,off,none⟩) l.length nT).ownBlock=some k->¬X k:=zH;obtain⟨t0,t1,el,kp,aRY,aEI⟩:=gS (H.refl al ai) id;have vw:=eZ.ch Qw (λ_ _ e=>e) λ_ _ e=>e;have UR:=hb.ch Qw id;obtain⟨bq,bW⟩:∃bq:(Nat->N)->M->Prop,bq=λf' cq=>f' 0=az o/\f' 2=.slice (some ⟨b,off,none⟩) l.length nT/\f' 7=az g/\f' 8=aa i/\f' 9=az a/\f' 10=.bool (hY x.num 0)/\cq=ai:=⟨_,rfl⟩;refine aEy bq ?_ ?_
  ·rw[bW];have fs:hY x.num 0=(decide (1<=x.num.val)&&decide (x.num.val<=255)):=by
    unfold hY
    grind
   by_cases bn:1<=x.num.val
   ·have wI:(1:Int)<=x.num.val:=by omega
    by_cases bh:x.num.val<=255
    ·have pi:(x.num.val:Int)<=255:=by omega
     simp[go_sem,t1,bn,wI,bh,pi,f0,bg,bQ,bB,fs]
    ·have pi:¬(x.num.val:Int)<=255:=by omega
     simp[go_sem,t1,bn,wI,bh,pi,f0,bg,bQ,bB,fs]
   ·have wI:¬(1:Int)<=x.num.val:=by omega
    simp[go_sem,t1,bn,wI,f0,bg,bQ,bB,fs]
  rw[bW];clear bW bq f0 bg bQ bB hb eZ;rintro f cq ⟨f0,bg,bQ,bB,dt,fA,Gj⟩;subst Gj;have aeB:∀{w:M} {S:Nat->Prop},H S cq w->¬S 0->mb w:=λhV aq=>((bM.ch Z agH).ch Qw id).ch hV aq;have Hk:=aEJ cG;have Km:n+i<=1000000:=by omega
  have dB:n+(i+1)=n+i+1:=by omega
  have sL:∀{f':Nat->N} {w':M} (IZ:Nat->Prop),f' 0=az o->f' 2=.slice (some ⟨b,off,none⟩) l.length nT->f' 7=az g->f' 8=aa ((i:Int)+1)->tu w' g (mL aqd x)->jg w' o base fZ (n+i+1) (tV Kl x) X IZ z->(∀k,IZ k->bw k\/g<k)->H X w w'->ct cQ (l.length - i) f' w':=λIZ kx cX Kn aav aEK aEL aEM aEN=>
   ct.intro (l.length -(i+1)) (by omega) (bJ _ _ _ ⟨i+1,rfl,by omega,kx,cX,Kn,by simpa using aav,by rw[Qx];exact aEK,⟨IZ,by rw[aqc,dB];exact aEL,aEM⟩,aEN⟩)
  have qp:∀k,X k->¬aj g k:=λk r e=>by simp only[aj]at e;rw[e]at r;exact yZ r
  have JB:∀k,Y' k->¬aj g k:=λk r e=>by
   simp only[aj]at e
   grind
  have iQ:(uN x.c).length=512:=yC;have Ko:∀{w':M},H X cq w'->H X w w':=λT=>(Z.trans (Qw.mono λ_ _ e=>e.elim)).trans T;by_cases dk:x.d=0
  ·have bm:Kl.w_ x.num x.i=tV Kl x:=by unfold tV;rw[be dk]
   simp[go_sem,dt,t0,dk];refine cT [F 0,F 1,F 2,F 3,F 4,(5,some [0,1,2]),(6,some []),F 7] ?_;have aEO:cq.drew.1[a]? =some (.cells (iZ x) 132 (0,0)):=kp;have aEP:cq.drew.cell? (bl a 1)=some (.int .u16 x.num.val):=t1;simp[go_sem,f0,dt,kp,aEO,t1,aEP,eF,Hk];refine(aqh x.i cG.i cq.drew).mono ?_;rintro _ aJ ⟨rfl,aI⟩;have hQ:=H.hR aI;obtain⟨kx,es,cX,aEQ,_,_⟩:=gS (Qw.trans hQ|>λ_=>hQ) id;simp[go_sem,f0,dt,es];refine(aqi (vw.ch hQ (λ_ _ e=>e) λ_ _ e=>e) x.num x.i cG.i (aeB hQ id) Km).mono ?_;rintro _ bs ⟨rfl,aP,bo⟩
   cases aC:(hY x.num 0&&fc x.i)with
   |true=>
    simp[go_sem];refine cT [F 0,F 1,F 2,F 3,F 5,(4,some [0,1,5]),F 6,(7,some [])] ?_;have ym:=(hQ.mono (S':=X) λ_ _ e=>e.elim).trans bo;obtain⟨tl,fh,fv,aaw,_,_⟩:=gS ym Qy;obtain⟨z0,pk,sp,dh,_,_⟩:=gS ym.drew Qy;simp[go_sem,f0,bQ,dt,fh,aaw,pk,dh,eF,Hk];refine(aqh x.i cG.i bs.drew).mono ?_;rintro _ bD ⟨rfl,bE⟩;have pd:=H.hR bE;have agR:=ym.trans (pd.mono (S':=X) λ_ _ e=>e.elim);obtain⟨fa,hf,eI,aqj,_,_⟩:=gS agR Qy;have ax:=Kp (by grind:hY x.num 0=true);have gA:x.num.val<256:=by omega
    have pq:(x.num.val:Int)<256:=by omega
    obtain⟨Qz,md,aqk⟩:=UR.ch agR yZ;have Kq:=aqk.size;have aql:=hA cG.i;have qX:x.num.val*44+44<=27648:=by omega
    simp[go_sem,f0,bQ,dt,hf,aqj,gA,pq,md,Kq,aql,qX];obtain⟨cD,nc⟩:=aD (bD.setRow g (dT Qz (x.num.val*44) (aZ x.i)));have jZ:H (aj g) bD cD:=nc▸(H.refl (aj g) bD).setRow (.inl rfl) _;have ug:cD.1[g]? =some (.cells (dT Qz (x.num.val*44) (aZ x.i)) 129 (0,0)):=by rw[<-nc,gh,md];rfl
    rw[nc];clear nc;have agS:=aqk.sK gA cG.i;obtain⟨agT,aER⟩:=aD (dT Qz (x.num.val*44) (aZ x.i));rw[aER]at ug agS;have QA:=agS.size;have aES:=jZ.obj aqj aqg;have ny:cD.cell? (bl a 1)=some (.int .u16 x.num.val):=by rw[aG aES];exact aqf
    have aET:x.num.val*44+3+41<=27648:=by omega
    have de:=cd cH;simp[go_sem,f0,bQ,bB,dt,ny,gA,pq,ug,QA,l',de,aET,eQ];have aEU:H X w cD:=(Ko agR).bZ jZ λj I e=>by simp only[aj]at e;omega
    refine sL Y' (by simp[f0]) (by simp[bg]) (by simp[bQ]) (by simp) ⟨_,by rw[gh,ug];rfl,(agS.aEA gA cH).congr (λk=> ?_) λk o _ _=> ?_⟩ ?_ MX (aEU.setRow (.inr (by omega)) _)
    ·unfold mL;rw[be dk,aC,be rfl];unfold co.sK sM;simp only;split
     ·simp
     ·rfl
    ·unfold mL;rw[be dk,aC,be rfl];rfl
    ·rw[<-bm];exact((aP.ch pd (λ_ _ e=>e) λ_ _ e=>e).ch jZ qp JB).ch ((H.refl (aj g) cD).setRow (.inl rfl) _) qp JB
   |false=>
    simp[go_sem,bB,eQ];have ym:=(hQ.mono (S':=X) λ_ _ e=>e.elim).trans bo;exact sL Y' (by simp[f0]) (by simp[bg]) (by simp[bQ]) (by simp) (by unfold mL;rw[be dk,aC];exact UR.ch ym yZ) (by rw[<-bm];exact aP) MX (Ko ym)
  ·by_cases aL:x.d=1
   ·have bm:Kl.kq x.num x.off (BC x)=tV Kl x:=by unfold tV;rw[aQ dk,be aL]
    simp[go_sem,dt,t0,aL,aEI];refine(aqm x.c cq).mono ?_;rintro _ aJ ⟨⟨aEV,rfl,aEW⟩,aEX,aI⟩;obtain⟨kx,es,cX,aEQ,aqn,aqo⟩:=gS aI id;have JZ:=vw.ch aI (λ_ _ e=>e) λ_ _ e=>e;have JG:=UR.ch aI id;by_cases n0:x.n=0
    ·simp[go_sem,f0,dt,kx,es,cX,aqn,aqo,n0];refine(aqp JZ x.num x.off [] (.slice none 0 0) (bC.nil _) (by simp) Km).mono ?_;rintro _ bs ⟨rfl,aP,bo⟩;have ym:=(aI.mono (S':=X) λ_ _ e=>e.elim).trans bo;have US:BC x=[]:=by unfold BC;rw[be n0]
     have QB:vR x= -1:=by unfold vR;rw[be n0]
     have agU:(-1:Int)= -1:=rfl;have ws:∀k,(Y' k\/(aJ.1.size<=k/\k<bs.1.size))->bw k\/g<k:=λk r=>r.elim (MX k) λe=>.inr (by have:=aI.size;omega)
     cases aC:hY x.num x.off with
     |true=>
      have ax:=Kp aC;have gA:x.num.val<256:=by omega
      have pq:(x.num.val:Int)<256:=by omega
      have MY:x.off.val<64:=ax.2.2;have Kr:(x.off.val:Int)<64:=by omega
      obtain⟨Fv,ht,tW⟩:=JG.ch bo yZ;have Tx:=tW.size;obtain⟨tl,fh,fv,aaw,_,_⟩:=gS ym.drew Qy;have Ks:bs.drew.1[g]? =some (.cells Fv 129 (0,0)):=ht;have mq:=aG Ks (11264+x.num.val*64+x.off.val);rw[tW.l _ _ gA MY]at mq;have kP:=dJ Ks (11264+x.num.val*64+x.off.val);simp[go_sem,iQ];refine cT [F 0,F 1,F 2,F 3,F 4,F 5,F 6,F 7,(8,some [])] ?_;simp[go_sem,bQ,bB,dt,fh,fv,gA,pq,MY,Kr,mq,kP,eQ];refine sL _ (by simp[f0]) (by simp[bg]) (by simp[bQ]) (by simp) ⟨_,by show(bs.setCell _ _).1[g]? =_;rw[eU,ht,fU,agU,<-QB],(tW.kq gA MY (vR x)).congr (λk=> ?_) λk o _ _=> ?_⟩ ?_ ws ((Ko ym).setCell (p:=⟨g,11264+x.num.val*64+x.off.val,none⟩) (.inr (by show _<=g;omega)) _).drew
      ·unfold mL
       grind
      ·unfold mL
       grind
      ·rw[<-bm,US];exact aP.ch ((H.refl (aj g) bs).setCell (p:=⟨g,11264+x.num.val*64+x.off.val,none⟩) (.inl rfl) _).drew qp λk r=>r.elim (JB k) λe aR=>by have:=aI.size;simp only[aj]at aR;omega
     |false=>
      simp[go_sem,iQ,bB,eQ];exact sL _ (by simp[f0]) (by simp[bg]) (by simp[bQ]) (by simp) (by unfold mL;rw[aQ dk,be aL,aC];exact JG.ch bo yZ) (by rw[<-bm,US];exact aP) ws (Ko ym)
    ·have agV:((x.n:Int)==0)=false:=hv (by omega);have aEY:¬(x.n:Int)=0:=by omega
     simp[go_sem,f0,dt,kx,es,cX,aqn,aqo,n0,agV,aEY];refine(aqp JZ x.num x.off (uN x.c) _ (by rw[show(uN x.c).length=512 from yC];exact aEX) (by omega) Km).mono ?_;rintro _ bs ⟨rfl,aP,bo⟩;have ym:=(aI.mono (S':=X) λ_ _ e=>e.elim).trans bo;have US:BC x=uN x.c:=by unfold BC;rw[aQ n0]
     have QB:vR x=x.c.toNat:=by unfold vR;rw[aQ n0]
     have eY:=x.c.toNat_lt;have agU:IntKind.i64.wrap (x.c.toNat:Int)=x.c.toNat:=by rw[cz];omega
     have ws:∀k,(Y' k\/(aJ.1.size<=k/\k<bs.1.size))->bw k\/g<k:=λk r=>r.elim (MX k) λe=>.inr (by have:=aI.size;omega)
     cases aC:hY x.num x.off with
     |true=>
      have ax:=Kp aC;have gA:x.num.val<256:=by omega
      have pq:(x.num.val:Int)<256:=by omega
      have MY:x.off.val<64:=ax.2.2;have Kr:(x.off.val:Int)<64:=by omega
      obtain⟨Fv,ht,tW⟩:=JG.ch bo yZ;have Tx:=tW.size;obtain⟨tl,fh,fv,aaw,_,_⟩:=gS ym.drew Qy;have Ks:bs.drew.1[g]? =some (.cells Fv 129 (0,0)):=ht;have mq:=aG Ks (11264+x.num.val*64+x.off.val);rw[tW.l _ _ gA MY]at mq;have kP:=dJ Ks (11264+x.num.val*64+x.off.val);simp[go_sem,iQ];refine cT [F 0,F 1,F 2,F 3,F 4,F 5,F 6,F 7,(8,some [])] ?_;simp[go_sem,bQ,bB,dt,fh,fv,gA,pq,MY,Kr,mq,kP,eQ];refine sL _ (by simp[f0]) (by simp[bg]) (by simp[bQ]) (by simp) ⟨_,by show(bs.setCell _ _).1[g]? =_;rw[eU,ht,fU,agU,<-QB],(tW.kq gA MY (vR x)).congr (λk=> ?_) λk o _ _=> ?_⟩ ?_ ws ((Ko ym).setCell (p:=⟨g,11264+x.num.val*64+x.off.val,none⟩) (.inr (by show _<=g;omega)) _).drew
      ·unfold mL
       grind
      ·unfold mL
       grind
      ·rw[<-bm,US];exact aP.ch ((H.refl (aj g) bs).setCell (p:=⟨g,11264+x.num.val*64+x.off.val,none⟩) (.inl rfl) _).drew qp λk r=>r.elim (JB k) λe aR=>by have:=aI.size;simp only[aj]at aR;omega
     |false=>
      simp[go_sem,iQ,bB,eQ];exact sL _ (by simp[f0]) (by simp[bg]) (by simp[bQ]) (by simp) (by unfold mL;rw[aQ dk,be aL,aC];exact JG.ch bo yZ) (by rw[<-bm,US];exact aP) ws (Ko ym)
   ·have bm:Kl.rm x.num=tV Kl x:=by unfold tV;rw[aQ dk,aQ aL]
    have n0:¬(x.d:Int)=0:=by omega
    have iW:¬(x.d:Int)=1:=by omega
    have agV:((x.d:Int)==0)=false:=hv n0;have agW:((x.d:Int)==1)=false:=hv iW;simp[go_sem,f0,dt,t0,t1,n0,iW,agV,agW];refine(aEZ vw x.num Km).mono ?_;rintro _ bs ⟨rfl,aP,bo⟩
    cases aC:hY x.num 0 with
    |true=>
     have ax:=Kp aC;have gA:x.num.val<256:=by omega
     have pq:(x.num.val:Int)<256:=by omega
     simp[go_sem,dt,fA,aC];refine di (λV C' u2=>∃j,V=64 - j/\j<=64/\C' 0=az o/\C' 2=.slice (some ⟨b,off,none⟩) l.length nT/\C' 7=az g/\C' 8=aa i/\C' 9=az a/\C' 13=aa j/\tu u2 g (aqd.aas x.num.val j)/\jg u2 o base fZ (n+i+1) (Kl.rm x.num) X Y' z/\H (λk=>X k\/k=g) cq u2/\H X w u2) 64
      ⟨0,rfl,by omega,by simp[f0],by simp[bg],by simp[bQ],by simp[bB],by simp[dt],by simp,(UR.ch bo yZ).imp λ_ e=>⟨e.1,e.2.congr (λ_=>rfl) λ_ _ _ _=>by simp[co.aas]⟩,aP,bo.mono λ_ _ e=>.inl e,Ko bo⟩ ?_
     rintro vq jR _ C' u2 ⟨j,rfl,I,gW,hl,HM,CQ,Kt,aqq,⟨Fv,ht,tW⟩,bH,bE,aqr⟩;by_cases xa:j<64
     ·have qz:(j:Int)<64:=by omega
      have hN:IntKind.i64.wrap ((j:Int)+1)=(j:Int)+1:=by rw[cz];omega
      obtain⟨tl,fh,fv,aaw,_,_⟩:=gS bE λe=>e.elim Qy aqg;have mq:=aG ht (11264+x.num.val*64+j);rw[tW.l _ _ gA xa]at mq;have kP:=dJ ht (11264+x.num.val*64+j);simp[go_sem,HM,Kt,aqq,fh,gA,pq,xa,qz,mq,kP,hN];refine ct.intro (64 -(j+1)) (by omega) (jR _ _ _ ⟨j+1,rfl,by omega,by simp[gW],by simp[hl],by simp[HM],by simp[CQ],by simp[Kt],by simp,⟨_,by rw[eU,ht,fU],(tW.kq gA xa (-1)).congr (λ_=>rfl) λk o _ _=> ?_⟩,bH.ch ((H.refl (aj g) u2).setCell (p:=⟨g,11264+x.num.val*64+j,none⟩) (.inl rfl) _) qp JB,bE.setCell (.inl (.inr rfl)) _,aqr.setCell (.inr (by show _<=g;omega)) _⟩);unfold co.aas co.kq;simp only;omega
     ·have qz:¬(j:Int)<64:=by omega
      simp[go_sem,aqq,CQ,qz,eQ];refine sL Y' (by simp[gW]) (by simp[hl]) (by simp[HM]) (by simp) ⟨Fv,ht,tW.congr (λk=> ?_) λk o _ av=> ?_⟩ (by rw[<-bm];exact bH) MX aqr
      ·unfold mL;rw[aQ dk,aQ aL,be aC];rfl
      ·unfold mL;rw[aQ dk,aQ aL,be aC];unfold co.rm co.aas;simp only;omega
    |false=>
     simp[go_sem,bB,fA,aC,eQ];exact sL Y' (by simp[f0]) (by simp[bg]) (by simp[bQ]) (by simp) (by unfold mL;rw[aQ dk,aQ aL,aC];exact UR.ch bo yZ) (by rw[<-bm];exact aP) MX (Ko bo)
 ·have fy:¬(i:Int)<l.length:=by omega
  have Ku:i=l.length:=by omega
  rw[Ku,wm]at hb eZ;simp[go_sem,f0,bg,bQ,bB,cu,aO,fy];obtain⟨Kv,aqs⟩:=aD (l.foldl mL aw);rw[aqs]at hb;have aqt:vo aw l=Kv.uO:=by unfold vo;rw[aqs]
  have qp:∀k,X k->¬aj g k:=λk r e=>by simp only[aj]at e;rw[e]at r;exact yZ r
  have JB:∀k,Y' k->¬aj g k:=λk r e=>by
   simp only[aj]at e
   grind
  refine di (λV f u=>∃i,V=256 - i/\i<=256/\f 7=az g/\f 14=aa i/\tu u g (Kv.Kk i 0)/\jg u o base fZ (n+l.length) (mU D l) X Y' z/\H X w u) 256
   ⟨0,rfl,by omega,by simp[bQ],by simp,hb.imp λ_ e=>⟨e.1,e.2.congr (λ_=>rfl) λ_ _ _ _=>by simp[co.Kk]⟩,eZ,Z⟩ ?_
  rintro aRZ aqu _ bR jl ⟨k,rfl,r,HM,QC,⟨UT,fm,QD⟩,ag,aI⟩;by_cases ox:k<256
  ·have kZ:(k:Int)<256:=by omega
   have ej:IntKind.i64.wrap ((k:Int)+1)=(k:Int)+1:=by rw[cz];omega
   have vC:=QD.size;have sA:=QD.ext ox;have qX:k*44+44<=27648:=by omega
   have lP:=QD.ok k;have YD:(Kv.Kk k 0).x k=Kv.x k:=rfl;rw[YD]at sA lP;have ho:∀w,(Op.equalIn 10000 113 (.agg (aZ (Kv.x k))) (.agg (aZ bp))).run prog w=.ok (decide (Kv.x k=bp)) w:=λw=>Sx w lP jy;by_cases aqv:Kv.x k=bp
   ·rw[ou aqv]at ho;simp[go_sem,HM,QC,ox,kZ,fm,vC,sA,qX,Ef,ho];refine di (λV f u=>∃j,V=64 - j/\j<=64/\f 7=az g/\f 14=aa k/\f 15=aa j/\tu u g (Kv.Kk k j)/\jg u o base fZ (n+l.length) (mU D l) X Y' z/\H X w u) 64
     ⟨0,rfl,by omega,by simp[HM],by simp[QC],by simp,⟨UT,fm,QD⟩,ag,aI⟩ ?_
    rintro aR0 aE0 _ ck rE ⟨j,rfl,I,hX,agX,aqw,⟨Fv,ht,tW⟩,aP,bo⟩;by_cases xa:j<64
    ·have qz:(j:Int)<64:=by omega
     have hN:IntKind.i64.wrap ((j:Int)+1)=(j:Int)+1:=by rw[cz];omega
     have mq:=aG ht (11264+k*64+j);rw[tW.l _ _ ox xa]at mq;have kP:=dJ ht (11264+k*64+j);simp[go_sem,hX,agX,aqw,ox,kZ,xa,qz,mq,kP,hN];refine ct.intro (64 -(j+1)) (by omega) (aE0 _ _ _ ⟨j+1,rfl,by omega,by simp[hX],by simp[agX],by simp,⟨_,by rw[eU,ht,fU],(tW.kq ox xa (-1)).congr (λ_=>rfl) λa b _ _=> ?_⟩,aP.ch ((H.refl (aj g) rE).setCell (p:=bl g (11264+k*64+j)) (.inl rfl) _) qp JB,bo.setCell (.inr (by show _<=g;omega)) _⟩);unfold co.Kk co.kq
     grind
    ·have qz:¬(j:Int)<64:=by omega
     simp[go_sem,agX,aqw,qz,ej];refine ct.intro (256 -(k+1)) (by omega) (aqu _ _ _ ⟨k+1,rfl,by omega,by simp[hX],by simp,⟨Fv,ht,tW.congr (λ_=>rfl) λa b _ ab=> ?_⟩,aP,bo⟩);unfold co.Kk
     grind
   ·simp[go_sem,HM,QC,ox,kZ,fm,vC,sA,qX,Ef,ho,aqv,ej];refine ct.intro (256 -(k+1)) (by omega) (aqu _ _ _ ⟨k+1,rfl,by omega,by simp[HM],by simp,⟨UT,fm,QD.congr (λ_=>rfl) λa b _ ab=> ?_⟩,ag,aI⟩);unfold co.Kk
    grind
  ·have kZ:¬(k:Int)<256:=by omega
   simp[go_sem,HM,QC,ox,kZ];refine af _ _ ⟨g,Y',rfl,⟨UT,fm,QD.congr (λk=>by rw[aqt];rfl) λa b ao ab=> ?_⟩,by omega,ag,λk r=>(MX k r).imp id λe=>by omega,aI⟩;rw[aqt];unfold co.uO co.Kk
   grind
end
def oA(w w':M)(k:Nat):Prop:=w.1.size<=k/\k<w'.1.size
structure eJ(Y w:M)(K:Nat->Prop)(m p n cg:Nat)(z:fV)(X:kY):Prop where
 MZ:∃O,km m p n cg z X w O/\(∀k,O k->Y.1.size<=k)/\∀k,K k->¬O k
 lt:∀k,K k->k<w.1.size
 cv:hI Y
 fT:jz Y
 gB:qO Y
 d':∀k,iK k->K k
 ch:H al Y w
section
variable {Y w w':M}{K S:Nat->Prop}{m p n cg:Nat}{z:fV}{X ig:kY}{cL:eb->Nat}{f:FuncId}{args:Array N}{R:N->M->Prop}
theorem eJ.call(h:eJ Y w K m p n cg z X)(bP:∀O,km m p n cg z X w O->(∀j,iK j->¬O j)->(∀k,K k->¬O k)->hI w->jz w->qO w->bc prog f args w λv w'=>R v w'/\km m p n cg z ig w' (aE O w w')/\H O w w'):
  bc prog f args w λv w'=>R v w'/\eJ Y w' K m p n cg z ig/\H (λk=>¬K k) w w':=by
 obtain⟨O,a,b,c⟩:=h.MZ;refine(bP O a (λj I=>c j (h.d' j I)) c (h.cv.ch h.ch λ_ _ e=>e) (h.fT.ch h.ch id) (h.gB.ch h.ch id)).mono ?_;rintro v w' ⟨x,y,k⟩;have aA:=h.ch.size;have r:=k.size;exact⟨x,⟨⟨_,y,λk r=>r.elim (b k) λe=>by omega,λk r e=>e.elim (c k r) λe=>by have:=h.lt k r;omega⟩,λk r=>by have:=h.lt k r;omega,h.cv,h.fT,h.gB,h.d',h.ch.bZ k λj I e=>by have:=b j e;omega⟩,k.mono λj _ e I=>c j I e⟩
theorem eJ.own(h:eJ Y w K m p n cg z X)(Z:H S w w')(cl:∀k,S k->K k/\Y.1.size<=k):eJ Y w' (λk=>K k\/oA w w' k) m p n cg z X:=by
 obtain⟨O,a,b,c⟩:=h.MZ;have aA:=Z.size;have ak:=(km.ok m p n cg z X).lt a;exact⟨⟨O,(km.ok m p n cg z X).ch a Z λj I e=>c j (cl j e).1 I,b,λk r e=>r.elim (λr=>c k r e) λr=>by have:=ak k e;unfold oA at r;omega⟩,λk r=>r.elim (λr=>by have:=h.lt k r;omega) λr=>r.2,h.cv,h.fT,h.gB,λk r=>.inl (h.d' k r),h.ch.bZ Z λj I e=>by have:=(cl j e).2;omega⟩
theorem eJ.hp(h:eJ Y w K m p n cg z X)(Z:H al w w'):eJ Y w' (λk=>K k\/oA w w' k) m p n cg z X:=h.own Z λ_ e=>e.elim
theorem eJ.mV{K':Nat->Prop}(h:eJ Y w K m p n cg z X)(fW:∀k,K' k->K k)(aH:∀k,iK k->K' k):eJ Y w K' m p n cg z X:=by
 obtain⟨O,a,b,c⟩:=h.MZ;exact⟨⟨O,a,b,λk r=>c k (fW k r)⟩,λk r=>h.lt k (fW k r),h.cv,h.fT,h.gB,aH,h.ch⟩
theorem eJ.aZ(dC:kG cL)(h:eJ Y w K m p n cg z X)(aC:96<=za cL X){v:Nat}{st:et}(aM:qA w v (up m) st)(ok:gi st)(num:Nat)(nZ:num<65536){x:bF}(ax:qB (lZ n) X st num=(X,x,0)):
  bc prog 52 #[az v,.int .u16 num] w λv' w'=>(v'=.tuple #[.agg (aZ x),aa 0]/\fu x)/\eJ Y w' K m p n cg z X/\H (λk=>¬K k) w w':=
 h.call λO eZ aH _ e fT gB=>by
  have:=aE1 dC e fT gB eZ aH (by omega) aM ok num nZ;rw[ax]at this;exact this
theorem eJ.agY(dC:kG cL)(h:eJ Y w K m p n cg z X)(aC:96<=za cL X){v:Nat}{st:et}(aM:qA w v (up m) st)(zA:K v)(yn:¬iK v)(ok:gi st)(num off:Nat)(nZ:num<65536)(iD:off<4294967296){x:cW}(ax:Ab (lZ n) X st num off=(X,x,0)):
  bc prog 73 #[az v,.int .u16 num,.int .u32 off] w λv' w'=>∃u,v'=.tuple #[u,aa 0]/\bC w' u x.length (br x)/\eJ Y w' (λk=>K k\/(u.ownBlock=some k/\k<w'.1.size)) m p n cg z X/\H (λk=>¬K k) w w':=by
 obtain⟨O,a,b,c⟩:=h.MZ;have:=aE2 dC (h.cv.ch h.ch λ_ _ e=>e) (h.fT.ch h.ch id) (h.gB.ch h.ch id) a (λj I=>c j (h.d' j I)) aC aM ⟨c v zA,yn⟩ ok num off nZ iD;rw[ax]at this;refine this.mono ?_;rintro v' w' ⟨u,O',rfl,aA,y,tJ,ap,k⟩;have nG:=h.ch.size;have r:=k.size;refine⟨u,rfl,aA,⟨⟨O',y,λj I=>(tJ j I).elim (b j) λe=>by omega,λj I e=> ?_⟩,λj I=>I.elim (λI=>by have:=h.lt j I;omega) λI=>I.2,h.cv,h.fT,h.gB,λj I=>.inl (h.d' j I),h.ch.bZ k λj I e=>by have:=b j e;omega⟩,k.mono λj _ e I=>c j I e⟩;rcases I with I|I
 ·exact(tJ j e).elim (c j I) λe=>by have:=h.lt j I;omega
 ·exact(ap j I.1).1 e
theorem eJ.map(dC:kG cL)(h:eJ Y w K m p n cg z X)(aC:96<=za cL X){v:Nat}{st:et}(aM:qA w v (up m) st)(zA:K v)(yn:¬iK v)(ok:gi st)(num off:Nat)(nZ:num<65536)(iD:off<4294967296){x:Bool}(ax:Dn (lZ n) X st num off=(X,x,0)):
  bc prog 74 #[az v,.int .u16 num,.int .u32 off] w λv' w'=>v'=.tuple #[.bool x,aa 0]/\eJ Y w' K m p n cg z X/\H (λk=>¬K k) w w':=
 h.call λO eZ aH fW e fT gB=>by
  have:=aE3 dC e fT gB eZ aH (by omega) aM ⟨fW v zA,yn⟩ ok num off nZ iD;rw[ax]at this;exact this
structure aqx(n:Nat)(X:kY)(st:et)(aw:co):Prop where
 x:∀k,1<=k->k<=255->∃i,qB (lZ n) X st k=(X,i,0)/\aw.x k=sM i
 l:∀k o,1<=k->k<=255->o<64->Ab (lZ n) X st k o=(X,(Fw (aw.l k o)).getD [],0)/\Dn (lZ n) X st k o=(X,(Fw (aw.l k o)).isSome,0)
 ad:∀k o,aw.l k o<256
theorem ax9(dC:kG cL)(h:eJ Y w K m p n cg z X)(aC:96<=za cL X){x q:Nat}{st M_:et}{aw:co}(W:nJ w x p m cg z M_)(UU:K x)(hb:tu w q aw)(aqy:K q)(ok:gi st)(af:aqx n X st aw)(fe:N)(ys:List Nat)(aq:bC w fe ys.length (hg ys))(aE4:∀k,fe.ownBlock=some k->K k)(ar:∀y∈ys,y<65536)(Em:ys.length<=1000000):
  bc prog 22 #[az x,.agg (bN st),az q,fe] w λv' w'=>v'=.bool true/\eJ Y w' K m p n cg z X/\H (λk=>¬K k) w w':=by
 refine bz func22 ntmps22 λbk aE5=> ?_;have nG:=lo ok;have mg:=un ok;have tn:=aax (a:=az p) (b:=.pointer (some ⟨z.d 0,0,none⟩)) (c:=.pointer (some ⟨z.d 1,0,none⟩)) (d:=.pointer (some ⟨z.c',0,none⟩)) (e:=az m) (f:=az cg) W.ok;have dD:=cr w (.cells (bN st) 46);have aU:=(H.refl al w).alloc (.cells (bN st) 46);simp[go_sem,nG,mg];obtain⟨g,aH⟩:=aD (w.1.size);rw[aH]at dD⊢;generalize w.alloc (.cells (bN st) 46)=ai at*;refine cT [F 0,F 1,F 2,F 3,F 4,F 5,(6,some []),F 7] ?_;have Bq:=aU.obj W.blk id;have aE6:ai.drew.1[x]? =_:=Bq;have dN:ai.drew.1[g]? =some (.cells (bN st) 46 (0,0)):=dD;have aE7:=λj=>aG aE6 j;have aE8:=λj=>aG Bq j;simp[go_sem,aE7,aE8,dD,dN,nG,mg];refine(OZ _ _ st ok _ rfl).mono ?_;rintro _ an ⟨v,rfl,qh,ky,aM,aK⟩;simp[go_sem];have xQ:H al w an:=aU.drew.trans aK;have T:=h.hp xQ;obtain⟨tX,agZ⟩:=aD ((λk=>K k\/oA w an k));have df:∀k,K k->tX k:=λk r=>by rw[<-agZ];exact .inl r
 have zA:tX v:=by rw[<-agZ];exact .inr ⟨dK aU.size qh,ky⟩
 have yn:¬iK v:=λe=>by have:=h.lt v (h.d' v e);grind
 rw[agZ]at T;have zP:=hb.ch xQ id;have zy:=aq.ch xQ λ_ _ e=>e;have vJ:=zy.len underlying30 3;have out:∀{u:M},eJ Y u tX m p n cg z X->H (λk=>¬tX k) an u->eJ Y u K m p n cg z X/\H (λk=>¬K k) w u:=λa b=>
  ⟨a.mV df h.d',xQ.mono (S':=λk=>¬K k) (λ_ _ e=>e.elim)|>.trans (b.mono λk _ e aR=>e (df k aR))⟩
 have lx:∀{u:M},H (λk=>¬tX k) an u->bC u fe ys.length (hg ys):=λb=>zy.ch b λk r e=>e (df k (aE4 k r));refine di (λV f u=>∃i,V=ys.length - i/\i<=ys.length/\f 0=az x/\f 2=az q/\f 3=fe/\f 9=az v/\f 10=aa i/\eJ Y u tX m p n cg z X/\H (λk=>¬tX k) an u) ys.length
  ⟨0,rfl,by omega,by simp,by simp,by simp,by simp,by simp,T,H.refl _ _⟩ ?_
 rintro cQ bJ _ f u ⟨i,rfl,ad,f0,bg,bR,dt,fA,r,Z⟩;by_cases aO:i<ys.length
 ·have fy:(i:Int)<ys.length:=by omega
  have eQ:IntKind.i64.wrap ((i:Int)+1)=(i:Int)+1:=by rw[cz];omega
  obtain⟨y,ET⟩:∃y,ys[i]? =some y:=⟨_,d_ aO⟩;have Do:=ar y (ib ET);obtain⟨bx,lI,mf⟩:=(lx Z).at Um (DS _) (aqz ET);have sL:∀{f':Nat->N} {cq:M},f' 0=az x->f' 2=az q->f' 3=fe->f' 9=az v->f' 10=aa ((i:Int)+1)->eJ Y cq tX m p n cg z X->H (λk=>¬tX k) an cq->ct cQ (ys.length - i) f' cq:=λa0 a2 a3 a9 UV aE9 Qt=>
   ct.intro (ys.length -(i+1)) (by omega) (bJ _ _ _ ⟨i+1,rfl,by omega,a0,a2,a3,a9,by simpa using UV,aE9,Qt⟩)
  by_cases fh:1<=y
  ·have aay:¬(y:Int)<1:=by omega
   have aaz:¬y<1:=by omega
   by_cases fv:y<=255
   ·have ag0:¬(255:Int)<y:=by omega
    have ag1:¬255<y:=by omega
    simp[go_sem,bR,dt,fA,vJ,aO,fy,lI,mf,fh,aay,aaz,fv,ag0,ag1];obtain⟨ko,gA,pq⟩:=af.x y fh fv;have afS:qA u v (up m) st:=Z.obj aM λe=>e zA;refine(r.aZ dC aC afS ok y Do gA).mono ?_;rintro _ aJ ⟨⟨rfl,cG⟩,Fx,aI⟩;have eF:=hA cG;have ee:=hA jy;have fN:=tj cG;have de:=cd cH;simp[go_sem,pJ,uj,uk,ee,eF,fN,bS,l',de];have xb:fu (sM ko):=⟨cG.k,cG.n,cG.s,cH⟩;rw[show dT (aZ ko) 3 (ae ah)=aZ (sM ko)from XS cG cH];have cI:=cr aJ (.cells (aZ (sM ko)) 113);have bo:=(H.refl al aJ).alloc (.cells (aZ (sM ko)) 113);obtain⟨cy,zT⟩:=aD (aJ.1.size);rw[zT]at cI⊢;generalize aJ.alloc (.cells (aZ (sM ko)) 113)=bs at*;have oa:H (λk=>¬tX k) an bs:=(Z.trans aI).trans (bo.mono λ_ _ e=>e.elim);have gq:eJ Y bs tX m p n cg z X:=(Fx.hp bo).mV (λk r=>.inl r) T.d';refine cT [F 0,F 1,F 2,F 3,F 4,F 5,F 6,F 7,F 8,F 9,F 10,F 11] ?_;obtain⟨Fv,ht,tW⟩:=zP.ch oa λe=>e (df q aqy);have Ks:bs.drew.1[q]? =some (.cells Fv 129 (0,0)):=ht;have Fc:bs.drew.1[cy]? =some (.cells (aZ (sM ko)) 113 (0,0)):=cI;have Dp:=tW.size;have aaA:y<256:=by omega
    have aqA:(y:Int)<256:=by omega
    have su:=tW.ext aaA;have qX:y*44+44<=27648:=by omega
    have aE_:=hA xb;have aE':=tj xb;have ho:∀w,(Op.equalIn 10000 113 (.agg (aZ (sM ko))) (.agg (aZ (aw.x y)))).run prog w=.ok true w:=λw=>by
     rw[pq,Sx w xb xb,ou rfl]
    simp[go_sem,bg,bR,dt,fA,ht,cI,Ks,Fc,Dp,aaA,aqA,su,qX,aE_,aE',ho];refine di (λV f' cq=>∃j,V=64 - j/\j<=64/\f' 0=az x/\f' 2=az q/\f' 3=fe/\f' 9=az v/\f' 10=aa i/\f' 11=.int .u16 y/\f' 14=.int .u32 j/\eJ Y cq tX m p n cg z X/\H (λk=>¬tX k) an cq) 64
     ⟨0,rfl,by omega,by simp[f0],by simp[bg],by simp[bR],by simp[dt],by simp[fA],by simp,by simp,(by obtain⟨O,aL,aR,dB⟩:=gq.MZ;exact⟨⟨O,(km.ok m p n cg z X).ch aL (H.refl al bs).drew λ_ _ e=>e,aR,dB⟩,gq.lt,gq.cv,gq.fT,gq.gB,gq.d',gq.ch.drew⟩),oa.drew⟩ ?_
    clear cI bo gq oa ht Ks Fc;rintro vq jR _ f' cq ⟨j,rfl,I,a0,a2,a3,a9,UV,UW,QE,xJ,wg⟩;by_cases iP:j<64
    ·have qz:(j:Int)<64:=by omega
     have hN:IntKind.u32.wrap ((j:Int)+1)=(j:Int)+1:=by rw[ve];omega
     obtain⟨M',aFa⟩:=af.l y j fh fv iP;have aFb:qA cq v (up m) st:=wg.obj aM λe=>e zA;simp[go_sem,a9,UW,QE,qz];refine(xJ.agY dC aC aFb zA yn ok y j Do (by omega) M').mono ?_;rintro _ cD ⟨aR1,rfl,aqB,nI,cF⟩;have aFc:qA cD v (up m) st:=(wg.trans cF).obj aM λe=>e zA;simp[go_sem,a9,UW,QE];refine(nI.map dC aC aFc (.inl zA) yn ok y j Do (by omega) aFa).mono ?_;rintro _ cE ⟨rfl,Na,dE⟩;have ag2:=(wg.trans cF).trans (dE.mono λk _ e aR=>e (.inl aR));have aFd:eJ Y cE tX m p n cg z X:=Na.mV (λ_ e=>.inl e) T.d';obtain⟨PD,UX,aga⟩:=zP.ch ag2 λe=>e (df q aqy);have mq:=(aG UX (11264+y*64+j)).trans (aga.l y j aaA iP);simp[go_sem,a2,a9,UW,QE,aaA,aqA,iP,qz,mq];obtain⟨HN,aFe⟩:=aD (aw.l y j);have aFf:=af.ad y j;rw[aFe]at aFf mq aqB⊢;have HO:=aFg aqB dE λk r aV e=>e (.inr ⟨aV,r⟩);refine cT [F 0,F 1,F 2,F 3,F 4,F 5,F 6,F 7,F 8,F 9,F 10,F 11,F 12,F 13,F 14,F 15,F 16,F 17,F 18,(19,some [15,16]),F 20,F 21,F 22,F 23,F 24,F 25,F 26,F 27,F 28,F 29,F 30,F 31,F 32] ?_;have aqC:∀{aeA:M},H al cE aeA->eJ Y aeA tX m p n cg z X:=λk=>(aFd.hp k).mV (λ_ e=>.inl e) T.d';have aFh:eJ Y cE.drew tX m p n cg z X:=aqC (H.refl al cE).drew;have aqD:∀{f':Nat->N} {cq:M},f' 0=az x->f' 2=az q->f' 3=fe->f' 9=az v->f' 10=aa i->f' 11=.int .u16 y->f' 14=.int .u32 ((j:Int)+1)->eJ Y cq tX m p n cg z X->H (λk=>¬tX k) an cq->ct vq (64 - j) f' cq:=λgW hl ew Kt aFi aFj QC aB aFk=>
      ct.intro (64 -(j+1)) (by omega) (jR _ _ _ ⟨j+1,rfl,by omega,gW,hl,ew,Kt,aFi,aFj,by simpa using QC,aB,aFk⟩)
     by_cases aaB:HN<0
     ·have e:Fw HN=none:=by unfold Fw;rw[be aaB]
      have aFl:¬(0<=HN):=by omega
      rw[e]at HO⊢;simp only[Option.getD_none,OK,Option.isSome_none]at HO⊢;have Nb:=HO.len underlying101 3;simp[go_sem,QE,aaB,aFl,Nb,hN];exact aqD (by simp[a0]) (by simp[a2]) (by simp[a3]) (by simp[a9]) (by simp[UV]) (by simp[UW]) (by simp) aFh ag2.drew
     ·have e:Fw HN=some (uN (UInt8.ofNat HN.toNat)):=by unfold Fw;rw[aQ aaB]
      have aqE:0<=HN:=by omega
      rw[e]at HO⊢;simp only[Option.getD_some,acX]at HO⊢;have Nb:=HO.len underlying101 3;have aaC:IntKind.u8.wrap HN=((UInt8.ofNat HN.toNat).toNat:Int):=by rw[acn,Gh];omega
      obtain⟨gJ,wq⟩:=aD (UInt8.ofNat HN.toNat);rw[wq]at aaC HO Nb;have aFm:=HO.drew.adc (P:=prog) rfl underlying101 underlying5 underlying9;have iQ:(uN gJ).length=512:=yC;simp[go_sem,aaB,aqE,Nb,aFm,aaC];refine(aqm gJ _).mono ?_;rintro _ db ⟨⟨aEV,rfl,aEW⟩,aFn,dV⟩;have ag3:H al cE db:=H.hR dV;have aFo:=(HO.ch ag3 λ_ _ e=>e).adc (P:=prog) rfl underlying101 underlying5 underlying9;have aFp:=aFn.adc (P:=prog) iQ underlying101 underlying5 underlying9;simp[go_sem,QE,aFo,aFp,hN];exact aqD (by simp[a0]) (by simp[a2]) (by simp[a3]) (by simp[a9]) (by simp[UV]) (by simp[UW]) (by simp) (aqC ag3) (ag2.trans (ag3.mono λ_ _ e=>e.elim))
    ·have qz:¬(j:Int)<64:=by omega
     simp[go_sem,UV,QE,qz,eQ];exact sL (by simp[a0]) (by simp[a2]) (by simp[a3]) (by simp[a9]) (by simp) xJ wg
   ·have ag0:(255:Int)<y:=by omega
    have ag1:255<y:=by omega
    simp[go_sem,bR,dt,fA,vJ,aO,fy,lI,mf,fh,aay,aaz,fv,ag0,ag1,eQ];exact sL (by simp[f0]) (by simp[bg]) (by simp[bR]) (by simp[dt]) (by simp) r Z
  ·have aay:(y:Int)<1:=by omega
   have aaz:y<1:=by omega
   simp[go_sem,bR,dt,fA,vJ,aO,fy,lI,mf,fh,aay,aaz,eQ];exact sL (by simp[f0]) (by simp[bg]) (by simp[bR]) (by simp[dt]) (by simp) r Z
 ·have fy:¬(i:Int)<ys.length:=by omega
  simp[go_sem,bR,fA,vJ,aO,fy];exact aE5 _ _ ⟨rfl,out r Z⟩
end
end Go.Proofs.YtoohkhcpboldjaaGreatDoor
