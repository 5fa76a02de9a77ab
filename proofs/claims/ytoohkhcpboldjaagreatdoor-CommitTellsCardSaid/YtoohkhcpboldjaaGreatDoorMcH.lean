/- What a commit does where it ends: the deferred closure. Conditions: the variables that are listed hold what the text lays; sizes. -/
import Derived.Test.YtoohkhcpboldjaaGreatDoorSpcA
set_option maxRecDepth 100000
set_option maxHeartbeats 4000000
set_option linter.unusedSimpArgs false
set_option linter.unusedVariables false
namespace Go.Proofs.YtoohkhcpboldjaaGreatDoor
open Go.RowKit Go.Kin Tryz
section
variable {w w':M}{m p n i:Nat}{z:fV}{s:ay}{a_:N}{A:Nat->Nat->Prop}{O S:Nat->Prop}
def ay.tK(n jq:Nat)(s:ay)(nX k0:Nat):ay:={s with use:=λi a=>if i<2/\(i<nX\/(i=nX/\a<k0))/\a<n/\s.use i a=2 then jq else s.use i a}
theorem aB'(n jq:Nat)(s:ay):s.tK n jq 0 0=s:=by
 unfold ay.tK
 grind
theorem aCa(n jq i:Nat)(s:ay):s.tK n jq i n=s.tK n jq (i+1) 0:=by
 unfold ay.tK
 grind
theorem aCb(n jq:Nat)(s:ay):s.tK n jq 2 0=s.all n jq:=by
 unfold ay.tK ay.all
 grind
theorem aCc{jq k:Nat}(s:ay)(ad:i<2)(r:k<n):(if(s.tK n jq i k).use i k=2 then(s.tK n jq i k).hL i k jq else s.tK n jq i k)=s.tK n jq i (k+1):=by
 have ap:(s.tK n jq i k).use i k=s.use i k:=by
  unfold ay.tK;simp only;rw[aQ];omega
 have W:∀(bK cR:ay),bK.aB=cR.aB->bK.P=cR.P->bK.use=cR.use->bK.eD=cR.eD->bK.eV=cR.eV->bK.gd=cR.gd->bK.dW=cR.dW->bK=cR:=by
  intro bK cR a b c d e f g
  cases bK;cases cR
  simp only at a b c d e f g;subst a;subst b;subst c;subst d;subst e;subst f;subst g;rfl
 rw[ap];have key:∀j a,(s.tK n jq i (k+1)).use j a=if j=i/\a=k/\s.use i k=2 then jq else(s.tK n jq i k).use j a:=λj a=>by
  unfold ay.tK
  grind
 by_cases T:s.use i k=2
 ·rw[be T];refine W _ _ rfl rfl ?_ rfl rfl rfl rfl;funext j a;rw[key,zN]
  grind
 ·rw[aQ T];refine W _ _ rfl rfl ?_ rfl rfl rfl rfl
  grind
def mG(z:fV):Nat->Prop:=λk=>k=z.g 0\/k=z.g 1
theorem YU(z:fV)(ad:i<2):∀k,aj (z.g i) k->mG z k:=λk r=>by
 simp only[aj]at r;rcases kX ad with rfl|rfl
 ·exact .inl r
 ·exact .inr r
theorem aoH(h:e' w m p n z s a_ A)(jq:Nat)(aRA:jq<2)(aq:n<=65536):bc prog 118 #[.pointer (some ⟨z.c',0,none⟩),aa jq] w λv' w'=>e' w' m p n z (s.all n jq) a_ A/\H (mG z) w w':=by
 refine bz func118 ntmps118 λbk af=> ?_;simp[go_sem];refine di (λV f bI=>∃i,i<=2/\V=2 - i/\f 0=.pointer (some ⟨z.c',0,none⟩)/\f 1=aa jq/\f 7=aa i/\e' bI m p n z (s.tK n jq i 0) a_ A/\H (mG z) w bI) 2
  ⟨0,by omega,rfl,by simp,by simp,by simp,by rw[aB'];exact h,H.refl _ _⟩ ?_
 rintro cQ bJ _ f bI ⟨i,q_,rfl,f0,aW,bQ,fg,Z⟩;by_cases ad:i<2
 ·have Hp:(i:Int)<2:=by omega
  have eQ:IntKind.i64.wrap ((i:Int)+1)=((i+1:Nat):Int):=by rw[cz];omega
  simp[go_sem,f0,aW,bQ,Hp];refine(Ug fg ad).mono ?_;rintro _ ai ⟨rfl,rfl⟩;have cu:=ZI (z.g i) n;simp[go_sem,cu];refine di (λV f bI=>∃k,k<=n/\V=n - k/\f 0=.pointer (some ⟨z.c',0,none⟩)/\f 1=aa jq/\f 7=aa i/\f 5=.slice (some ⟨z.g i,0,none⟩) n n/\f 14=aa n/\f 15=aa k/\e' bI m p n z (s.tK n jq i k) a_ A/\H (mG z) w bI) n
   ⟨0,gG _,rfl,by simp[f0],by simp[aW],by simp[bQ],by simp,by simp,by simp,fg,Z⟩ ?_
  clear f0 aW bQ fg Z f;rintro vq jR _ f bI ⟨k,r,rfl,f0,aW,bQ,f5,f14,f15,fg,Z⟩;by_cases lW:k<n
  ·have zO:(k:Int)<n:=by omega
   have ej:IntKind.i64.wrap ((k:Int)+1)=((k+1:Nat):Int):=by rw[cz];omega
   simp[go_sem,f14,f15,zO,lW];refine cT [F 0,F 2,F 3,F 4,(1,some [2,3,4]),(5,some [])] ?_;have dO:∀k,gU z m p a_ A k->¬al k:=λ_ _ e=>e;have afI:=fg.ch (H.refl al bI).drew dO;have GR:=Z.drew;obtain⟨u,ap⟩:=aD (bI.drew);rw[ap]at afI GR⊢;simp[go_sem,f0,aW,f5,f15,zO,lW];refine(afJ 2 jq u).mono ?_;rintro _ gw ⟨rfl,t1,aY,bK⟩;have ak:=afI.cN ad;simp[go_sem,ZJ,lW,f5];have oC:∀(x:List N) (w:M),(callFunc 171 x.toArray).run prog w=.ok (.enter 171 x.toArray) w:=λx w=>by simp[go_sem]
   rw[EJ _ _ _ _ [.pointer (some ⟨u.1.size,0,none⟩),.pointer (some ⟨u.1.size+1,0,none⟩)] _ (oC _ _)];refine(aoI (afI.ch aY dO) ad lW t1 ⟨by omega,by omega⟩).mono ?_;rintro _ u2 ⟨⟨b,rfl⟩,T,aK⟩;rw[aCc s ad lW]at T;simp[go_sem,f15,ej];exact ct.intro (n -(k+1)) (by omega) (jR _ _ _ ⟨k+1,by omega,rfl,by simpa using f0,by simpa using aW,by simpa using bQ,by simpa using f5,by simpa using f14,by simp,T,(GR.trans (aY.mono λ_ _ e=>e.elim)).trans (aK.mono λk _ e=>YU z ad k e)⟩)
  ·obtain rfl:k=n:=by omega
   rw[aCa]at fg;simp[go_sem,f14,f15,bQ,eQ];exact ct.intro (2 -(i+1)) (by omega) (bJ _ _ _ ⟨i+1,by omega,rfl,by simpa using f0,by simpa using aW,by simp,fg,Z⟩)
 ·obtain rfl:i=2:=by omega
  rw[aCb]at fg;simp[go_sem,bQ];exact af _ _ ⟨fg,Z⟩
theorem aCd(h:e' w m p n z s a_ A)(aq:n<=65536):bc prog 66 #[.pointer (some ⟨z.c',0,none⟩)] w λv' w'=>v'=.tuple #[]/\e' w' m p n z (s.all n 0) a_ A/\H (mG z) w w':=by
 refine bz func66 ntmps66 λbk af=> ?_;simp[go_sem];refine(aoH h 0 (by omega) aq).mono ?_;rintro v ai ⟨J,aY⟩;simp[go_sem];exact af _ _ ⟨rfl,J,aY⟩
theorem aCe(h:e' w m p n z s a_ A)(aq:n<=65536):bc prog 67 #[.pointer (some ⟨z.c',0,none⟩)] w λv' w'=>v'=.tuple #[]/\e' w' m p n z (s.all n 1) a_ A/\H (mG z) w w':=by
 refine bz func67 ntmps67 λbk af=> ?_;simp[go_sem];refine(aoH h 1 (by omega) aq).mono ?_;rintro v ai ⟨J,aY⟩;simp[go_sem];exact af _ _ ⟨rfl,J,aY⟩
def ay.eM(s:ay)(i x n:Nat):Nat:=(List.range n).countP λa=>decide (1<=a)&&decide (s.use i a=x)
def ay.Db(s:ay)(i n:Nat):Nat:=(List.range n).countP λa=>decide (1<=a)&&s.eD i a
theorem aoJ(s:ay)(i x k:Nat):s.eM i x (k+1)=s.eM i x k+if 1<=k/\s.use i k=x then 1 else 0:=by
 unfold ay.eM;rw[IH,List.countP_append]
 grind
theorem aoK(s:ay)(i k:Nat):s.Db i (k+1)=s.Db i k+if 1<=k/\s.eD i k=true then 1 else 0:=by
 unfold ay.Db;rw[IH,List.countP_append]
 grind
theorem afK(s:ay)(i x n:Nat):s.eM i x n<=n:=dK List.countP_le_length (by simp)
theorem aCf(s:ay)(i n:Nat):s.Db i n<=n:=dK List.countP_le_length (by simp)
def SO(s:ay)(i n:Nat):N:=.agg #[aa (s.eM i 0 n),aa (s.eM i 1 n),aa (s.eM i 2 n),aa (s.Db i n)]
theorem aCg(h:e' w m p n z s a_ A)(ad:i<2)(aq:n<=65536)(ap:∀a,1<=a->a<n->s.use i a<3):bc prog 19 #[.pointer (some ⟨z.c',0,none⟩),aa i] w λv' w'=>v'=SO s i n/\H al w w':=by
 refine bz func19 ntmps19 λbk af=> ?_;have aU:=((H.refl al w).alloc (.cells #[aa 0,aa 0,aa 0,aa 0] 58)).alloc (.cells #[aa 0,aa 0,aa 0] 152);have bu:=oF w (.cells #[aa 0,aa 0,aa 0,aa 0] 58) (.cells #[aa 0,aa 0,aa 0] 152);have bt:=nM w (.cells #[aa 0,aa 0,aa 0,aa 0] 58) (.cells #[aa 0,aa 0,aa 0] 152);have fg:=h.ch aU λ_ _ e=>e;simp[go_sem];obtain⟨ai,dx⟩:=aD ((w.alloc (.cells #[aa 0,aa 0,aa 0,aa 0] 58)).alloc (.cells #[aa 0,aa 0,aa 0] 152));rw[dx]at aU bu bt fg⊢;obtain⟨q,au⟩:=aD (w.1.size);rw[au]at bu bt⊢;refine(Ug fg ad).mono ?_;rintro _ an ⟨rfl,rfl⟩;have cu:=ZI (z.g i) n;have jj:=h.cN ad;simp[go_sem,cu];refine di (λV f bI=>∃k,k<=n/\V=n - k/\f 4=az q/\f 5=.pointer (some ⟨q+1,0,none⟩)/\f 6=aa (s.Db i k)/\f 7=.slice (some ⟨z.g i,0,none⟩) n n/\f 13=aa n/\f 14=aa k/\bI.1[q+1]? =some (.cells #[aa (s.eM i 0 k),aa (s.eM i 1 k),aa (s.eM i 2 k)] 152 (0,0))/\H (aj (q+1)) an bI) n
  ⟨0,gG _,rfl,by simp,by simp,by simp[ay.Db],by simp,by simp,by simp,by simpa[ay.eM]using bt,H.refl _ _⟩ ?_
 rintro cQ bJ _ f bI ⟨k,r,rfl,ck,f5,f6,bQ,fw,f14,ab,Z⟩;have aCh:=fg.pl i ad;have sD:z.g i≠q+1:=by omega
 have aoL:=Z.obj aCh sD;by_cases lW:k<n
 ·have zO:(k:Int)<n:=by omega
  have ej:IntKind.i64.wrap ((k:Int)+1)=((k+1:Nat):Int):=by rw[cz];omega
  have aS:bI.cell? ⟨z.g i,k*2,none⟩=some (aa (s.use i k)):=by rw[aG aoL];exact(PZ s i lW).1
  have cs:bI.cell? ⟨z.g i,k*2+1,none⟩=some (.bool (s.eD i k)):=by rw[aG aoL];exact(PZ s i lW).2
  by_cases lH:k=0
  ·subst lH;have Hq:0<n:=lW;have dx:IntKind.i64.wrap 1=1:=by decide
   simp[go_sem,fw,f14,Hq,dx];refine ct.intro (n -(0+1)) (by omega) (bJ _ _ _ ⟨1,by omega,by omega,by simpa using ck,by simpa using f5,by simpa[aoK]using f6,by simpa using bQ,by simpa using fw,by simp,?_,Z⟩);simpa[aoJ]using ab
  ·have Dc:((k:Int)==0)=false:=hv (by omega);have kx:=aG ab 0;have es:=aG ab 1;have cX:=aG ab 2;have P_:=λj=>dJ ab j;have tb:=afK s i 0 k;have mx:=afK s i 1 k;have lh:=afK s i 2 k;have qL:=aCf s i k;have tE:∀c:Nat,c<=k->IntKind.i64.wrap ((c:Int)+1)=((c+1:Nat):Int):=λc Z=>by rw[cz];omega
   have E_:s.Db i (k+1)=if s.eD i k=true then s.Db i k+1 else s.Db i k:=by
    rw[aoK];by_cases h:s.eD i k=true
    ·grind
    ·grind
   have mq:∀x,s.eM i x (k+1)=if s.use i k=x then s.eM i x k+1 else s.eM i x k:=λx=>by
    rw[aoJ];by_cases h:s.use i k=x
    ·grind
    grind
   have ag:=ap k (by omega) lW;have bU:∀(x:Nat) (f':Nat->N) (u:M),s.use i k=x->x<3->f' 4=az q->f' 5=.pointer (some ⟨q+1,0,none⟩)->f' 6=aa (s.Db i (k+1))->f' 7=.slice (some ⟨z.g i,0,none⟩) n n->f' 13=aa n->f' 14=aa (k+1:Nat)->u=bI.setCell ⟨q+1,x,none⟩ (aa (s.eM i x k+1:Nat))->cQ (n -(k+1)) f' u:=λx f' u W sA cy cO cA jp Qa Dd ap=>by
    refine bJ _ _ _ ⟨k+1,by omega,rfl,cy,cO,cA,jp,Qa,Dd,?_,?_⟩
    ·rw[ap,eU,ab,fU,mq,mq,mq];have:x=0\/x=1\/x=2:=by omega
     rcases this with rfl|rfl|rfl<;>simp[W]
    ·rw[ap];exact Z.setCell (p:=⟨q+1,x,none⟩) (.inl rfl) _
   have aoM:s.use i k=0\/s.use i k=1\/s.use i k=2:=by omega
   cases aA:s.eD i k with
   |true=>
    rw[aA]at cs E_;simp only[if_true]at E_;rcases aoM with e|e|e
    ·rw[e]at aS;simp[go_sem,f5,f6,bQ,fw,f14,zO,lW,lH,Dc,aS,cs,kx,P_,tE _ tb,tE _ qL,sD,ej];exact ct.intro (n -(k+1)) (by omega) (bU 0 _ _ e (by omega) (by simpa using ck) (by simpa using f5) (by simp[E_]) (by simpa using bQ) (by simpa using fw) (by simp) (by simp))
    ·rw[e]at aS;simp[go_sem,f5,f6,bQ,fw,f14,zO,lW,lH,Dc,aS,cs,es,P_,tE _ mx,tE _ qL,sD,ej];exact ct.intro (n -(k+1)) (by omega) (bU 1 _ _ e (by omega) (by simpa using ck) (by simpa using f5) (by simp[E_]) (by simpa using bQ) (by simpa using fw) (by simp) (by simp))
    ·rw[e]at aS;simp[go_sem,f5,f6,bQ,fw,f14,zO,lW,lH,Dc,aS,cs,cX,P_,tE _ lh,tE _ qL,sD,ej];exact ct.intro (n -(k+1)) (by omega) (bU 2 _ _ e (by omega) (by simpa using ck) (by simpa using f5) (by simp[E_]) (by simpa using bQ) (by simpa using fw) (by simp) (by simp))
   |false=>
    rw[aA]at cs E_;simp only[wk,if_false]at E_;rcases aoM with e|e|e
    ·rw[e]at aS;simp[go_sem,f5,f6,bQ,fw,f14,zO,lW,lH,Dc,aS,cs,kx,P_,tE _ tb,sD,ej];exact ct.intro (n -(k+1)) (by omega) (bU 0 _ _ e (by omega) (by simpa using ck) (by simpa using f5) (by simp[E_,f6]) (by simpa using bQ) (by simpa using fw) (by simp) (by simp))
    ·rw[e]at aS;simp[go_sem,f5,f6,bQ,fw,f14,zO,lW,lH,Dc,aS,cs,es,P_,tE _ mx,sD,ej];exact ct.intro (n -(k+1)) (by omega) (bU 1 _ _ e (by omega) (by simpa using ck) (by simpa using f5) (by simp[E_,f6]) (by simpa using bQ) (by simpa using fw) (by simp) (by simp))
    ·rw[e]at aS;simp[go_sem,f5,f6,bQ,fw,f14,zO,lW,lH,Dc,aS,cs,cX,P_,tE _ lh,sD,ej];exact ct.intro (n -(k+1)) (by omega) (bU 2 _ _ e (by omega) (by simpa using ck) (by simpa using f5) (by simp[E_,f6]) (by simpa using bQ) (by simpa using fw) (by simp) (by simp))
 ·obtain rfl:k=n:=by omega
  have kx:=aG ab 0;have es:=aG ab 1;have cX:=aG ab 2;have cI:=Z.obj bu (show¬aj (q+1) q by simp only[aj];omega);have oz:=λj=>aG cI j;have z4:=λj=>dJ cI j;simp[go_sem,ck,f5,f6,fw,f14,kx,es,cX,oz,z4,cI];have kb:H al w bI:=aU.bZ Z λj I e=>by simp only[aj]at e;omega
  exact af _ _ ⟨rfl,(((kb.setCell (p:=bl q 0) (.inr (by simp only;omega)) _).setCell (p:=bl q 1) (.inr (by simp only;omega)) _).setCell (p:=bl q 2) (.inr (by simp only;omega)) _).setCell (p:=bl q 3) (.inr (by simp only;omega)) _⟩
end
def GZ(m:Nat)(z:fV)(bf:Nat)(ey:N):Array N:=#[az m,.pointer (some ⟨z.c',0,none⟩),.int .u64 bf,ey]
structure lu(w:M)(k m p n:Nat)(z:fV)(bf:Nat)(t:eb)(a_:N)(A:Nat->Nat->Prop)(ey:N):Prop where
 pm:e' w m p n z t.s a_ A
 blk:w.1[k]? =some (.cells (GZ m z bf ey) 163 (0,0))
 fS:w.ownsRow 0 44 41 ey t.bX.length (ei ae t.bX)
 lP:∀q∈t.bX,cc q
 oM:¬gU z m p a_ A k
 fe:∀j,ey.ownBlock=some j->¬gU z m p a_ A j/\j≠k
def oL(k m p:Nat)(z:fV)(a_:N)(A:Nat->Nat->Prop)(ey:N):Nat->Prop:=λj=>gU z m p a_ A j\/j=k\/ey.ownBlock=some j
section
variable {w w':M}{k m p n bf:Nat}{z:fV}{t:eb}{a_ ey:N}{A:Nat->Nat->Prop}{S:Nat->Prop}
theorem lu.ch(h:lu w k m p n z bf t a_ A ey)(Z:H S w w')(cl:∀j,oL k m p z a_ A ey j->¬S j):lu w' k m p n z bf t a_ A ey:=
 ⟨h.pm.ch Z λj I=>cl j (.inl I),Z.obj h.blk (cl k (.inr (.inl rfl))),gu h.fS Z λj I=>cl j (.inr (.inr I)),h.lP,h.oM,h.fe⟩
theorem lu.lt(h:lu w k m p n z bf t a_ A ey):∀j,oL k m p z a_ A ey j->j<w.1.size:=λj I=>by
 rcases I with I|rfl|I
 ·exact h.pm.ih j I
 ·exact lt_of_block h.blk
 ·exact nK h.fS j I
theorem xV(z:fV)(m p:Nat)(a_:N)(A:Nat->Nat->Prop):∀j,mG z j->gU z m p a_ A j:=λj I=>by
 rcases I with rfl|rfl
 ·exact .inl (.inr (.inr (.inl rfl)))
 ·exact .inl (.inr (.inr (.inr (.inl rfl))))
theorem lu.Ty(h:lu w k m p n z bf t a_ A ey){s':ay}(J:e' w' m p n z s' a_ A)(Z:H (mG z) w w')(gN:List Pt):lu w' k m p n z bf ⟨s',t.bX,gN⟩ a_ A ey:=
 ⟨J,Z.obj h.blk λe=>h.oM (xV z m p a_ A k e),gu h.fS Z λj I e=>(h.fe j I).1 (xV z m p a_ A j e),h.lP,h.oM,h.fe⟩
theorem aoN(q:Pt)(n f t:Nat)(s:ay):(rN q).foldl (ay.nY n f t) s=(eA q.a 4).foldl (λs k=>ay.nY n f t s (k / 2,du q k)) s:=by
 unfold rN;rw[List.foldl_map]
theorem anA(h:lu w k m p n z bf t a_ A ey)(q:Pt)(ok:cc q):bc prog 124 #[az k,.agg (ae q)] w λv' w'=>v'=.tuple #[]/\lu w' k m p n z bf (lR n t q) a_ A ey/\H (mG z) w w':=by
 refine bz func124 ntmps124 λbk af=> ?_;have de:=cd ok;have da:=ef ok;have hz:=h.pm.cN (i:=0) (by omega);simp[go_sem,de,da];have aU:=((H.refl al w).alloc (.cells #[az k] 161)).alloc (.cells (ae q) 44);have bu:=oF w (.cells #[az k] 161) (.cells (ae q) 44);have bt:=nM w (.cells #[az k] 161) (.cells (ae q) 44);obtain⟨ai,dx⟩:=aD ((w.alloc (.cells #[az k] 161)).alloc (.cells (ae q) 44));rw[dx]at aU bu bt⊢;have J:=h.ch aU λ_ _ e=>e;refine(SZ q ai).mono ?_;rintro _ an ⟨rfl,aR⟩;have cX:=cr ai (.cells (ae q) 44);have aK:=(H.refl al ai).alloc (.cells (ae q) 44);rw[<-aR]at cX aK;have T:=J.ch aK λ_ _ e=>e;have jU:=aK.obj bu id;have ak:=h.lt;have gF:=aU.size;have gx:=aU.trans aK;simp[go_sem];obtain⟨bq,bW⟩:∃bq:List Nat->M->Prop,bq=λpre Y=>lu Y k m p n z bf ⟨(pre.map (·%4)).foldl (λs k=>ay.nY n 1 2 s (k / 2,du q k)) t.s,t.bX,t.gN⟩ a_ A ey/\Y.1[w.1.size]? =some (.cells #[az k] 161 (0,0))/\H (mG z) w Y:=⟨_,rfl⟩;refine Ys (ZK q ai.1.size _ _ (mG z) an ok cX) (H.refl _ _) rfl rfl (by kernel_rfl) ?_ bq (λ_ _ _=>False)
  (λx f' _=>f' 4=aa (x%4 / 2:Nat)/\f' 5=.int .u16 (du q (x%4))/\f' 2=.pointer (some ⟨w.1.size,0,none⟩)) ?_ ?_ ?_ ?_ ?_ ?_ ?_ ?_
 ·intro j I;exact T.pm.ih j (xV z m p a_ A j I)
 ·rintro pre Y bG aN ax;rw[bW]at aN⊢;have gY:∀j,j<ai.1.size->¬an.1.size<=j:=λj I e=>by have:=aK.size;omega
  exact⟨aN.1.ch ax.ch λj I=>gY j (by have:=ak j I;omega),ax.blk aN.2.1,ax.xN aN.2.2 gx.size⟩
 ·exact λ_ _ _ _ h _=>h
 ·exact λ_ _ _ _ h _=>h
 ·rw[bW];exact⟨T,jU,gx.mono λ_ _ e=>e.elim⟩
 ·rintro pre x Y aN;simp[go_sem];refine⟨H.refl _ _,aN,?_,?_⟩
  ·simp[vt]
  ·simp[vt,du]
 ·rintro pre x f' Y aN ⟨ck,f5,bg⟩;rw[bW]at aN;obtain⟨hb,ab,Z⟩:=aN;obtain⟨j,I⟩:=aD (x%4);rw[I]at ck f5;have pR:j / 2<2:=by omega
  have gW:Y.cell? ⟨w.1.size,0,none⟩=some (az k):=aG ab 0;have dc:Y.cell? (bl k 1)=some (.pointer (some ⟨z.c',0,none⟩)):=aG hb.blk 1;simp[go_sem,ck,f5,bg,gW,dc];refine(aCi hb.pm pR (du q j) (Uh ok j)).mono ?_;rintro v gk ⟨ag,aI⟩;have vD:H (mG z) Y gk:=aI.mono λa _ e=>YU z pR a e;simp[go_sem];refine⟨vD,?_⟩;rw[bW];have Hr:(pre++[x]).map (·%4)=pre.map (·%4)++[j]:=by rw[AC,oq,I];rfl
  refine⟨?_,vD.obj ab λe=> ?_,Z.trans vD⟩
  ·rw[Hr,Cc];exact hb.Ty ag vD t.gN
  ·have:=ak _ (.inl (xV z m p a_ A _ e));omega
 ·rintro D Y dX aN bm;rw[bW]at aN;obtain⟨hb,ab,Z⟩:=aN;have MM:(eA q.a 4).map (·%4)=eA q.a 4:=by
   conv=>rhs;rw[<-OL (eA q.a 4)]
   exact xE λk r=>by simpa using Cb (MN r).1
  rw[MM,<-aoN]at hb;have nT:H (aj D) Y (Y.putObj D (.deferred none)):=(H.refl (aj D) Y).putObj (.inl rfl) _;have aCj:∀a,a<ai.1.size->a≠D:=λa ao e=>by have:=aK.size;omega
  have zP:=hb.ch nT λa ao e=>aCj a (by have:=ak a ao;omega) e;simp[go_sem,adU,bm];refine af _ _ ⟨rfl,?_,Z.putObj (.inr (by have:=gx.size;omega)) _⟩;unfold lR;exact⟨zP.pm,zP.blk,zP.fS,zP.lP,zP.oM,zP.fe⟩
 ·exact λ_ _ _ _ _ _ h=>h.elim
end
theorem ay.aCk(n:Nat)(l:List Pt)(q:Pt)(s:ay):s.yb n (l++[q])=(rN q).foldl (ay.nY n 1 0) (s.yb n l):=by
 unfold ay.yb;rw[Cc];rfl
section
variable {w w':M}{k m p n bf:Nat}{z:fV}{t:eb}{a_ ey:N}{A:Nat->Nat->Prop}{S:Nat->Prop}
theorem aCl(h:lu w k m p n z bf t a_ A ey)(aq:n<=65536){gp fM vM go sE:Nat}{E:Int}{st:et}(ok:gi st){Yl:Array N}(Mb:Yl.size=83)
  (aV:w.1[gp]? =some (.cells #[aa E] 50 (0,0)))(aA:w.1[fM]? =some (.cells #[.pointer (some ⟨z.c',0,none⟩)] 35 (0,0)))
  (eS:w.1[vM]? =some (.cells (bN st) 46 (0,0)))(av:w.1[go]? =some (.cells Yl 46 (0,0)))(r:w.1[sE]? =some (.cells #[az k] 161 (0,0)))
  (dn:∀j,(j=gp\/j=fM\/j=vM\/j=go\/j=sE)->¬oL k m p z a_ A ey j)(lV:go≠gp/\go≠fM/\go≠vM/\go≠sE):
  CallsDIn Fence.wide 0 prog 65 #[az gp,az fM,az vM,az go,az sE] .returning w λe cq w'=>cq=.returning/\∃v,e=.returned v/\
   ((E=0->lu w' k m p n z bf ⟨t.s.all n 0,t.bX,t.gN⟩ a_ A ey/\H (mG z) w w')/\(E≠0->lu w' k m p n z bf ⟨(t.s.all n 1).yb n t.bX,t.bX,t.gN⟩ a_ A ey/\w'.1[go]? =some (.cells (bN st) 46 (0,0))/\H (λj=>mG z j\/j=go) w w')):=by
 refine ayw func65 ntmps65 rfl (by simp) λbk af=> ?_;have Bi:w.cell? (bl gp 0)=some (aa E):=aG aV 0;have cs:w.cell? (bl fM 0)=some (.pointer (some ⟨z.c',0,none⟩)):=aG aA 0;have nG:=lo ok;have mg:=un ok;have aoO:=h.lt;by_cases hx:E=0
 ·subst hx;simp[go_sem,Bi,cs];refine(aCd h.pm aq).mono ?_;rintro _ ai ⟨rfl,J,aY⟩;simp[go_sem];exact af _ _ ⟨λ_=>⟨h.Ty J aY t.gN,aY⟩,λe=>absurd rfl e⟩
 ·have aCm:(E==0)=false:=by simpa using hx
  have xZ:H (aj go) w (w.setRow go (bN st)):=(H.refl (aj go) w).setRow (g:=go) (.inl rfl) _;have Ui:(w.setRow go (bN st)).1[go]? =some (.cells (bN st) 46 (0,0)):=by rw[gh,av];rfl
  have J:=h.ch xZ λj I e=>dn go (by simp) (by simp only[aj]at e;rw[<-e];exact I);have afL:=xZ.obj aA λe=>lV.2.1 (by simp only[aj]at e;exact e.symm);have aoP:=xZ.obj r λe=>lV.2.2.2 (by simp only[aj]at e;exact e.symm);have aoQ:=aG afL 0;obtain⟨ai,dx⟩:=aD (w.setRow go (bN st));rw[dx]at xZ Ui J afL aoP aoQ;simp[go_sem,Bi,cs,aCm,eS,nG,mg,av,Mb,mW,bS,dx,aoQ];refine(aCe J.pm aq).mono ?_;rintro _ an ⟨rfl,T,aK⟩;have zP:=J.Ty T aK t.gN;have Uj:∀j,(j=gp\/j=fM\/j=vM\/j=go\/j=sE)->¬mG z j:=λj I e=>dn j I (.inl (xV z m p a_ A j e));have aCn:=aK.obj afL (Uj fM (by simp));have aCo:=aK.obj aoP (Uj sE (by simp));have aCp:=aK.obj Ui (Uj go (by simp));have aCq:=aG aCo 0;have aCr:an.cell? (bl k 3)=some ey:=aG zP.blk 3;have Zj:fC an ey (λx=>(ae x).toList) 41 t.bX:=fC.fF zP.fS λq au=>cd (h.lP q au);have cu:=Zj.len underlying87 3;have gx:H (λj=>mG z j\/j=go) w an:=(xZ.mono λj _ e=>.inr e).trans (aK.mono λj _ e=>.inl e);simp[go_sem,aCq,aCr,cu];refine ayB (λV ms f u=>∃i,V=t.bX.length - i/\i<=t.bX.length/\f 1=az fM/\f 19=ey/\f 20=aa t.bX.length/\f 21=aa (i:Nat)/\
    lu u k m p n z bf ⟨(t.s.all n 1).yb n (t.bX.take i),t.bX,t.gN⟩ a_ A ey/\u.1[fM]? =some (.cells #[.pointer (some ⟨z.c',0,none⟩)] 35 (0,0))/\u.1[go]? =some (.cells (bN st) 46 (0,0))/\
    H (λj=>mG z j\/j=go) w u/\(∀D∈ms,w.1.size<=D/\D<u.1.size/\u.1[D]? =some (.deferred (some [])))/\ms.Nodup) t.bX.length
   ⟨0,rfl,gG _,by simp,by simp,by simp,by simp,zP,aCn,aCp,gx,by simp,by simp⟩ ?_
  rintro cQ bJ _ ms f u ⟨i,rfl,ad,aW,Ev,f20,f21,ap,qt,zQ,aS,Ba,kz⟩;by_cases aO:i<t.bX.length
  case neg=>
   have fy:¬(i:Int)<t.bX.length:=by omega
   have CV:i=t.bX.length:=by omega
   subst CV;rw[wm]at ap;simp[go_sem,f20,f21,adU];refine al7 ms u (λD dX=>(Ba D dX).2.2) kz λw' dA=> ?_;have eY:∀j,j<w.1.size->¬j∈ms:=λj I e=>by have:=(Ba j e).1;omega
   exact af _ _ ⟨λe=>absurd e hx,λ_=>⟨ap.ch dA λj I e=>eY j (aoO j I) e,dA.obj zQ (eY go (lt_of_block av)),aS.bZ dA λj I e=>absurd e (eY j I)⟩⟩
  have fy:(i:Int)<t.bX.length:=by omega
  obtain⟨q,au⟩:∃q,t.bX[i]? =some q:=⟨_,d_ aO⟩;have ov:=h.lP q (ib au);have ZL:fC u ey (λx=>(ae x).toList) 41 t.bX:=fC.fF ap.fS λq au=>cd (h.lP q au);obtain⟨eC,uB,hB,aeY,aeZ,ae0,TG,iQ,xX,eY⟩:=ZL.OX (by decide) (λa ao=>cd (h.lP a ao)) au;have Bk:=cd ov;have wK:=ef ov;have ee:=cd cH;have eQ:IntKind.i64.wrap ((i:Int)+1)=((i+1:Nat):Int):=by
   obtain⟨_,_,_,mx,lh,_⟩:=ZL;unfold maxLen at lh;rw[cz];omega
  have aI:=(H.refl al u).alloc (.cells (ae q) 44);have cK:=cr u (.cells (ae q) 44);obtain⟨aJ,ik⟩:=aD (u.alloc (.cells (ae q) 44));rw[ik]at aI cK;have ZB:=Ev;rw[TG]at ZB;simp[go_sem,ZB,f20,f21,aO,fy,iQ,xX,eY,gO,gP,ee,Bk,wK,bS,ik,cK];have ag:=ap.ch aI λ_ _ e=>e;have ZM:=aI.obj qt id;have aCs:=aI.obj zQ id;have iC:aJ.1.size=u.1.size+1:=by rw[<-ik];simp
  refine(SZ q aJ).mono ?_;rintro _ bs ⟨rfl,dl⟩;have vk:=cr aJ (.cells (ae q) 44);have bo:=(H.refl al aJ).alloc (.cells (ae q) 44);have jo:(aJ.alloc (.cells (ae q) 44)).1.size=aJ.1.size+1:=by simp
  rw[<-dl]at vk bo jo;have aP:=ag.ch bo λ_ _ e=>e;have afM:=bo.obj ZM id;have aCt:=bo.obj aCs id;have EN:=aP.lt;have EP:=aS.size;have Uk:H (λj=>mG z j\/j=go) w bs:=aS.trans ((aI.trans bo).mono λ_ _ e=>e.elim);simp[go_sem,aW];obtain⟨bq,bW⟩:∃bq:List Nat->M->Prop,bq=λpre Y=>lu Y k m p n z bf ⟨(pre.map (·%4)).foldl (λs k=>ay.nY n 1 0 s (k / 2,du q k)) ((t.s.all n 1).yb n (t.bX.take i)),t.bX,t.gN⟩ a_ A ey/\Y.1[fM]? =some (.cells #[.pointer (some ⟨z.c',0,none⟩)] 35 (0,0))/\Y.1[go]? =some (.cells (bN st) 46 (0,0))/\
    H (λj=>mG z j\/j=go) w Y/\(∀D∈ms,w.1.size<=D/\D<u.1.size/\Y.1[D]? =some (.deferred (some []))):=⟨_,rfl⟩
  refine Ys (ZK q aJ.1.size _ _ (mG z) bs ov vk) (H.refl _ _) rfl rfl (by kernel_rfl) ?_ bq (λ_ _ _=>False)
   (λx f' _=>f' 7=aa (x%4 / 2:Nat)/\f' 8=.int .u16 (du q (x%4))/\f' 1=az fM) ?_ ?_ ?_ ?_ ?_ ?_ ?_ ?_
  ·intro j I;exact aP.pm.ih j (xV z m p a_ A j I)
  ·rintro pre Y bG aN ax;rw[bW]at aN⊢;obtain⟨bn,bh,bA,ex,fJ⟩:=aN;have gY:∀j,j<bs.1.size->¬bs.1.size<=j:=λj I e=>by omega
   exact⟨bn.ch ax.ch λj I=>gY j (EN j I),ax.blk bh,ax.blk bA,ax.xN ex Uk.size,λD dX=>⟨(fJ D dX).1,(fJ D dX).2.1,ax.ch.obj (fJ D dX).2.2 λe=>by have:=(fJ D dX).2.1;omega⟩⟩
  ·exact λ_ _ _ _ h _=>h
  ·exact λ_ _ _ _ h _=>h
  ·rw[bW];exact⟨aP,afM,aCt,Uk,λD dX=>⟨(Ba D dX).1,(Ba D dX).2.1,bo.obj (aI.obj (Ba D dX).2.2 id) id⟩⟩
  ·rintro pre x Y aN;simp[go_sem];refine⟨H.refl _ _,aN,?_,?_,?_⟩
   ·simp[vt]
   ·simp[vt,du]
   ·exact aW
  ·rintro pre x f' Y aN ⟨bQ,bB,aCu⟩;rw[bW]at aN;obtain⟨hb,ab,afN,Z,bm⟩:=aN;obtain⟨j,I⟩:=aD (x%4);rw[I]at bQ bB;have pR:j / 2<2:=by omega
   have gW:Y.cell? (bl fM 0)=some (.pointer (some ⟨z.c',0,none⟩)):=aG ab 0;simp[go_sem,bQ,bB,aCu,gW];refine(aCv hb.pm pR (du q j) (Uh ov j)).mono ?_;rintro v gk ⟨ag,aI⟩;have vD:H (mG z) Y gk:=aI.mono λa _ e=>YU z pR a e;simp[go_sem];refine⟨vD,?_⟩;rw[bW];have Hr:(pre++[x]).map (·%4)=pre.map (·%4)++[j]:=by rw[AC,oq,I];rfl
   refine⟨?_,vD.obj ab (Uj fM (by simp)),vD.obj afN (Uj go (by simp)),Z.trans (vD.mono λ_ _ e=>.inl e),λD dX=>⟨(bm D dX).1,(bm D dX).2.1,vD.obj (bm D dX).2.2 λe=>by have:=aoO _ (.inl (xV z m p a_ A _ e));have:=(bm D dX).1;omega⟩⟩;rw[Hr,Cc];exact hb.Ty ag vD t.gN
  ·rintro D Y dX aN bm;rw[bW]at aN;obtain⟨hb,ab,afN,Z,Ex⟩:=aN;have MM:(eA q.a 4).map (·%4)=eA q.a 4:=by
    conv=>rhs;rw[<-OL (eA q.a 4)]
    exact xE λk r=>by simpa using Cb (MN r).1
   rw[MM,<-aoN,<-ay.aCk]at hb;have iX:t.bX.take i++[q]=t.bX.take (i+1):=by rw[nA,au];rfl
   rw[iX]at hb;have aCw:=lt_of_block bm;simp[go_sem,f21,eQ];refine Yx.intro (t.bX.length -(i+1)) (by omega) (bJ _ _ _ _ ⟨i+1,rfl,by omega,by simp[aW],by simp[Ev],by simp[f20],by simp,hb,ab,afN,Z,λD' Ul=> ?_,?_⟩)
   ·rcases io.1 Ul with rfl|Ul
    ·exact⟨by omega,aCw,bm⟩
    ·exact⟨(Ex D' Ul).1,lt_of_block (Ex D' Ul).2.2,(Ex D' Ul).2.2⟩
   ·rw[OH]
    grind
  ·exact λ_ _ _ _ _ _ h=>h.elim
end
end Go.Proofs.YtoohkhcpboldjaaGreatDoor
