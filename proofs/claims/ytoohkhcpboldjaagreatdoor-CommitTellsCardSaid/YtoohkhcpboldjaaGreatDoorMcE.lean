/- The maker tells that a whole tree is old. Conditions: the variables ptr.wide, tree.hole and sha.constants lie among the blocks that are kept. -/
import Derived.Test.YtoohkhcpboldjaaGreatDoorMcH
set_option maxRecDepth 100000
set_option maxHeartbeats 4000000
set_option linter.unusedSimpArgs false
set_option linter.unusedVariables false
namespace Go.Proofs.YtoohkhcpboldjaaGreatDoor
open Go.RowKit Go.Kin Tryz
def mm(n:Nat)(s:ay)(w d j:Nat):ay×List Nat:=if d=0 then((s.kl n 0 j).1,(s.kl n 0 j).2++[0,0])else(((s.kl n 0 w).1.kl n 1 j).1,(s.kl n 0 w).2++((s.kl n 0 w).1.kl n 1 j).2)
def Bf(n:Nat)(s:ay)(w d:Nat):ay×List Nat:=if d=0 then mm n s w 0 0 else if d=1 then mm n s w 1 0 else mm n s w 1 w
theorem amZ(n:Nat)(s:ay)(d j:Nat):(s.kl n d j).2.length=2:=by
 unfold ay.kl
 grind
theorem az9{n:Nat}{s:ay}{w d j:Nat}(bM:w<=2)(bm:d<2)(I:j<w):mm n s w d (j+1)=(((mm n s w d j).1.alloc n d).1,(mm n s w d j).2.set (2*d+j) ((mm n s w d j).1.alloc n d).2):=by
 have GB:d=0\/d=1:=by omega
 have pR:j=0\/j=1:=by omega
 have ak:=amZ n s 0 w;obtain⟨x,y,e⟩:∃x y,(s.kl n 0 w).2=[x,y]:=by
  match h:(s.kl n 0 w).2,ak with
  |[x,y],_=>exact⟨x,y,rfl⟩
 rcases GB with rfl|rfl
 ·rcases pR with rfl|rfl<;>simp[mm,ay.kl]
 ·rcases pR with rfl|rfl<;>simp[mm,e]<;>simp[ay.kl]
theorem aeD(n:Nat)(s:ay)(w d j:Nat):(mm n s w d j).2.length=4:=by
 unfold mm;split<;>simp[amZ]
theorem am0(n:Nat)(s:ay)(w:Nat):Bf n s w 0=(s,[0,0,0,0]):=by simp[Bf,mm,ay.kl]
theorem az_{n:Nat}{s:ay}{w d:Nat}(bm:d<2):Bf n s w d=mm n s w d 0:=by
 have:d=0\/d=1:=by omega
 rcases this with rfl|rfl<;>simp[Bf]
theorem am1{n:Nat}{s:ay}{w d:Nat}(bm:d<2):mm n s w d w=Bf n s w (d+1):=by
 have:d=0\/d=1:=by omega
 rcases this with rfl|rfl
 ·simp[Bf,mm,ay.kl]
 ·simp[Bf]
theorem az'(n:Nat)(s:ay)(w:Nat):Bf n s w 2=s.xU n w:=by simp[Bf,mm,ay.xU]
theorem aeE{n:Nat}(s:ay)(d:Nat)(aq:n<=65536):(s.alloc n d).2<65536:=by
 unfold ay.alloc;split
 ·omega
 ·rcases YP n s d with⟨e,_⟩|⟨_,h,_⟩
  ·omega
  ·simp only;omega
theorem am2{n:Nat}{s:ay}{w d:Nat}(bM:w<=2)(bm:d<2)(aq:n<=65536):∀j,j<=w->∀x∈(mm n s w d j).2,x<65536:=by
 have T:∀(s:ay) (d j:Nat),∀x∈(s.kl n d j).2,x<65536:=λs d j x W=>by
  unfold ay.kl at W;split at W
  ·simp at W;omega
  ·split at W
   ·simp at W;rcases W with rfl|rfl
    ·exact aeE _ _ aq
    ·decide
   ·simp at W;rcases W with rfl|rfl
    ·exact aeE _ _ aq
    ·exact aeE _ _ aq
 intro j _ x W;unfold mm at W
 grind
theorem am3(n:Nat)(s:ay)(d w:Nat):i_ s (s.kl n d w).1:=by
 have ao:∀s:ay,i_ s (s.alloc n d).1:=λs=>by
  unfold ay.alloc;split
  ·exact i_.refl s
  ·exact i_.hL _ _ _ _
 unfold ay.kl;split
 ·exact i_.refl s
 ·split
  ·exact ao s
  ·exact(ao s).trans (ao _)
theorem aeF(n:Nat)(s:ay)(w:Nat):i_ s (s.xU n w).1:=(am3 n s 0 w).trans (am3 n _ 1 w)
theorem i_.lQ{s s':ay}{c:Nat}(h:i_ s s')(f:s.il c):s'.il c:=⟨by rw[h.P];exact f.dS,by rw[h.aB];exact f.bT,by rw[h.aB];exact f.gl,by rw[h.eV];exact f.eV,by rw[h.gd];exact f.gd,by rw[h.dW];exact f.dW⟩
theorem aAa(q:Pt)(x:Nat):(ae q).setIfInBounds 4 (.int .u64 x)=ae {q with b:=x}:=by
 apply ip;simp[ae]
section
variable {w w':M}{k m p n bf:Nat}{z:fV}{t:eb}{a_ ey:N}{A:Nat->Nat->Prop}{S:Nat->Prop}
theorem am4(h:lu w k m p n z bf t a_ A ey)(q:Pt)(ok:cc q)(hq:bf<18446744073709551616)(aq:n<=65536)(b:cW)(ab:b.length=512)(v:N)(aM:bC w v 512 (br b))(g_:∀j,v.ownBlock=some j->¬oL k m p z a_ A ey j/\j<w.1.size)(bM:mb w)(r:jz w)
  (aH:∀j,(j=0\/j=3)->¬oL k m p z a_ A ey j){c:Nat}(lQ:t.s.il c)(Z:c<=700000)(aC:t.bX.length<=700000):
  bc prog 125 #[az k,.agg (ae q),v] w λv' w'=>v'=.tuple #[.agg (ae (it n bf t q b).2.1),aa (it n bf t q b).2.2]/\
   (∃jr gM GV,lu w' k m p n z bf (it n bf t q b).1 jr gM GV/\∀j,oL k m p z jr gM GV j->aE (oL k m p z a_ A ey) w w' j)/\H (oL k m p z a_ A ey) w w':=by
 refine bz func125 ntmps125 λbk af=> ?_;have de:=cd ok;have da:=ef ok;have ee:=cd cH;have ic:=ef cH;have ak:=h.lt;have aU:=((H.refl al w).alloc (.cells (ae q) 44)).alloc (.cells (ae ah) 44);have bu:=oF w (.cells (ae q) 44) (.cells (ae ah) 44);have bt:=nM w (.cells (ae q) 44) (.cells (ae ah) 44);simp[go_sem,de,da,gO,gP];obtain⟨ai,dx⟩:=aD ((w.alloc (.cells (ae q) 44)).alloc (.cells (ae ah) 44));rw[dx]at aU bu bt⊢;obtain⟨g,aAb⟩:=aD (w.1.size);rw[aAb]at bu bt⊢;have J:=h.ch aU λ_ _ e=>e;have hl:ai.cell? (bl k 2)=some (.int .u64 bf):=aG J.blk 2;have dk:=aG bu;have z0:=λi=>dJ bu i;obtain⟨a0,a1,a2,a3,wK,_⟩:=a4 ok;have vk:=(dk 4).trans WY;have YQ:=(dk 37).trans (mS ok (i:=0) (by rw[wK];rfl));have YR:=(dk 38).trans (mS ok (i:=1) (by rw[wK];rfl));have YS:=(dk 39).trans (mS ok (i:=2) (by rw[wK];rfl));have YT:=(dk 40).trans (mS ok (i:=3) (by rw[wK];rfl));simp[go_sem,hl,vk,YQ,YR,YS,YT,z0];obtain⟨fa,AL⟩:=aD ({q with b:=bf,a:=[0,0,0,0]}:Pt);have aK:=(((((H.refl (aj g) ai).setCell (p:=bl g 4) (.inl rfl) (.int .u64 bf)).setCell (p:=bl g 37) (.inl rfl) (.int .u16 0)).setCell (p:=bl g 38) (.inl rfl) (.int .u16 0)).setCell (p:=bl g 39) (.inl rfl) (.int .u16 0)).setCell (p:=bl g 40) (.inl rfl) (.int .u16 0);have cY:(((((ai.setCell ⟨g,4,none⟩ (.int .u64 bf)).setCell ⟨g,37,none⟩ (.int .u16 0)).setCell ⟨g,38,none⟩ (.int .u16 0)).setCell ⟨g,39,none⟩ (.int .u16 0)).setCell ⟨g,40,none⟩ (.int .u16 0)).1[g]? =some (.cells (ae fa) 44 (0,0)):=by
  rw[eU,eU,eU,eU,eU,bu,fU,fU,fU,fU,fU,aAa];have tl:=Ot (p:={q with b:=bf}) ok.h 0 0;have fh:=Ot (p:={q with b:=bf,a:=q.a.set 0 0}) ok.h 1 0;have fv:=Ot (p:={q with b:=bf,a:=(q.a.set 0 0).set 1 0}) ok.h 2 0;have iY:=Ot (p:={q with b:=bf,a:=((q.a.set 0 0).set 1 0).set 2 0}) ok.h 3 0;simp only[Nat.reduceAdd]at tl fh fv iY;have JD:(Value.int .u16 0)=.int .u16 ((0:Nat):Int):=rfl;rw[JD,tl,fh,fv,iY,<-AL,wK];rfl
 obtain⟨an,ii⟩:=aD (((((ai.setCell ⟨g,4,none⟩ (.int .u64 bf)).setCell ⟨g,37,none⟩ (.int .u16 0)).setCell ⟨g,38,none⟩ (.int .u16 0)).setCell ⟨g,39,none⟩ (.int .u16 0)).setCell ⟨g,40,none⟩ (.int .u16 0));rw[ii]at aK cY⊢;have EK:∀j,oL k m p z a_ A ey j->j<g:=λj I=>by have:=ak j I;omega
 have T:=J.ch aK λj I e=>by simp only[aj]at e;have:=EK j I;omega
 have aAc:=aK.obj bt (show¬aj g (g+1)by simp only[aj];omega);have Ay:cc fa:=by rw[<-AL];exact⟨ok.k,ok.l,ok.o,ok.f,hq,ok.h,rfl,by simp⟩
 have aAd:fa.k=q.k:=by rw[<-AL]
 have aQ8:fE q.k<=2:=by unfold fE;split;omega;split<;>omega
 obtain⟨Y,fX⟩:=aD (fE q.k);have ii:mb an:=(bM.ch aU id).ch aK (by simp only[aj];have:=bM.lt;omega);have GW:∀d j,d<2->j<=Y->cc {fa with a:=(mm n t.s Y d j).2}:=λd j bm I=>⟨Ay.k,Ay.l,Ay.o,Ay.f,Ay.b,Ay.h,aeD _ _ _ _ _,λx W=>am2 (by omega) bm aq j I x W⟩;refine di (λV f bI=>∃d,d<=2/\V=2 - d/\f 0=az k/\f 2=v/\f 4=az g/\f 6=.pointer (some ⟨g+1,0,none⟩)/\f 17=aa d/\lu bI k m p n z bf ⟨(Bf n t.s Y d).1,t.bX,t.gN⟩ a_ A ey/\bI.1[g]? =some (.cells (ae {fa with a:=(Bf n t.s Y d).2}) 44 (0,0))/\bI.1[g+1]? =some (.cells (ae ah) 44 (0,0))/\H (λj=>mG z j\/j=g) an bI) 2
  ⟨0,by omega,rfl,by simp,by simp,by simp,by simp,by simp,by rw[am0];exact T,by rw[am0,<-AL];rw[<-AL]at cY;exact cY,aAc,H.refl _ _⟩ ?_
 rintro cQ bJ _ f bI ⟨d,GB,rfl,f0,bg,ck,f6,lJ,hb,hT,cZ,tD⟩;by_cases bm:d<2
 ·have EL:(d:Int)<2:=by omega
  have lq:IntKind.i64.wrap ((d:Int)+1)=((d+1:Nat):Int):=by rw[cz];omega
  have tl:bI.cell? (bl g 0)=some (.int .u8 q.k):=by rw[<-aAd];exact(aG hT 0).trans FW
  have aeG:∀j,(mG z j\/j=g)->¬j=0:=λj I e=>by
   rcases I with I|I
   ·exact aH j (.inl e) (.inl (xV z m p a_ A j I))
   ·have:=bM.lt;omega
  simp[go_sem,f0,ck,lJ,EL,tl];refine(am5 q.k bI ok.k (ii.ch tD λe=>aeG _ e rfl)).mono ?_;rintro _ tB ⟨rfl,rfl⟩;rw[fX];simp[go_sem];rw[az_ bm]at hb hT;refine di (λV f bI=>∃j,j<=Y/\V=Y - j/\f 0=az k/\f 2=v/\f 4=az g/\f 6=.pointer (some ⟨g+1,0,none⟩)/\f 17=aa d/\f 8=aa d/\f 22=aa Y/\f 23=aa j/\lu bI k m p n z bf ⟨(mm n t.s Y d j).1,t.bX,t.gN⟩ a_ A ey/\bI.1[g]? =some (.cells (ae {fa with a:=(mm n t.s Y d j).2}) 44 (0,0))/\bI.1[g+1]? =some (.cells (ae ah) 44 (0,0))/\H (λj=>mG z j\/j=g) an bI) Y
   ⟨0,gG _,rfl,by simp[f0],by simp[bg],by simp[ck],by simp[f6],by simp[lJ],by simp,by simp,by simp,hb,hT,cZ,tD⟩ ?_
  clear f0 bg ck f6 lJ hb hT cZ tD tl f;rintro vq jR _ f bI ⟨j,aAe,rfl,f0,bg,ck,f6,lJ,bB,f22,f23,hb,hT,cZ,tD⟩;by_cases I:j<Y
  ·have kT:(j:Int)<Y:=by omega
   have hN:IntKind.i64.wrap ((j:Int)+1)=((j+1:Nat):Int):=by rw[cz];omega
   have am6:IntKind.i64.wrap (2*(d:Int))=2*d:=by rw[cz];omega
   obtain⟨kE,rL⟩:=aD (2*d+j);have tE:IntKind.i64.wrap (2*(d:Int)+j)=(kE:Int):=by rw[cz];omega
   have dc:bI.cell? (bl k 1)=some (.pointer (some ⟨z.c',0,none⟩)):=aG hb.blk 1;simp[go_sem,f0,bB,lJ,f22,f23,kT,I,am6,tE,dc];refine(aAf hb.pm bm aq).mono ?_;rintro _ gw ⟨rfl,ag,aI⟩;have vD:H (mG z) bI gw:=aI.mono λa _ e=>YU z bm a e;have wL:∀a,a<g+2->g<=a->¬mG z a:=λa _ ao e=>by have:=EK a (.inl (xV z m p a_ A a e));omega
   have aeH:=vD.obj hT (wL g (by omega) (by omega));have Lw:=vD.obj cZ (wL (g+1) (by omega) (by omega));have JE:=hb.Ty ag vD t.gN;obtain⟨mz,Bd⟩:∃mz,(mm n t.s Y d j).2[kE]? =some mz:=⟨_,d_ (by rw[aeD];omega)⟩;have fh:=(aG aeH (37+kE)).trans (mS (GW d j bm aAe) Bd);have js:=λi=>dJ aeH i;have su:kE<4:=by omega
   have aAg:(kE:Int)<4:=by omega
   have eS:=az9 (n:=n) (s:=t.s) (show Y<=2 by omega) bm I;have cs:=(H.refl (aj g) gw).setCell (p:=bl g (37+kE)) (.inl rfl) (.int .u16 ((mm n t.s Y d j).1.alloc n d).2);have dm:(gw.setCell ⟨g,37+kE,none⟩ (.int .u16 ((mm n t.s Y d j).1.alloc n d).2)).1[g]? =some (.cells (ae {fa with a:=(mm n t.s Y d (j+1)).2}) 44 (0,0)):=by
    have iY:=Ot (p:={fa with a:=(mm n t.s Y d j).2}) Ay.h kE ((mm n t.s Y d j).1.alloc n d).2;rw[eU,aeH,fU,iY,eS,rL]
   simp[go_sem,ck,bB,f23,am6,tE,su,aAg,fh,js,hN];refine ct.intro (Y -(j+1)) (by omega) (jR _ _ _ ⟨j+1,by omega,rfl,by simpa using f0,by simpa using bg,by simpa using ck,by simpa using f6,by simpa using lJ,by simpa using bB,by simpa using f22,by simp,?_,dm,cs.obj Lw (show¬aj g (g+1)by simp only[aj];omega),(tD.trans (vD.mono λa _ e=>.inl e)).trans (cs.mono λa _ e=>.inr e)⟩);rw[eS];exact JE.ch cs λa ao e=>by simp only[aj]at e;have:=EK a ao;omega
  ·obtain rfl:j=Y:=by omega
   rw[am1 bm]at hb hT;simp[go_sem,lJ,f22,f23,lq];exact ct.intro (2 -(d+1)) (by omega) (bJ _ _ _ ⟨d+1,by omega,rfl,by simpa using f0,by simpa using bg,by simpa using ck,by simpa using f6,by simp,hb,hT,cZ,tD⟩)
 ·obtain rfl:d=2:=by omega
  have CR:cc {fa with a:=(Bf n t.s Y 2).2}:=by
   have:=GW 1 Y (by omega) (c_ _);rwa[am1 (by omega)]at this
  rw[az']at hb hT CR;obtain⟨a',hn⟩:=aD (t.s.xU n Y);rw[hn]at hb hT CR;obtain⟨tl,fh,fv,iY,JF,tb,mx,lh,qL⟩:=a4 CR;simp only at JF;have dk:=aG hT;have YQ:=(dk 37).trans (mS CR (i:=0) (by simp only;rw[JF];rfl));have YR:=(dk 38).trans (mS CR (i:=1) (by simp only;rw[JF];rfl));have YS:=(dk 39).trans (mS CR (i:=2) (by simp only;rw[JF];rfl));have YT:=(dk 40).trans (mS CR (i:=3) (by simp only;rw[JF];rfl));have hz:∀w,(Op.equalIn 10000 42 (.agg #[.int .u16 tl,.int .u16 fh,.int .u16 fv,.int .u16 iY]) (.agg #[.int .u16 0,.int .u16 0,.int .u16 0,.int .u16 0])).run prog w=.ok (decide (a'.2=[0,0,0,0])) w:=λw=>by
   rw[JF];exact acq w 9998 _ _ 4 underlying42 underlying39 Tryz.sizeOf39 Tryz.isAgg39 [tl,fh,fv,iY] [0,0,0,0] rfl rfl
  have rM:H (λj=>oL k m p z a_ A ey j) w bI:=by
   refine((aU.mono λ_ _ e=>e.elim).bZ aK λj I e=> ?_).bZ tD λj I e=> ?_
   ·simp only[aj]at e;omega
   ·rcases e with e|e
    ·exact .inl (xV z m p a_ A j e)
    ·omega
  have aAh:=rM.size;by_cases JD:a'.2=[0,0,0,0]
  ·have en:it n bf t q b=({t with s:=a'.1},ah,30):=by
    unfold it;rw[fX,hn];simp only[JD,if_true]
   rw[en]at af;have cK:(bI.setRow (g+1) (ae ah)).1[g+1]? =some (.cells (ae ah) 44 (0,0)):=by rw[gh,cZ];rfl
   simp[go_sem,ck,f6,lJ,YQ,YR,YS,YT,hz,JD,l',cZ,ee,ic,bS,cK];have kb:=(H.refl (aj (g+1)) bI).setRow (g:=g+1) (.inl rfl) (ae ah);refine af _ _ ⟨rfl,⟨a_,A,ey,hb.ch kb λa ao e=> ?_,λa ao=>.inl ao⟩,rM.bZ kb λa ao e=> ?_⟩
   ·simp only[aj]at e;have:=EK a ao;omega
   ·simp only[aj]at e;omega
  ·have en:it n bf t q b=({s:=(a'.1.ij n (uy bf q b a'.2) b).1,bX:=t.bX++[uy bf q b a'.2],gN:=t.gN},uy bf q b a'.2,(a'.1.ij n (uy bf q b a'.2) b).2):=by
    unfold it;rw[fX,hn];simp only[JD,if_false]
   rw[en]at af;have am7:=cd CR;have aAi:=ef CR;simp[go_sem,bg,ck,lJ,YQ,YR,YS,YT,hz,JD,hT,am7,aAi];have am8:∀j,(j=0\/j=3)->¬oL k m p z a_ A ey j:=aH;have aAj:jz bI:=r.ch rM (am8 _ (.inr rfl));have zt:mb bI:=bM.ch rM (am8 _ (.inl rfl));have am9:bC bI v b.length (br b):=by rw[ab];exact aM.ch rM λj I e=>(g_ j I).1 e
   have td:∀j,v.ownBlock=some j->j<bI.1.size:=λj I=>gQ (g_ j I).2 aAh;refine(aAk {fa with a:=a'.2} v b bI CR am9 td (by omega) aAj).mono ?_;rintro _ gw ⟨rfl,aI⟩;obtain⟨Q,eT⟩:=aD (uy bf q b a'.2);have am_:Tz {fa with a:=a'.2} b=Q:=by rw[<-eT,<-AL];rfl
   have TA:cc Q:=am_▸am' CR b;rw[am_];rw[eT]at af;have PB:=cd TA;have YV:=ef TA;have JG:=hb.ch aI λ_ _ e=>e;have ana:=aI.obj hT id;have aAl:=aI.obj cZ id;simp[go_sem,ck,ana,am7,PB,bS];have bo:=(H.refl (aj g) gw).setRow (g:=g) (.inl rfl) (ae Q);have anb:(gw.setRow g (ae Q)).1[g]? =some (.cells (ae Q) 44 (0,0)):=by rw[gh,ana];rfl
   have aAm:∀a,oL k m p z a_ A ey a->¬aj g a:=λa ao e=>by simp only[aj]at e;have:=EK a ao;omega
   have anc:=JG.ch bo aAm;have ane:=bo.obj aAl (show¬aj g (g+1)by simp only[aj];omega);obtain⟨u2,vr⟩:=aD (gw.setRow g (ae Q));rw[vr]at bo anb anc ane⊢;have YW:=bo.size;have aQ9:=aI.size;refine cT [F 0,F 1,F 2,F 3,F 4,F 5,(6,some [0,1,2,3,4]),(7,some [0]),F 8,F 9,(10,some [])] ?_;have dH:=(H.refl al u2).drew;have zC:=anc.ch dH λ_ _ e=>e;have YX:=dH.obj anb id;have anf:=dH.obj ane id;obtain⟨jl,aAn⟩:=aD (u2.drew);rw[aAn]at dH zC YX anf⊢;obtain⟨Ms,aeI,ang,YY⟩:∃A n c,ey=.slice A n c:=by
    rcases zC.fS.2 with⟨e,_⟩|⟨_,_,_,e,_⟩
    ·exact⟨_,_,_,e⟩
    ·exact⟨_,_,_,e⟩
   have ew:jl.cell? (bl k 3)=some (.slice Ms aeI ang):=by rw[<-YY];exact aG zC.blk 3
   simp[↓Eh,go_sem,f0,ck,ew,YX,PB,YV];refine Ei (anh TA _) ?_;have aeJ:=(H.refl al jl).alloc (.cells (ae Q) 44);have aAo:(jl.alloc (.cells (ae Q) 44)).cell? (bl k 3)=some (.slice Ms aeI ang):=aeJ.cell ew id;have aAp:=aeJ.obj YX id;have PC:=zC.fS;rw[YY]at PC;have aQ_:aeI=t.bX.length:=by
    rcases PC.2 with⟨e,dk⟩|⟨_,_,_,e,_⟩
    ·grind
    ·cases e
     rfl
   simp[go_sem,f0,aAo,aAp,PB,YV];rw[show jl.alloc (.cells (ae Q) 44)=jl.alloc (.cells (ae Q).toList.toArray 44)by simp];refine wJ (w:=jl) (n:=t.bX.length) (us:=(ae Q).toList) ani PC (by rw[wi,PB]) (GX (wc Q)) (dK (show t.bX.length+1<=700001 by omega) (by decide)) (by omega) λoy cD tF tG Bg=> ?_;have aeK:cD.ownsRow 0 44 41 oy (t.bX++[Q]).length (ei ae (t.bX++[Q])):=by
    rw[AG,Cg,kR];exact tF
   obtain⟨mn,GY,aQ',Bh,_⟩:=A' tF (by omega);subst Bh;have TB:H (λj=>ey.ownBlock=some j) jl cD:=by rw[YY];exact tG
   have anj:(Value.slice (some ⟨mn,0,none⟩) (t.bX.length+1) GY).ownBlock=ey.ownBlock\/gr jl.1.size (Value.slice (some ⟨mn,0,none⟩) (t.bX.length+1) GY):=by rw[YY];exact Bg
   have Mt:¬ey.ownBlock=some k:=λe=>(zC.fe k e).2 rfl;have aeL:=TB.obj zC.blk Mt;have aeM:=aG aeL 3;have aAq:=dJ aeL 3;have aRa:∀a,oL k m p z a_ A ey a->a<g:=EK;have ank:∀a,g<=a->¬ey.ownBlock=some a:=λa ao e=>by have:=EK a (.inr (.inr e));omega
   have aAr:=TB.obj YX (ank g (c_ _));have adq:=TB.obj anf (ank (g+1) (by omega));simp[go_sem,f0,aeM,aAq,GZ];have uz:∀a,gU z m p a_ A a->a≠k:=λa ao e=>zC.oM (e▸ao);have PD:=(H.refl (aj k) cD).setCell (p:=bl k 3) (.inl rfl) (.slice (some ⟨mn,0,none⟩) (t.bX.length+1) GY);have aRb:mn≠k:=λe=>by
    grind
   have aRc:¬gU z m p a_ A mn:=λe=>by
    rcases anj with aL|aL
    ·exact(zC.fe mn (by rw[<-aL];simp[Value.ownBlock])).1 e
    ·have:=aL mn (by simp[Value.ownBlock]);have:=zC.pm.ih mn e;omega
   have anl:lu (cD.setCell ⟨k,3,none⟩ (.slice (some ⟨mn,0,none⟩) (t.bX.length+1) GY)) k m p n z bf ⟨a'.1,t.bX++[Q],t.gN⟩ a_ A (.slice (some ⟨mn,0,none⟩) (t.bX.length+1) GY):=by
    refine⟨(zC.pm.ch TB λa ao e=>(zC.fe a e).1 ao).ch PD λa ao e=>uz a ao e,?_,gu aeK PD λa ao e=> ?_,λMu EM=> ?_,zC.oM,λa ao=> ?_⟩
    ·rw[eU,aeL,fU];rfl
    ·simp[Value.ownBlock]at ao;simp only[aj]at e;omega
    ·rcases hP.1 EM with EM|EM
     ·exact zC.lP Mu EM
     ·rw[sc]at EM;rw[EM];exact TA
    ·simp[Value.ownBlock]at ao
     grind
   have aRd:k<g:=EK k (.inr (.inl rfl));have anm:=PD.obj aAr (show¬aj k g by simp only[aj];omega);have ann:=PD.obj adq (show¬aj k (g+1)by simp only[aj];omega);have aAs:H (λj=>oL k m p z a_ A ey j) w jl:=((rM.trans (aI.mono λ_ _ e=>e.elim)).bZ bo λj I e=>by simp only[aj]at e;omega).trans (dH.mono λ_ _ e=>e.elim);have ano:=(aAs.trans (TB.mono λa _ e=>.inr (.inr e))).trans (PD.mono λa _ e=>.inr (.inl e));obtain⟨cE,CS⟩:=aD (cD.setCell ⟨k,3,none⟩ (.slice (some ⟨mn,0,none⟩) (t.bX.length+1) GY));rw[CS]at anl anm ann ano⊢;refine cT [F 0,F 1,F 2,F 3,F 4,F 5,F 6,(7,some [0]),(8,some []),F 9] ?_;have Bi:=(H.refl al cE).drew;have CT:=anl.ch Bi λ_ _ e=>e;have aeN:=Bi.obj anm id;have anp:=Bi.obj ann id;have PE:=ano.trans (Bi.mono λ_ _ e=>e.elim);obtain⟨ec,CU⟩:=aD (cE.drew);rw[CU]at CT aeN anp PE⊢;have gW:ec.cell? (bl k 0)=some (az m):=aG CT.blk 0;have aAt:=PE.size;simp[go_sem,f0,bg,ck,f6,gW,aeN,PB,YV];have aAu:a'.1.il c:=by rw[<-hn];exact(aeF n t.s Y).lQ lQ
   have aAv:bC ec v b.length (br b):=by rw[ab];exact aM.ch PE λj I e=>(g_ j I).1 e
   have aAw:kF ec m p n z a'.1 (gU z m p a_ A):=⟨a_,A,CT.pm,λ_ e=>e,CT.pm.ih⟩;refine(aAx aAw Q TA (bM.ch PE (aH _ (.inl rfl))) (r.ch PE (aH _ (.inr rfl))) b v aAv (λj I=>gQ (g_ j I).2 aAt) (λ_ j I e=>(g_ j I).1 (.inl e)) (by omega) aAu (by omega)).mono ?_;rintro _ db ⟨rfl,⟨YZ,Y_,Za,anq,_⟩,dV⟩;have aRe:=CT.pm.ih;have aRf:k<w.1.size:=ak k (.inr (.inl rfl));have anr:¬gU z m p a_ A k:=CT.oM;have aAy:=dV.obj CT.blk anr;have ans:∀a,g<=a->¬gU z m p a_ A a:=λa ao e=>by have:=EK a (.inl e);omega
   have ant:=dV.obj aeN (ans g (c_ _));have anu:=dV.obj anp (ans (g+1) (by omega));have aeO:∀a,a<ec.1.size->¬gU z m p a_ A a->¬gU z m p YZ Y_ a:=λa J T e=>by
    rcases anq a e with e|e
    ·exact T e
    ·omega
   have aeP:∀a,(Value.slice (some ⟨mn,0,none⟩) (t.bX.length+1) GY).ownBlock=some a->¬gU z m p a_ A a/\a≠k:=CT.fe;have anv:lu db k m p n z bf ⟨(a'.1.ij n Q b).1,t.bX++[Q],t.gN⟩ YZ Y_ (.slice (some ⟨mn,0,none⟩) (t.bX.length+1) GY):=by
    refine⟨Za,aAy,gu CT.fS dV λa ao e=>(aeP a ao).1 e,CT.lP,aeO k (by omega) anr,λa ao=>⟨aeO a (nK CT.fS a ao) (aeP a ao).1,(aeP a ao).2⟩⟩
   have aAz:H (λj=>oL k m p z a_ A ey j) w db:=PE.trans (dV.mono λa _ e=>.inl e);have PF:(db.setRow (g+1) (ae Q)).1[g+1]? =some (.cells (ae Q) 44 (0,0)):=by rw[gh,anu];rfl
   have Zb:(db.setRow (g+1) (ae Q)).1[g]? =some (.cells (ae Q) 44 (0,0)):=((H.refl (aj (g+1)) db).setRow (g:=g+1) (.inl rfl) (ae Q)).obj ant (by simp only[aj];omega);simp[go_sem,ck,f6,ant,anu,PB,YV,ee,bS,PF,Zb];have kb:=(H.refl (aj (g+1)) db).setRow (g:=g+1) (.inl rfl) (ae Q);have RP:=dV.size;have anw:∀a,oL k m p z YZ Y_ (.slice (some ⟨mn,0,none⟩) (t.bX.length+1) GY) a->oL k m p z a_ A ey a\/(w.1.size<=a/\a≠g+1/\a<db.1.size):=λa ao=>by
    have aO:=anv.lt a ao;rcases ao with ao|ao|ao
    ·rcases anq a ao with e|e
     ·exact .inl (.inl e)
     grind
    ·exact .inl (.inr (.inl ao))
    ·rcases anj with aL|aL
     ·exact .inl (.inr (.inr (by rw[<-aL];exact ao)))
     ·have J:=aL a ao
      grind
   refine af _ _ ⟨rfl,⟨YZ,Y_,_,anv.ch kb λa ao e=> ?_,λa ao=> ?_⟩,aAz.bZ kb λa ao e=> ?_⟩
   ·simp only[aj]at e;rcases anw a ao with h|h
    ·have:=EK a h;omega
    ·omega
   ·have fd:=kb.size;exact(anw a ao).imp id λh=>⟨h.1,by omega⟩
   ·simp only[aj]at e;omega
end
theorem aAA:∃i m s,prog.info? 161=some i/\i.methods.find? (·.name== "Read")=some m/\m.path.toList=[s]/\s.struct=163/\s.index=0/\s.deref=true/\m.func=some (99,true):=by
 have J:(prog.info? 161).map (λi=>(i.methods.find? (·.name== "Read")).map λm=>(m.path.toList.map λs=>(s.struct,s.index,s.deref)))=some (some [(163,0,true)]):=by kernel_rfl
 have T:(prog.info? 161).map (λi=>(i.methods.find? (·.name== "Read")).map λm=>m.func)=some (some (some (99,true))):=by kernel_rfl
 cases ad:prog.info? 161 with
 |none=>rw[ad]at J;cases J
 |some i=>
  rw[ad]at J T;simp only[Xx,OJ]at J T
  cases aC:i.methods.find? (·.name== "Read")with
  |none=>rw[aC]at J;cases J
  |some m=>
   simp_all
abbrev Zc(k:Nat):N:=.iface 161 (az k)
theorem aAB{k m:Nat}{w:M}(h:w.cell? (bl k 0)=some (az m))(n:Nat):(method (n+1) 161 (az k) "Read").run prog w=.ok (99,az m) w:=by
 obtain⟨i,aRg,s,J,T,ag,aP,bH,cS,fi⟩:=aAA;simp[method,typeInfo,J,T,ag,fi,follow,aP,bH,cS,receiverAt,Place.get,go_sem,h]
theorem aAC{k m:Nat}(x:N){w:M}(h:w.cell? (bl k 0)=some (az m)):(callMethod (Zc k) "Read" #[x]).run prog w=.ok (.enter 99 #[az m,x]) w:=by
 unfold callMethod;simp[go_sem,aAB h]
theorem aAD(k:Nat)(x y:N)(w:M):(callMethod (Zc k) "New" #[x,y]).run prog w=.ok (.enter 125 #[az k,x,y]) w:=by kernel_rfl
theorem aAE(k:Nat)(x:N)(w:M):(callMethod (Zc k) "Old" #[x]).run prog w=.ok (.enter 124 #[az k,x]) w:=by kernel_rfl
def eb.Fn(t:eb)(c:Nat):Prop:=t.s.il c/\t.bX.length<=c
def kG(cL:eb->Nat):Prop:=∀t:eb,(t.Fn (cL t)/\∀c,t.Fn c->cL t<=c)\/((∀c,¬t.Fn c)/\cL t=700000)
theorem aAF{P:Nat->Prop}:∀c,P c->∃c,P c/\∀d,P d->c<=d:=by
 intro c
 induction c using Nat.strongRecOn with
 |_ c bL=>
  grind
theorem alv:∃cL,kG cL:=by
 have:∀t:eb,∃c,(t.Fn c/\∀d,t.Fn d->c<=d)\/((∀c,¬t.Fn c)/\c=700000):=λt=>by
  by_cases h:∃c,t.Fn c
  ·obtain⟨c,h⟩:=h;obtain⟨c,J,T⟩:=aAF c h
   grind
  grind
 exact acR this
def gX(cL:eb->Nat)(t:eb):Nat:=700000 - cL t
section
variable {cL:eb->Nat}{t eP:eb}
theorem PG(h:kG cL)(aC:16<=gX cL t):t.s.il (cL t)/\t.bX.length<=cL t/\cL t<=699984:=by
 unfold gX at aC;rcases h t with J|J
 ·exact⟨J.1.1,J.1.2,by omega⟩
 ·omega
theorem aeQ(h:kG cL)(bP:∀c,t.Fn c->eP.Fn (c+9)):gX cL t<=gX cL eP+16:=by
 unfold gX;rcases h t with J|J
 ·rcases h eP with T|T
  ·grind
  grind
 ·omega
theorem anx(h:kG cL)(n:Nat)(t:eb)(p:Pt):gX cL t<=gX cL (iR n t p).1+16:=
 aeQ h λc Z=>⟨(Z.1.nS p false).mono (by omega),dK Z.2 (by omega)⟩
theorem TC(h:kG cL)(n bf:Nat)(t:eb)(p:Pt)(b:cW):gX cL t<=gX cL (it n bf t p b).1+16:=
 aeQ h λc Z=>by
  have hn:=(aeF n t.s (fE p.k)).lQ Z.1;unfold it;simp only;split
  ·exact⟨hn.mono (by omega),dK Z.2 (by omega)⟩
  ·refine⟨(hn.ij _ b).mono (by omega),?_⟩;have:=Z.2
   grind
theorem Zd(h:kG cL)(n:Nat)(t:eb)(p:Pt):gX cL t<=gX cL (lR n t p)+16:=
 aeQ h λc Z=>⟨(((PH (by decide) (rN p) t.s).1).lQ Z.1).mono (by omega),dK Z.2 (by omega)⟩
end
def hc(k m p n:Nat)(z:fV)(bf:Nat)(ep:M)(eB:Nat->Prop)(t:eb):jf:=λw O=>∃a_ A ey,lu w k m p n z bf t a_ A ey/\(∀j,oL k m p z a_ A ey j->O j/\¬eB j)/\(∀j,eB j->O j/\w.1[j]? =ep.1[j]?)/\∀j,O j->j<w.1.size
def iK(k:Nat):Prop:=Pl k\/k=3\/k=1
theorem PI{w ep:M}{j:Nat}(h:w.1[j]? =ep.1[j]?)(i:Nat):w.cell? (bl j i)=ep.cell? (bl j i):=by
 unfold World.cell?;rw[h]
section
variable {k m p n bf:Nat}{z:fV}{ep w w':M}{eB:Nat->Prop}{t:eb}{O:Nat->Prop}{cL:eb->Nat}
theorem hc.ok(k m p n:Nat)(z:fV)(bf:Nat)(ep:M)(eB:Nat->Prop)(t:eb):kB (hc k m p n z bf ep eB t):=by
 refine⟨?_,?_,?_⟩
 ·rintro w O ⟨a_,A,ey,J,T,ag,aP⟩;exact aP
 ·rintro w w' O S ⟨a_,A,ey,J,T,ag,aP⟩ Z cl;refine⟨a_,A,ey,J.ch Z λj I=>cl j (T j I).1,T,λj I=>⟨(ag j I).1,?_⟩,λj I=>gQ (aP j I) Z.size⟩;have aO:=aP j (ag j I).1;obtain⟨o,av⟩:∃o,w.1[j]? =some o:=⟨_,yP aO⟩;rw[Z.obj av (cl j (ag j I).1),<-(ag j I).2,av]
 ·rintro w O O' ⟨a_,A,ey,J,T,ag,aP⟩ h h';exact⟨a_,A,ey,J,λj I=>⟨h j (T j I).1,(T j I).2⟩,λj I=>⟨h j (ag j I).1,(ag j I).2⟩,h'⟩
structure sw(ep:M)(eB:Nat->Prop):Prop where
 cv:hI ep
 fT:jz ep
 gB:qO ep
 d':∀j,iK j->eB j
theorem hc.cv(h:hc k m p n z bf ep eB t w O)(e:sw ep eB):hI w/\jz w/\qO w:=by
 obtain⟨a_,A,ey,J,T,ag,aP⟩:=h;have aA:∀j,iK j->w.1[j]? =ep.1[j]? :=λj I=>(ag j (e.d' j I)).2;refine⟨⟨λi x W=> ?_,?_⟩,λi ad=> ?_,λi x W=> ?_⟩
 ·rw[PI (aA _ (.inl (.inl rfl)))];exact e.cv.qQ i x W
 ·obtain⟨cs,bv,fr,es,cX,iq⟩:=e.cv.nO;exact⟨cs,bv,fr,(aA _ (.inl (.inr rfl))).trans es,cX,iq⟩
 ·rw[PI (aA _ (.inr (.inl rfl)))];exact e.fT i ad
 ·rw[PI (aA _ (.inr (.inr rfl)))];exact e.gB i x W
theorem hc.d'(e:sw ep eB):iO (hc k m p n z bf ep eB) O:=.inr λ_ _ _ h=>(h.cv e).1
theorem hc.step{eP:eb}{a_ jr ey GV:N}{A gM:Nat->Nat->Prop}{S:Nat->Prop}(J:lu w k m p n z bf t a_ A ey)(T:∀j,oL k m p z a_ A ey j->O j/\¬eB j)(ag:∀j,eB j->O j/\w.1[j]? =ep.1[j]?)(aP:∀j,O j->j<w.1.size)
  (h':lu w' k m p n z bf eP jr gM GV)(eZ:∀j,oL k m p z jr gM GV j->aE (oL k m p z a_ A ey) w w' j)(Z:H S w w')(cl:∀j,S j->oL k m p z a_ A ey j):hc k m p n z bf ep eB eP w' (aE O w w')/\H O w w':=by
 refine⟨⟨jr,gM,GV,h',λj I=> ?_,λj I=>⟨.inl (ag j I).1,?_⟩,aE.lt aP Z.size⟩,Z.mono λj _ e=>(T j (cl j e)).1⟩
 ·rcases eZ j I with e|e
  ·exact⟨.inl (T j e).1,(T j e).2⟩
  ·exact⟨.inr e,λab=>by grind⟩
 ·have aO:=aP j (ag j I).1;obtain⟨o,av⟩:∃o,w.1[j]? =some o:=⟨_,yP aO⟩;rw[Z.obj av λe=>(T j (cl j e)).2 I,<-(ag j I).2,av]
theorem aeR(n:Nat)(s:ay)(q:Pt)(all:Bool):(s.nS n q all).2.1.length<=512:=by
 have CF:∀l:List Nat,∀x:Mv,(∀b,x.blk=some b->b.length=512)->∀b,(l.foldl (s.step n q) x).blk=some b->b.length=512:=by
  intro l
  induction l with
  |nil=>grind
  |cons a l bL=>
   intro x W b ab;rw[yO]at ab;refine bL _ (λb' qZ=> ?_) b ab;unfold ay.step at qZ
   cases aH:s.iu n q a with
   |none=>
    grind
   |some y=>
    have ar:y.length=512:=by
     unfold ay.iu at aH;split at aH
     ·obtain⟨_,T⟩:=Option.filter_eq_some_iff.1 aH;exact aeS T
     ·cases aH
    grind
 unfold ay.nS;split
 ·simp only
  cases ab:(s.run n q (s.pS n q all)).blk with
  |none=>simp
  |some b=>simp only;exact Nat.le_of_eq (CF _ _ (λb ab=>by cases ab) b ab)
 ·simp
theorem anz(hq:bf<18446744073709551616)(aq:n<=65536){q:Pt}(ok:cc q)(b:cW):cc (it n bf t q b).2.1:=by
 unfold it;simp only;split
 ·exact cH
 ·have aO:=am2 (s:=t.s) (w:=fE q.k) (d:=1) (n:=n) (by unfold fE;split;omega;split<;>omega) (by omega) aq (fE q.k) (c_ _);have hn:mm n t.s (fE q.k) 1 (fE q.k)=t.s.xU n (fE q.k):=by simp[mm,ay.xU]
  rw[hn]at aO;have EN:(t.s.xU n (fE q.k)).2.length=4:=by rw[<-hn];exact aeD _ _ _ _ _
  exact⟨ok.k,ok.l,ok.o,ok.f,hq,PJ _ b,EN,aO⟩
theorem JH(dC:kG cL)(e:sw ep eB)(hq:bf<18446744073709551616)(aq:n<=65536):xW (hc k m p n z bf ep eB) (gX cL) (iR n) (it n bf) (lR n) (Zc k) where
 rd:=⟨anx dC n,λt w O q K aC h ok cv aH fW=>by
  obtain⟨lv,b_,_⟩:=h.cv e;obtain⟨a_,A,ey,J,T,ag,aP⟩:=h;obtain⟨aW,bg,bR⟩:=PG dC aC;rw[TD (aAC _ (aG J.blk 0))];have fp:kF w m p n z t.s (gU z m p a_ A):=⟨a_,A,J.pm,λ_ e=>e,J.pm.ih⟩;refine(aeT fp q ok lv.qQ b_ aW (by omega) λx=>(T _ (.inl x)).2 (e.d' _ (.inr (.inl rfl)))).mono ?_;rintro _ w' ⟨u,rfl,aN⟩;obtain⟨O',⟨jr,gM,fh,fv,iY⟩,oz,rB⟩:=aN.dI;have fd:=aN.ch.size;have W:∀j,gU z m p jr gM j->gU z m p a_ A j\/(w.1.size<=j/\j<w'.1.size):=λj I=>oz j (fv j I);have ox:k<w.1.size:=lt_of_block J.blk;have hb:lu w' k m p n z bf (iR n t q).1 jr gM ey:=by
   refine⟨fh,aN.ch.obj J.blk J.oM,gu J.fS aN.ch λj I x=>(J.fe j I).1 x,J.lP,λx=> ?_,λj I=>⟨λx=> ?_,(J.fe j I).2⟩⟩
   ·rcases W _ x with x|x
    ·exact J.oM x
    ·omega
   ·have iP:=nK J.fS j I;rcases W _ x with x|x
    ·exact(J.fe j I).1 x
    ·omega
  obtain⟨cC,cj⟩:=hc.step J T ag aP hb (λj I=>by
   rcases I with I|I
   ·rcases W j I with x|x
    ·exact .inl (.inl x)
    ·exact .inr x
   ·exact .inl (.inr I)) aN.ch λj I=>.inl I
  exact fW u w' aN.dR (dK (aeR n t.s q false) (by decide)) cC cj⟩
 aeU:=λt q b=>TC dC n bf t q b
 q':=λt q=>Zd dC n t q
 nw t w O q b v K aC h ok ab aM g_ cv aH fW:=by
  obtain⟨lv,b_,_⟩:=h.cv e;obtain⟨a_,A,ey,J,T,ag,aP⟩:=h;obtain⟨aW,bg,bR⟩:=PG dC aC;rw[TD (aAD k _ _ w)];refine(am4 J q ok hq aq b ab v aM (λj I=>⟨λx=>(g_ j I).1 (T j x).1,(g_ j I).2⟩) lv.qQ b_ (λj I x=>(T j x).2 (e.d' j (by rcases I with rfl|rfl;exact .inl (.inl rfl);exact .inr (.inl rfl)))) aW (by omega) (by omega)).mono ?_;rintro _ w' ⟨rfl,⟨jr,gM,GV,fh,fv⟩,c⟩;obtain⟨cC,cj⟩:=hc.step J T ag aP fh fv c λj I=>I;exact fW w' (anz hq aq ok b) cC cj
 ca t w O q K aC h ok cv aH fW:=by
  obtain⟨a_,A,ey,J,T,ag,aP⟩:=h;rw[TD (aAE k _ w)];refine(anA J q ok).mono ?_;rintro v' w' ⟨_,fh,c⟩;obtain⟨cC,cj⟩:=hc.step J T ag aP fh (λj I=>.inl I) c λj I=>.inl (xV z m p a_ A j I);exact fW v' w' cC cj
end
section
variable {k m p:Nat}{z:fV}{ep w w':M}{eB:Nat->Prop}{t:eb}{O:Nat->Prop}{cL:eb->Nat}{c:jt}
theorem aeV(h:hc k m p c.n z c.bf ep eB t w O)(q:Pt)(ok:cc q):bc prog 124 #[az k,.agg (ae q)] w λv' w'=>v'=.tuple #[]/\hc k m p c.n z c.bf ep eB (lR c.n t q) w' (aE O w w')/\H O w w':=by
 obtain⟨a_,A,ey,J,T,ag,aP⟩:=h;refine(anA J q ok).mono ?_;rintro v' w' ⟨rfl,fh,c⟩;obtain⟨cC,cj⟩:=hc.step J T ag aP fh (λj I=>.inl I) c λj I=>.inl (xV z m p a_ A j I);exact⟨rfl,cC,cj⟩
theorem aAG(dC:kG cL)(e:sw ep eB)(hq:c.bf<18446744073709551616)(aq:c.n<=65536)(h:hc k m p c.n z c.bf ep eB t w O)(aC:144<=gX cL t)(bO:Pt)(ok:cc bO):
  bc prog 174 #[az k,.agg (ae bO)] w λv' w'=>v'=aa (uA (ms c) t bO).2.2/\hc k m p c.n z c.bf ep eB (uA (ms c) t bO).1 w' (aE O w w')/\H O w w':=by
 refine bz func174 ntmps174 λbk af=> ?_;have de:=cd ok;have da:=ef ok;have aT:=hc.ok k m p c.n z c.bf ep eB;have ak:=(aT t).lt h;simp[go_sem,de,da];have aU:=(H.refl al w).alloc (.cells (ae bO) 44);have bu:=cr w (.cells (ae bO) 44);obtain⟨ai,dx⟩:=aD (w.alloc (.cells (ae bO) 44));rw[dx]at aU bu⊢;have J:=(aT t).ch h aU λ_ _ e=>e;have bK:=aU.size;refine(aAH (JH dC e hq aq).rd aC aT J bO ok (J.cv e).1 (hc.d' e)).mono ?_;have nB:(ms c).rd=iR c.n:=rfl;have Bj:(ms c).ca=lR c.n:=rfl;have PK:uA (ms c) t bO=if(lS (iR c.n) t bO).2.2.2≠0 then((lS (iR c.n) t bO).1,(),(lS (iR c.n) t bO).2.2.2)else(((lS (iR c.n) t bO).2.1.map (·.2)++(lS (iR c.n) t bO).2.2.1).foldl (lR c.n) (lS (iR c.n) t bO).1,(),0):=rfl
 rw[PK]at af;obtain⟨qS,fx,gB,JI⟩:=anB (iR c.n) t bO ok;obtain⟨x,W⟩:=aD (lS (iR c.n) t bO);rw[W]at af qS fx gB JI⊢;rintro _ an ⟨mc,y_,ka,rfl,TE,TF,T,aeW,td,qR,aK⟩;obtain⟨el,dP,dZ,EO⟩:=x;simp only at af qS fx gB JI TE TF T td qR;have xP:=(aT el).lt T;have cR:=aK.size;have Mw:∀j,ka j->aE O w an j:=λj I=>(aeW j I).imp id λe=>⟨by omega,e.2⟩;have gx:H O w an:=(aU.mono λ_ _ e=>e.elim).trans aK;simp[go_sem];by_cases Mx:EO=0
 ·subst Mx;have kH:((0:Int)!=0)=false:=by decide
  have G_:fC an mc (λx=>(ft x).toList) 42 dP:=fC.fF TE λx W=>ra (qS x W);have anC:fC an y_ (λx=>(ae x).toList) 41 dZ:=fC.fF TF λx W=>cd (fx x W);have aAI:=G_.len underlying223 3;have aAJ:=anC.len underlying87 3;rw[aQ (by decide)]at af;obtain⟨g,aH⟩:=aD (an.1.size);have adQ:∀{u:M} {t3:eb} {Q:Nat->Prop},hc k m p c.n z c.bf ep eB t3 u Q->(∀j,Q j->aE ka an u j)->H ka an u->hc k m p c.n z c.bf ep eB t3 u (aE O w u)/\H O w u:=λ{u t3 Q} h eT aS=>by
   have EP:=aS.size;refine⟨(aT _).eK h (λj I=> ?_) (aE.lt ak (by omega)),gx.bZ aS λj I e=> ?_⟩
   ·rcases eT j I with e|e
    ·exact(Mw j e).imp id λe=>⟨e.1,by omega⟩
    ·exact .inr ⟨by omega,e.2⟩
   ·exact(Mw j e).elim id λe=>by omega
  simp[go_sem,kH,aAI];refine di (λV f u=>∃i Q,V=dP.length - i/\i<=dP.length/\f 0=az k/\f 23=mc/\f 24=aa dP.length/\f 25=aa (i:Nat)/\f 6=y_/\
    hc k m p c.n z c.bf ep eB (((dP.take i).map (·.2)).foldl (lR c.n) el) u Q/\(∀j,Q j->aE ka an u j)/\H ka an u) dP.length
   ⟨0,ka,rfl,gG _,by simp,by simp,by simp,by simp,by simp,by simpa using T,λj I=>.inl I,H.refl _ _⟩ ?_
  rintro cQ bJ _ f u ⟨i,Q,rfl,ad,f0,f23,f24,f25,f6,ap,eT,aS⟩;by_cases aO:i<dP.length
  case neg=>
   have fy:¬(i:Int)<dP.length:=by omega
   have CV:i=dP.length:=by omega
   subst CV;rw[wm]at ap;simp[go_sem,f24,f25,f6,aAJ];refine di (λV f u=>∃i Q,V=dZ.length - i/\i<=dZ.length/\f 0=az k/\f 34=y_/\f 35=aa dZ.length/\f 36=aa (i:Nat)/\
     hc k m p c.n z c.bf ep eB ((dP.map (·.2)++dZ.take i).foldl (lR c.n) el) u Q/\(∀j,Q j->aE ka an u j)/\H ka an u) dZ.length
    ⟨0,Q,rfl,gG _,by simp[f0],by simp[f6],by simp,by simp,by simpa using ap,eT,aS⟩ ?_
   clear ap eT aS f0 f23 f24 f25 f6 bJ;rintro cQ bJ _ f u ⟨i,Q,rfl,ad,f0,My,Ze,aeX,ap,eT,aS⟩;by_cases aO:i<dZ.length
   case neg=>
    have fy:¬(i:Int)<dZ.length:=by omega
    have CV:i=dZ.length:=by omega
    subst CV;rw[wm]at ap;obtain⟨fh,fv⟩:=adQ ap eT aS;simp[go_sem,Ze,aeX];exact af _ _ ⟨rfl,fh,fv⟩
   have fy:(i:Int)<dZ.length:=by omega
   obtain⟨x,W⟩:∃x,dZ[i]? =some x:=⟨_,d_ aO⟩;have cG:=fx x (ib W);obtain⟨eC,uB,hB,aeY,aeZ,ae0,TG,iQ,xX,eY⟩:=(anC.anD aS λb ab=>(qR b ab).1).OX (by decide) (λa ao=>cd (fx a ao)) W;have eF:=cd cG;have fN:=ef cG;have ee:=cd cH;have eQ:IntKind.i64.wrap ((i:Int)+1)=((i+1:Nat):Int):=by rw[cz];omega
   have aI:=(H.refl al u).alloc (.cells (ae x) 44);have cK:=cr u (.cells (ae x) 44);obtain⟨aJ,ik⟩:=aD (u.alloc (.cells (ae x) 44));rw[ik]at aI cK;have ag:=(aT _).ch ap aI λ_ _ e=>e;have anE:=My;rw[TG]at anE;simp[go_sem,anE,Ze,aeX,aO,fy,iQ,xX,eY,gO,gP,ee,eF,fN,bS,ik,cK,f0];refine(aeV ag x cG).mono ?_;rintro _ bs ⟨rfl,aP,bo⟩;have iC:=aI.size;have jo:=bo.size;have JJ:=aS.size;simp[go_sem,My,Ze,aeX,eQ];refine ct.intro (dZ.length -(i+1)) (by omega) (bJ _ _ _ ⟨i+1,aE Q aJ bs,rfl,by omega,by simp[f0],by simp[My],by simp[Ze],by simp,?_,λj I=> ?_,?_⟩)
   ·have e:dP.map (·.2)++dZ.take (i+1)=(dP.map (·.2)++dZ.take i)++[x]:=by rw[nA,W];simp
    rw[e,Cc];exact aP
   ·rcases I with I|I
    ·exact(eT j I).imp id λe=>⟨e.1,by omega⟩
    ·exact .inr ⟨by omega,I.2⟩
   ·exact(aS.bZ aI λj I e=>e.elim).bZ bo λj I e=>(eT j e).elim id λe=>by omega
  have fy:(i:Int)<dP.length:=by omega
  obtain⟨x,W⟩:∃x,dP[i]? =some x:=⟨_,d_ aO⟩;have cG:=qS x (ib W);obtain⟨eC,uB,hB,aeY,aeZ,ae0,TG,iQ,xX,eY⟩:=(G_.anD aS λb ab=>(td b ab).1).OX (by decide) (λa ao=>ra (qS a ao)) W;have eF:=ra cG;have fN:=Zf cG;have rO:=ae1 cG;have ee:=ra Mz;have Bk:=cd cG.p;have eQ:IntKind.i64.wrap ((i:Int)+1)=((i+1:Nat):Int):=by rw[cz];omega
  have aI:=(H.refl al u).alloc (.cells (ft x) 229);have cK:=cr u (.cells (ft x) 229);obtain⟨aJ,ik⟩:=aD (u.alloc (.cells (ft x) 229));rw[ik]at aI cK;have ag:=(aT _).ch ap aI λ_ _ e=>e;have anF:=f23;rw[TG]at anF;simp[go_sem,anF,f24,f25,aO,fy,iQ,xX,eY,pJ,PL,PM,ee,eF,fN,bS,ik,cK,rO,f0];refine(aeV ag x.2 cG.p).mono ?_;rintro _ bs ⟨rfl,aP,bo⟩;have iC:=aI.size;have jo:=bo.size;have JJ:=aS.size;simp[go_sem,f23,f24,f25,f6,eQ];refine ct.intro (dP.length -(i+1)) (by omega) (bJ _ _ _ ⟨i+1,aE Q aJ bs,rfl,by omega,by simp[f0],by simp[f23],by simp[f24],by simp,by simp[f6],?_,λj I=> ?_,?_⟩)
  ·have e:(dP.take (i+1)).map (·.2)=(dP.take i).map (·.2)++[x.2]:=by rw[nA,W];simp
   rw[e,Cc];exact aP
  ·rcases I with I|I
   ·exact(eT j I).imp id λe=>⟨e.1,by omega⟩
   ·exact .inr ⟨by omega,I.2⟩
  ·exact(aS.bZ aI λj I e=>e.elim).bZ bo λj I e=>(eT j e).elim id λe=>by omega
 ·have gA:(EO !=0)=true:=by simpa using Mx
  rw[be (by simpa using Mx)]at af;simp[go_sem,gA];exact af _ _ ⟨rfl,(aT el).eK T Mw (aE.lt ak (by omega)),gx⟩
end
end Go.Proofs.YtoohkhcpboldjaaGreatDoor
