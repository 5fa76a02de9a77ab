/- The maker makes all blocks, up to the onW on top. Conditions: the variables that are listed hold what the text lays; sizes. -/
import Derived.Test.YtoohkhcpboldjaaGreatDoorMcF
set_option maxRecDepth 100000
set_option maxHeartbeats 8000000
set_option linter.unusedSimpArgs false
set_option linter.unusedVariables false
namespace Go.Proofs.YtoohkhcpboldjaaGreatDoor
open Go.RowKit Go.Kin Go.Maps Tryz
theorem afs{n:Nat}:∀(m:Nat) (xs:List (Fin n)),xs.Nodup->(∀a∈xs,a.val<m)->xs.length<=m
 |0,xs,_,h=>by
  cases xs with
  |nil=>simp
  |cons a xs=>have:=h a (by simp);omega
 |m+1,xs,aq,h=>by
  by_cases aC:∃a∈xs,a.val=m
  ·obtain⟨a,ao,Bd⟩:=aC;have J:=afs m (xs.erase a) (aq.erase a) λc Z=>by
    grind
   grind
  ·have J:=afs m xs aq λc Z=>by
    grind
   omega
theorem aoe{a':gn->Option N}{l:List (Nat×bF)}(Hh:∀o:gn,(a' o).isSome=true↔fj l o.val≠[])(ak:∀x∈l,x.1<=255){xs:List gn}(fW:S32.Bs a' xs):(∀a∈xs,a.val<64)/\(xs.Pairwise (λa b=>a<b)->xs.map (λa:gn=>a.val)=lU l):=by
 have lw:∀a∈xs,a.val<64:=λa ao=>by
  have J:=(Hh a).1 ((fW.2 a).1 ao);obtain⟨x,W⟩:=List.exists_mem_of_ne_nil _ J;obtain⟨T,ag⟩:=aft.1 W;have:=ak x T;omega
 refine⟨lw,λam=>afu ?_ (afv l) λo=> ?_⟩
 ·grind
 ·rw[lF,TV];constructor
  ·rintro⟨a,ao,rfl⟩;exact⟨lw a ao,(Hh a).1 ((fW.2 a).1 ao)⟩
  ·rintro⟨J,T⟩;exact⟨⟨o,by omega⟩,(fW.2 _).2 ((Hh _).2 T),rfl⟩
theorem aof(w:M)(A B C D:Obj):∃Y,(((w.alloc A).alloc B).alloc C).alloc D=Y/\Y.1[w.1.size]? =some A/\Y.1[w.1.size+1]? =some B/\Y.1[w.1.size+2]? =some C/\Y.1[w.1.size+3]? =some D/\Y.1.size=w.1.size+4/\H al w Y:=by
 refine⟨_,rfl,?_,?_,?_,?_,by simp,((((H.refl al w).alloc _).alloc _).alloc _).alloc _⟩
 ·rw[rQ _ _ _ (by simp<;>omega),rQ _ _ _ (by simp<;>omega),rQ _ _ _ (by simp<;>omega),cr]
 ·simp_all
 ·simp_all
 ·simp
theorem aBR{P:Program}{t e:TypeId}{z:N}{size bytes g n c:Nat}(bv:Bc P t e z size bytes)(aq:0<n)(Cf:n<=c)(w:M):(Instr.sliceAt t (.slice (some ⟨g,0,none⟩) n c) none (some (aa n)) (some (aa n))).run P w=.ok (.slice (some ⟨g,0,none⟩) n n) w:=by
 obtain⟨i,ad,_,cU,_⟩:=info_parts bv.yR;have OR:¬c<n:=by omega
 have bi:¬n=0:=by omega
 simp[Instr.sliceAt,Instr.slice,Instr.sliceBounds,Instr.sliceBound,asIntOf,run_underlying bv.oX,sizeOf,typeInfo,ad,OR,bi,Addr.add]
theorem aBS{α:Type}{w:M}{A:Option Addr}{c dA k:Nat}{en:α->List N}{L:List α}(h:fC w (.slice A L.length c) en k L)(J:L.length<=dA)(T:dA<=maxLen):fC w (.slice A L.length dA) en k L:=by
 obtain⟨vA,aK,e,_,_,ag⟩:=h;injection e with aL _ _;subst aL;exact⟨A,dA,rfl,J,T,ag⟩
section
variable {aF:Type}{ba:aF->jf}{m:aF->Nat}{rd:Src aF}{nw:aF->Pt->List UInt8->aF×Pt×Int}{ca:aF->Pt->aF}{dy:TypeId}{ce:N}{s:aF}{w w':M}{O:Nat->Prop}
theorem aBT(aA:xW ba m rd nw ca (.iface dy ce))(aC:9000<=m s)(aT:∀s,kB (ba s))(h:ba s w O)(p:Pt)(ok:cc p)(iw:N)(l:List (Nat×bF))(ak:fC w iw uC 45 l)(fo:∀x∈l,pT x)(ga:∀j,iw.ownBlock=some j->¬O j/\j<w.1.size)(yW:l.length<=1000)(cv:hI w)(aH:iO ba O):
  bc prog 123 #[.iface dy ce,.agg (ae p),iw] w λv' w'=>v'=.tuple #[.agg (ae (rR rd nw ca s p l).2.1),aa (rR rd nw ca s p l).2.2]/\cc (rR rd nw ca s p l).2.1/\ba (rR rd nw ca s p l).1 w' (aE O w w')/\H O w w':=by
 refine bz func123 ntmps123 λbk af=> ?_;have de:=cd ok;have da:=ef ok;have ee:=cd cH;have ic:=ef cH;have AY:=(aT s).lt h;have ff:∀j,w.1.size<=j->¬O j:=λj I e=>by have:=AY j e;omega
 have cu:=ak.len underlying220 3;obtain⟨W1,AN,bu,bt,cY,cK,gZ,aU⟩:=aof w (.cells (ae p) 44) (.cells (ae ah) 44) (.map #[] 0) (.cells #[.map (some (w.1.size+2))] 316);have zw:∀(t:TypeId) (w:M),(Instr.makeMap t none).run prog w=.ok (.map (some w.1.size)) (w.alloc (.map #[] 0)):=λ_ _=>rfl;have Hi:=cd cH;simp[go_sem,de,da,gO,gP,cu,zw];obtain⟨g,lp⟩:=aD (w.1.size);rw[lp]at bu bt cY cK gZ AN⊢;rw[AN];clear AN;obtain⟨gW,dc,hl,aBU,gx,cR⟩:W1.1[g]? =some (.cells (ae p) 44 (0,0))/\W1.1[g+1]? =some (.cells (ae ah) 44 (0,0))/\W1.1[g+2]? =some (.map #[] 0)/\W1.1[g+3]? =some (.cells #[.map (some (g+2))] 316 (0,0))/\H al w W1/\W1.1.size=g+4:=⟨bu,bt,cY,cK,aU,gZ⟩;clear bu bt cY cK aU gZ;have xP:=ak.ch gx λ_ _ _ e=>e;have mj:=cv.ch gx λ_ _ e=>e;have cj:MH (g+4) (g+2) (λ_=>none) [] W1:=⟨⟨_,⟨#[],0,hl,⟨by simp,MapKept.stamped_empty 0,by simp⟩,c_ _,rfl⟩,λa=>rfl⟩,λo=>pA _ _ _ _,λo=>by simp[fj],λo k r=>by simp[mn,Value.ownBlock]at r,λo gg k r=>by simp[mn,Value.ownBlock]at r⟩;have aRq:∀k,Pl k->k<g:=λk r=>by have:=cv.lt k r;omega
 refine di (λV f u=>∃i a',V=l.length - i/\i<=l.length/\f 0=.iface dy ce/\f 2=iw/\f 4=az g/\f 6=.pointer (some ⟨g+1,0,none⟩)/\f 8=.pointer (some ⟨g+3,0,none⟩)/\f 9=.func (.func 177) #[] #[.pointer (some ⟨g+3,0,none⟩)]/\
   f 24=iw/\f 25=aa l.length/\f 26=aa (i:Nat)/\wP none l=wP (JN l i) (l.drop i)/\(∀x∈l.take i,x.1<=255)/\MH (g+4) (g+2) a' (l.take i) u/\H (aj (g+2)) W1 u) l.length
  ⟨0,_,rfl,gG _,by simp,by simp,by simp,by simp,by simp,by simp,by simp,by simp,by simp,rfl,by simp,by simpa using cj,H.refl _ _⟩ ?_
 rintro cQ bJ _ f u ⟨i,a',rfl,ad,f0,bg,ck,f6,bB,dt,f24,f25,f26,fs,JO,fD,aS⟩;have EP:=aS.size;have JL:H al w u:=gx.bZ aS λk r e=>by simp only[aj]at e;omega
 have pn:=cv.ch JL λ_ _ e=>e;have ap:=(aT s).ch h JL λ_ _ e=>e;have tB:=aS.obj gW λe=>by simp only[aj]at e;omega
 have gw:=aS.obj dc λe=>by simp only[aj]at e;omega
 have jl:=aS.obj aBU λe=>by simp only[aj]at e;omega
 have Hj:=ak.ch JL λ_ _ _ e=>e;have bU:∀{Y:M} {x:aF×Pt×Int} {Q:Nat->Prop},rR rd nw ca s p l=x->cc x.2.1->ba x.1 Y Q->¬Q (g+1)->(∀k,Q k->aE O w Y k)->H O w Y->bk (.tuple #[.agg (ae x.2.1),aa x.2.2]) (Y.setRow (g+1) (ae x.2.1)):=λ{Y x Q} e cG a Bn eT c=>by
  subst e;have JP:=c.size;have dA:H (aj (g+1)) Y (Y.setRow (g+1) (ae (rR rd nw ca s p l).2.1)):=(H.refl (aj (g+1)) Y).setRow (.inl rfl) _;have Cz:=dA.size;refine af _ _ ⟨rfl,cG,(aT _).eK ((aT _).ch a dA λk r e=>by simp only[aj]at e;subst e;exact Bn r) (λk r=>(eT k r).imp id λe=>⟨e.1,by omega⟩) (aE.lt AY (by omega)),?_⟩;exact c.bZ dA λk r e=>by simp only[aj]at e;omega
 clear af;have dN:∀{Y:M},wP none l=false->H al u Y->bk (.tuple #[.agg (ae ah),aa 1]) (Y.setRow (g+1) (ae ah)):=λ{Y} e c=>by
  have aR:rR rd nw ca s p l=(s,ah,1):=by unfold rR;grind
  exact bU aR cH ((aT s).ch ap c λ_ _ e=>e) (ff _ (by omega)) (λk r=>.inl r) ((JL.trans c).mono λ_ _ e=>e.elim)
 by_cases aO:i<l.length
 ·have fy:(i:Int)<l.length:=by omega
  obtain⟨x,W⟩:∃x,l[i]? =some x:=⟨_,d_ aO⟩;have cG:=fo x (ib W);have eF:=rP cG;have fN:=Hf cG;have Hk:=afw cG;have MB:=rP zD;have uF:=ER (x:=x);have eQ:IntKind.i64.wrap ((i:Int)+1)=((i+1:Nat):Int):=by rw[cz];omega
  obtain⟨b,off,c,cs,bv,fr,aM,ab,bi,J,T,ag⟩:=aog Hj fo W;have fd:off+i*45+45<=cs.size:=by omega
  have tI:=aBV l W;rw[show(if i=0 then none else(l[i - 1]?).map (·.1))=JN l i from rfl,show(if i+1=0 then none else(l[i+1 - 1]?).map (·.1))=JN l (i+1)from rfl]at tI;rw[tI]at fs;have sC:TW l i x=(decide (1<=x.1/\x.1<=255)&&fc x.2&&(match JN l i with|none=>true|some z=>decide (z<x.1))):=rfl;have JQ:TW l i x=false->wP none l=false:=λe=>by rw[fs,e];rfl
  have bE:=(H.refl al u).alloc (.cells (e_ x) 227);have dG:=cr u (.cells (e_ x) 227);have kV:(u.alloc (.cells (e_ x) 227)).1.size=u.1.size+1:=by simp
  obtain⟨bD,qq⟩:=aD (u.alloc (.cells (e_ x) 227));rw[qq]at bE dG kV;have aoh:=f24;have C':=bg;rw[aM]at aoh C';simp[go_sem,aoh,f25,f26,fy,aO,ab,ag,fd,Bl,Bm,uF,MB,eF,fN,bS,qq];clear qq;obtain⟨vK,CZ⟩:=aD (u.1.size);rw[CZ]at dG kV⊢;have ql:=(aG dG 0).trans (TX (x:=x));have rf:=pn.ch bE λ_ _ e=>e;refine cT [F 0,F 1,(2,some []),F 3,F 4,F 5,F 6,(7,some []),F 8,F 9,F 10,F 11,F 12,F 13,F 14,F 15,F 16,F 17,F 18,F 19,F 20,F 21,F 22,F 23,F 24] ?_;have afx:=bE.drew;have Zx:bD.drew.1[vK]? =some (.cells (e_ x) 227 (0,0)):=dG;have aBW:bD.drew.cell? (bl vK 0)=some (.int .u16 x.1):=ql;have TY:=rf.ch (H.refl al bD).drew λ_ _ e=>e;have aRr:bD.drew.1.size=vK+1:=kV;generalize bD.drew=cD at*;simp[go_sem,aBW];refine(aoi x.1 cG.n cD).mono ?_;rintro _ cE ⟨rfl,hX⟩;subst hX;by_cases cC:1<=x.1/\x.1<=255
  case neg=>
   have e:=gw;have aBX:=afx.obj gw id;simp[go_sem,cC,l',f6,aBX,ee,ic,bS];exact dN (JQ (by grind)) afx
  rw[ou cC,Gf]at sC;simp[go_sem,cC,Zx,eF,Hk];refine(XT x.2 cE cG.i TY.qQ).mono ?_;rintro _ ec ⟨rfl,ds⟩;have MI:=afx.trans ds;have jI:=ds.obj Zx id;have Bo:=MI.obj gw id;have aoj:=(aG jI 0).trans (TX (x:=x))
  cases aok:fc x.2 with
  |false=>
   simp[go_sem,l',f6,Bo,ee,ic,bS];exact dN (JQ (by rw[sC,aok];rfl)) MI
  |true=>
  rw[aok,Gf]at sC;have TZ:JN l i=none/\i=0\/∃y,0<i/\l[i - 1]? =some y/\JN l i=some y.1:=by
   by_cases bi:i=0
   ·exact .inl ⟨by unfold JN;rw[be bi],bi⟩
   ·obtain⟨y,ar⟩:∃y,l[i - 1]? =some y:=⟨_,d_ (by omega)⟩;exact .inr ⟨y,by omega,ar,by unfold JN;rw[aQ bi,ar];rfl⟩
  rcases TZ with⟨qe,lH⟩|⟨y,lH,ar,afy⟩
  case' inl=>
   rw[qe]at sC;have sC:TW l i x=true:=sC;have Hl:¬(0:Int)<i:=by omega
   have aBY:¬0<i:=by omega
   simp[go_sem,Hl,aBY,dt,jI,eF,fN]
  case' inr=>
   rw[afy]at sC;have sC:TW l i x=decide (y.1<x.1):=sC;have Hl:(0:Int)<i:=by omega
   have T_:i - 1<l.length:=by omega
   have T':IntKind.i64.wrap ((i:Int) - 1)=((i - 1:Nat):Int):=by rw[cz];omega
   obtain⟨cY,aRs,aK,ZC,aol,Ua,ky,dm,aom,_⟩:=aog (Hj.ch MI λ_ _ _ e=>e) fo ar;rw[aM]at ky;injection ky with AU _ _;injection AU with AU;injection AU with PS afz;subst PS afz;by_cases Bt:y.1<x.1
   case' neg=>
    have ET:(x.1:Int)<=y.1:=by omega
    simp[go_sem,lH,Hl,T',T_,C',aom,aoj,ET,l',f6,Bo,ee,ic,bS];exact dN (JQ (by grind)) MI
   have ET:¬(x.1:Int)<=y.1:=by omega
   rw[ou Bt]at sC;simp[go_sem,lH,Hl,T',T_,C',aom,aoj,ET,dt,jI,eF,fN]
  all_goals
   have oC:∀(x:List N) (w:M),(callFunc 177 x.toArray).run prog w=.ok (.enter 177 x.toArray) w:=λx w=>by simp[go_sem]
   rw[EJ _ _ _ _ [.pointer (some ⟨g+3,0,none⟩)] _ (oC _ _)];have PT:=ds.size;have JR:=fD.ch MI id λ_ _ _ e=>e;refine(aBZ JR (MI.obj jl id) (by omega) (by omega) (by omega) (by omega) cG (by rw[ol];omega)).mono ?_;rintro v9 db ⟨JS,aon,dV⟩;have iX:l.take i++[x]=l.take (i+1):=by rw[nA,W];rfl
   rw[iX]at aon;simp[go_sem,f26,eQ];refine ct.intro (l.length -(i+1)) (by omega) (bJ _ _ _ ⟨i+1,JS,rfl,by omega,by simp[f0],by simp[bg],by simp[ck],by simp[f6],by simp[bB],by simp[dt],by simp[f24],by simp[f25],by simp,by rw[fs,sC];rfl,λz hz=> ?_,aon,(aS.trans (MI.mono λ_ _ e=>e.elim)).bZ dV λj I e=> ?_⟩)
   ·rw[<-iX]at hz;rcases hP.1 hz with hz|hz
    ·exact JO z hz
    ·rw[sc]at hz;rw[hz];exact cC.2
   ·rcases e with e|e
    ·exact e
    ·omega
 obtain rfl:i=l.length:=by omega
 rw[Xv (c_ _)]at fs;rw[mP (c_ _)]at fD JO;have fs:wP none l=true:=fs;clear dN ad aO;have jd:=aG jl 0;simp[go_sem,f25,f26,bB,jd];refine(S32.afA (g+2) u).mono ?_;rintro _ bs ⟨rfl,dl⟩;subst dl;have bo:=(H.refl al u).alloc (.cells #[.map (some (g+2))] 316);have cI:=cr u (.cells #[.map (some (g+2))] 316);obtain⟨fQ,ss⟩:=aD (u.1.size);simp[go_sem];rw[ss]at cI⊢;generalize u.alloc (.cells #[.map (some (g+2))] 316)=bs at*;have aB0:∀xs,S32.Bs a' xs->xs.length<=255:=λxs fW=>dK (afs 64 xs fW.1 (aoe fD.Ub JO fW).1) (by omega);refine(S32.afB (q:=fQ) u fD.map (by omega) aB0 bs bo (aG cI 0)).mono ?_;rintro Aw bD ⟨xs,fW,TN,lx,bE,kc⟩;have pd:=bo.trans bE;have EU:=pd.size;obtain⟨lw,PU⟩:=aoe fD.Ub JO fW;have PU:=PU TN;have lj:=aoo l;rw[<-PU,oV]at lj;have Uc:=fD.ch pd id λ_ _ _ e=>e;have v0:=pd.obj tB id;have fY:=pd.obj gw id;have v3:=pd.obj jl id;have rf:=pn.ch pd λ_ _ e=>e;have bH:=(aT s).ch ap pd λ_ _ e=>e;have mH:H al w bD:=JL.trans pd;have aB1:=lx.len underlying194 3;have qt:rR rd nw ca s p l=if(nf rd nw p l (lU l) s []).2.2≠0 then((nf rd nw p l (lU l) s []).1,ah,(nf rd nw p l (lU l) s []).2.2)else rc rd nw ca 0 (nf rd nw p l (lU l) s []).1 p (nf rd nw p l (lU l) s []).2.1:=by
  unfold rR;rw[be fs]
 have aB2:∀x∈([]:List (Nat×Pt)),nU x:=by simp
 simp[go_sem,aB1];have aop:∀{Y:M} {x:aF×Pt×Int} {Q:Nat->Prop},rR rd nw ca s p l=x->cc x.2.1->ba x.1 Y Q->(∀k,Q k->aE O bD Y k)->H O bD Y->bk (.tuple #[.agg (ae x.2.1),aa x.2.2]) (Y.setRow (g+1) (ae x.2.1)):=λ{Y x Q} e cG a eT c=>by
  have J:=c.size;have T:=mH.size;exact bU e cG a (λr=>(eT _ r).elim (ff _ (by omega)) λe=>by omega) (λk r=>(eT k r).imp id λe=>⟨by omega,e.2⟩) ((mH.mono λ_ _ e=>e.elim).trans c)
 refine di (λV f u=>∃j s' cm mc x',V=xs.length - j/\j<=xs.length/\f 0=.iface dy ce/\f 4=az g/\f 6=.pointer (some ⟨g+1,0,none⟩)/\f 8=.pointer (some ⟨g+3,0,none⟩)/\f 12=mc/\f 63=Aw/\f 64=aa xs.length/\f 65=aa (j:Nat)/\
   nf rd nw p l (lU l) s []=nf rd nw p l ((lU l).drop j) s' cm/\cm.length<=j/\(∀x∈cm,nU x)/\u.ownsRow 0 229 42 mc cm.length (ei ft cm)/\(∀k,mc.ownBlock=some k->bD.1.size<=k/\¬x' k)/\
   ba s' u x'/\(∀k,x' k->aE O bD u k)/\H O bD u/\64*(xs.length - j)+4200<=m s') xs.length
  ⟨0,s,[],.slice none 0 0,O,rfl,gG _,by simp[f0],by simp[ck],by simp[f6],by simp[bB],by simp,by simp,by simp,by simp,rfl,by simp,aB2,pA _ _ _ _,λk r=>by simp[Value.ownBlock]at r,bH,λk r=>.inl r,H.refl _ _,by omega⟩ ?_
 clear cQ bJ f f0 bg ck f6 bB dt f24 f25 f26;rintro cQ bJ _ f cq ⟨j,s',cm,mc,x',rfl,I,f0,ck,f6,bB,dj,MJ,EV,JT,lV,aRt,ZD,ZE,Hm,Gj,Hn,Bu,aRu⟩;have aRv:=Bu.size;have aRw:g<=bD.1.size:=by have:=mH.size;omega
 have Ho:∀k,g<=k->¬O k:=λk r=>ff k (by omega);have kx:=Bu.obj v0 (Ho _ (c_ _));have es:=Bu.obj fY (Ho _ (by omega));have iq:=Bu.obj v3 (Ho _ (by omega));have iY:=aG iq 0;have aoq:=aH.cv rf Bu ⟨_,Gj⟩ λ_ _ e=>e;have Ud:iO ba x':=(aH.cN rf).mono Hn;have aB3:=(aT _).lt Gj;by_cases aO:j<xs.length
 case neg=>
  obtain rfl:j=xs.length:=by omega
  rw[Xv (by rw[<-PU,oV];omega),nf]at lV;rw[lV]at qt;simp only[ne_eq,not_true_eq_false,if_false]at qt;simp[go_sem,EV,JT,f0,ck,dj,kx,de,da];have G_:fC cq mc sx 42 cm:=fC.fF ZE λa ao=>ra (ZD a ao);refine(anW aA aT Gj p ok 0 mc cm (by omega) G_ ZD (λk r=>⟨(Hm k r).2,Gv ZE k r⟩) aoq Ud (by decide)).mono ?_;obtain⟨⟨qs,vj,je⟩,lv⟩:∃x,rc rd nw ca 0 s' p cm=x:=⟨_,rfl⟩;rw[lv]at qt⊢;rintro _ cD ⟨rfl,wQ,cS,cF⟩;have zM:=cF.size;have pk:=cF.obj es λe=>(Hn _ e).elim (Ho _ (by omega)) λe=>by have:=lt_of_block fY;omega
  have Da:=cd wQ;have PV:=ef wQ;simp only at Da PV;simp[go_sem,f6,pk,Da,PV,ee,bS];refine aop qt wQ cS (λk r=> ?_) (Bu.bZ cF λk r e=>(Hn k e).elim id λe=>by omega);rcases r with r|r
  ·exact(Hn k r).imp id λe=>⟨e.1,by omega⟩
  ·exact .inr ⟨by omega,r.2⟩
 have ly:(j:Int)<xs.length:=by omega
 obtain⟨a,ao⟩:∃a,xs[j]? =some a:=⟨_,d_ aO⟩;have aRx:=lw a (ib ao);have wO:(lU l).drop j=a.val::(lU l).drop (j+1):=by
  have fb:j<(lU l).length:=by rw[<-PU,oV];exact aO
  rw[xD fb];congr 1;have e:(lU l)[j]? =some a.val:=by rw[<-PU,oo,ao];rfl
  rw[d_ fb]at e;exact sb e
 rw[wO,nf]at lV;have hN:IntKind.i64.wrap ((j:Int)+1)=((j+1:Nat):Int):=by rw[cz];omega
 have aB4:=lx.ch Bu λk r e=>Ho k (by have:=kc k r;have:=bo.size;omega) e;obtain⟨bx,pB,GM,_⟩:=aB4.at S32.bV (by simp[S32.jh]) (i:=j) (u:=.int .u32 a.val) (by simp[S32.jh,ao,uz]);have afC:=Uc.ch Bu (Ho _ (by omega)) λo k r e=>Ho k (by have:=(Uc.fr o k r).1;omega) e;have aB5:fj l a.val≠[]:=(Uc.Ub a).1 ((fW.2 a).1 (ib ao));have iM:0<(fj l a.val).length:=List.length_pos_iff.2 aB5;have aor:∀x∈fj l a.val,pT x:=λx W=>fo x (aft.1 W).1;obtain⟨cN,cap,dF,EW,Bv,aRy,JU,aos,_⟩:=A' (afC.own a) iM;have jM:=afC.map.oI PW underlying316 (z:=.slice none 0 0) (by kernel_rfl) a;have jM:(Instr.lookup 316 (.map (some (g+2))) (.int .u32 a.val) false).run prog cq=.ok (.slice (some ⟨cN,0,none⟩) (fj l a.val).length cap) cq:=by rw[<-EW];exact jM
 have EX:=λw=>aBR afD (g:=cN) iM Bv w;have jj:fC cq (.slice (some ⟨cN,0,none⟩) (fj l a.val).length (fj l a.val).length) uC 45 (fj l a.val):=by
  have J:fC cq (mn a' a) uC 45 (fj l a.val):=fC.fF (afC.own a) λx W=>rP (aor x W);rw[EW]at J;exact aBS J (c_ _) (by omega)
 have CL:g+4<=cN:=(Uc.fr a cN (by rw[EW];rfl)).1;have aRz:cN<bD.1.size:=Gv (Uc.own a) cN (by rw[EW];rfl);have aB6:¬x' cN:=λe=>(Hn _ e).elim (Ho _ (by omega)) λe=>by omega
 have pB:∀w',(Instr.indexAt 194 Aw (aa j)).run prog w'=.ok (.pointer (some bx)) w':=pB;simp[go_sem,MJ,EV,JT,ly,pB,GM,bB,iY,jM];have rK:=λ(Y:M) (O':Nat->Prop) (fX:ba s' Y O') (Z:H al cq Y) (tJ:∀k,O' k->x' k)=>aB7 aA (by omega) aT fX p ok a.val (by omega) (.slice (some ⟨cN,0,none⟩) (fj l a.val).length (fj l a.val).length) (fj l a.val) (jj.ch Z λ_ _ _ e=>e) aor (λk r=>by
   simp[Value.ownBlock]at r;have:=Z.size;subst r;exact⟨λe=>aB6 (tJ _ e),by omega⟩) (dK (aot l a.val) (by omega)) (aoq.ch Z λ_ _ e=>e) (Ud.mono tJ)
 have aou:=aov aA s' p a.val (fj l a.val);obtain⟨⟨qs,vL,aow,je⟩,gY⟩:∃x,mo rd nw s' p a.val (fj l a.val)=x:=⟨_,rfl⟩;rw[gY]at lV aou;simp only at lV aou;simp only[gY]at rK;obtain⟨bq,bW⟩:∃bq:(Nat->N)->M->Prop,bq=λf' Y=>∃gy Ue,f' 0=.iface dy ce/\f' 4=az g/\f' 6=.pointer (some ⟨g+1,0,none⟩)/\f' 8=.pointer (some ⟨g+3,0,none⟩)/\f' 12=mc/\f' 14=.int .u32 a.val/\f' 16=az gy/\f' 17=.bool aow/\f' 18=aa je/\f' 63=Aw/\f' 64=aa xs.length/\f' 65=aa (j:Nat)/\
   cc vL/\Y.1[gy]? =some (.cells (ae vL) 44 (0,0))/\ba qs Y Ue/\(∀k,Ue k->aE O bD Y k/\(x' k\/cq.1.size<=k))/\H O bD Y/\Y.ownsRow 0 229 42 mc cm.length (ei ft cm)/\cq.1.size<=Y.1.size:=⟨_,rfl⟩
 have ZF:∀k,mc.ownBlock=some k->k<cq.1.size:=Gv ZE;refine Ja bq [[F 0,F 1,F 2,F 3,F 4,F 5,F 6,F 7,F 8,(9,some []),F 10,F 11,F 12,F 13,(14,some [10,11,12,13]),(15,some [12,13]),F 16,F 17],
  [F 0,F 1,F 2,F 3,F 4,F 5,F 6,F 7,F 8,(14,some [0,1,2,3,4,5,6,7,8]),(9,some []),F 10,F 11,F 12,F 13,(15,some [12,13]),F 16,F 17]] (by kernel_rfl) (by kernel_rfl) ?_ ?_
 ·intro mh mA;simp only[io,yD,or_false]at mA;have dH:H al cq cq.drew:=(H.refl _ _).drew;have ZG:cq.drew.1[g]? =some (.cells (ae p) 44 (0,0)):=kx;have tz:ba s' cq.drew x':=(aT _).ch Gj dH λ_ _ e=>e;have MK:H O bD cq.drew:=Bu.drew;have afE:cq.drew.ownsRow 0 229 42 mc cm.length (ei ft cm):=gu ZE dH λ_ _ e=>e;have aB8:cq.drew.1.size=cq.1.size:=rfl;obtain⟨nV,aox⟩:=aD (cq.drew);rw[aox]at dH ZG tz MK afE aB8⊢;clear aox;rcases mA with rfl|rfl
  ·simp[go_sem,f0,ck,ZG,de,da,EX];refine(rK nV x' tz dH λ_ e=>e).mono ?_;rintro _ cD ⟨rfl,wQ,cS,cF⟩;have zM:=cF.size;have Da:=cd wQ;have PV:=ef wQ;have dE:=(H.refl al cD).alloc (.cells (ae vL) 44);have kk:=cr cD (.cells (ae vL) 44);have iy:(cD.alloc (.cells (ae vL) 44)).1.size=cD.1.size+1:=by simp
   simp[go_sem,gO,gP,ee,Da,bS];rw[bW];refine⟨cD.1.size,aE x' nV cD,by simp[f0],by simp[ck],by simp[f6],by simp[bB],by simp[dj],by simp,by simp,by simp,by simp,by simp[MJ],by simp[EV],by simp[JT],wQ,kk,(aT _).ch cS dE λ_ _ e=>e,λk r=> ?_,?_,gu (gu afE cF λk r=>(Hm k r).2) dE λ_ _ e=>e,by omega⟩
   ·rcases r with r|r
    ·exact⟨(Hn k r).imp id λe=>⟨e.1,by omega⟩,.inl r⟩
    ·exact⟨.inr ⟨by omega,by omega⟩,.inr (by omega)⟩
   ·exact(MK.bZ cF λk r e=>(Hn k e).elim id λe=>by omega).trans (dE.mono λ_ _ e=>e.elim)
  ·have dE:=(H.refl al nV).alloc (.cells (ae ah) 44);have kk:=cr nV (.cells (ae ah) 44);have iy:(nV.alloc (.cells (ae ah) 44)).1.size=nV.1.size+1:=by simp
   have aB9:=dE.obj ZG id;simp[go_sem,f0,ck,ZG,aB9,de,da,EX,gO,gP];refine(rK _ x' ((aT _).ch tz dE λ_ _ e=>e) (dH.trans dE) λ_ e=>e).mono ?_;rintro _ cD ⟨rfl,wQ,cS,cF⟩;have zM:=cF.size;have Da:=cd wQ;have PV:=ef wQ;have Bn:¬x' nV.1.size:=λe=>by have:=aB3 _ e;omega
   have aoy:=cF.obj kk Bn;have ds:H (aj nV.1.size) cD (cD.setRow nV.1.size (ae vL)):=(H.refl (aj nV.1.size) cD).setRow (.inl rfl) _;have PT:=ds.size;have jI:(cD.setRow nV.1.size (ae vL)).1[nV.1.size]? =some (.cells (ae vL) 44 (0,0)):=by rw[gh,aoy];rfl
   simp[go_sem,aoy,ee,Da,bS];rw[bW];refine⟨nV.1.size,aE x' (nV.alloc (.cells (ae ah) 44)) cD,by simp[f0],by simp[ck],by simp[f6],by simp[bB],by simp[dj],by simp,by simp,by simp,by simp,by simp[MJ],by simp[EV],by simp[JT],wQ,jI,(aT _).ch cS ds λk r e=> ?_,λk r=> ?_,?_,gu (gu (gu afE dE λ_ _ e=>e) cF λk r=>(Hm k r).2) ds λk r e=> ?_,by omega⟩
   ·simp only[aj]at e;subst e;exact r.elim Bn λe=>by omega
   ·rcases r with r|r
    ·exact⟨(Hn k r).imp id λe=>⟨e.1,by omega⟩,.inl r⟩
    ·exact⟨.inr ⟨by omega,by omega⟩,.inr (by omega)⟩
   ·exact(((MK.trans (dE.mono λ_ _ e=>e.elim)).bZ cF λk r e=>(Hn k e).elim id λe=>by omega)).bZ ds λk r e=>by simp only[aj]at e;omega
   ·simp only[aj]at e;have:=ZF k r;omega
 rw[bW];clear bW bq rK f0 ck f6 bB dj MJ EV JT;rintro f Y ⟨gy,Ue,f0,ck,f6,bB,dj,f14,zc,lJ,oZ,MJ,EV,JT,wQ,PX,cS,PY,cF,afF,afp⟩;have Da:=cd wQ;have PV:=ef wQ;by_cases aV:je=0
 case neg=>
  have qW:(je==0)=false:=hv aV;rw[be aV]at lV;rw[lV]at qt;simp only[ne_eq,aV,not_false_eq_true,if_true]at qt;have pk:=cF.obj fY (Ho _ (by omega));simp[go_sem,oZ,aV,qW,bne,l',f6,pk,ee,ic,bS];exact aop qt cH cS (λk r=>(PY k r).1) cF
 rw[aQ (by simp[aV])]at lV;subst aV
 cases aow with
 |false=>
  simp[go_sem,lJ,oZ,JT,hN];exact ct.intro (xs.length -(j+1)) (by omega) (bJ _ _ _ ⟨j+1,qs,cm,mc,Ue,rfl,by omega,by simp[f0],by simp[ck],by simp[f6],by simp[bB],by simp[dj],by simp[MJ],by simp[EV],by simp,by simpa using lV,by omega,ZD,afF,λk r=>⟨(Hm k r).1,λe=>(PY k e).2.elim (Hm k r).2 λe=>by have:=ZF k r;omega⟩,cS,λk r=>(PY k r).1,cF,by omega⟩)
 |true=>
  have qS:nU (a.val,vL):=⟨by show a.val<_;omega,wQ⟩;have iQ:∀{w:M} {K:N->M->Prop},jb prog 229 [(0,.int .u32 a.val),(1,.agg (ae vL))] w K=K (.agg (ft (a.val,vL))) w:=λ{w K}=>aoz (x:=(a.val,vL)) qS;obtain⟨ML,gD,aY,td⟩:∃A m c,mc=.slice A m c:=by
   rcases afF.2 with⟨e,_⟩|⟨nE,cap,dF,e,_⟩
   ·exact⟨_,_,_,e⟩
   ·exact⟨_,_,_,e⟩
  simp[↓Eh,go_sem,lJ,oZ,f14,dj,zc,PX,Da,PV,iQ];refine Ei (afq qS _) ?_;simp[go_sem,dj];refine wJ (us:=(ft (a.val,vL)).toList) TT afF (by rw[wi,ra qS]) (GX (Zv _)) (by unfold maxLen;omega) (by omega) λrS ec bn bh bA=> ?_;have nD:ei ft (cm++[(a.val,vL)])=ei ft cm++(ft (a.val,vL)).toList:=by rw[AG,Cg]
  have PT:=bh.size;simp[go_sem,JT,hN];refine ct.intro (xs.length -(j+1)) (by omega) (bJ _ _ _ ⟨j+1,qs,cm++[(a.val,vL)],rS,Ue,rfl,by omega,by simp[f0],by simp[ck],by simp[f6],by simp[bB],by simp,by simp[MJ],by simp[EV],by simp,by simpa using lV,by rw[kR,II];omega,λx W=> ?_,?_,λk r=> ?_,(aT _).ch cS bh λk r e=> ?_,λk r=>(PY k r).1.imp id λe=>⟨e.1,by omega⟩,cF.bZ bh λk r e=>by have:=(Hm k e).1;omega,by omega⟩)
  ·rcases hP.1 W with W|W
   ·exact ZD x W
   ·rw[sc]at W;rw[W];exact qS
  ·rw[nD,kR,II];exact bn
  ·rcases bA with e|e
   ·rw[e]at r;exact⟨(Hm k r).1,λe=>(PY k e).2.elim (Hm k r).2 λe=>by have:=ZF k r;omega⟩
   ·have:=e k r;have:=cF.size;exact⟨by omega,λe=>by have:=(aT _).lt cS k e;omega⟩
  ·have ir:=(PY k r).2;rcases ir with ir|ir
   ·exact(Hm k e).2 ir
   ·have:=ZF k e;omega
end
end Go.Proofs.YtoohkhcpboldjaaGreatDoor
namespace Go.Proofs.YtoohkhcpboldjaaGreatDoor
open Go.RowKit Go.Kin Tryz
def qu(D:cV)(num:dp):List (Nat×List UInt8):=(List.range 64).filterMap λo=>(D.lf (num,Fin.ofNat _ o)).map λb=>(o,b)
theorem Uf{D:cV}{num:dp}{x:Nat×List UInt8}:x∈qu D num↔x.1<64/\D.lf (num,Fin.ofNat _ x.1)=some x.2:=by
 unfold qu;rw[Xz];constructor
 ·rintro⟨o,av,h⟩;obtain⟨b,ab,rfl⟩:=Si.1 h
  grind
 grind
theorem ZH(D:cV)(num:dp):(qu D num).Pairwise λx y=>x.1<y.1:=by
 unfold qu;rw[List.pairwise_filterMap];refine List.pairwise_lt_range.imp λ{a b} gE x W y ar=> ?_;obtain⟨_,_,rfl⟩:=Si.1 W;obtain⟨_,_,rfl⟩:=Si.1 ar;exact gE
theorem afG(D:cV)(num:dp):(qu D num).length<=64:=dK (acS _ _) (by simp)
theorem aB_{D:cV}(ok:D.fL)(num:dp):ae7 D num (qu D num):=by
 refine⟨ZH D num,λx=> ?_⟩;rw[Uf];constructor
 ·grind
 ·rintro⟨o,J,T⟩;have av:o.val<64:=by
   have:=ok.lf num o _ T;simp only[hY,ot,qf]at this;exact this.2
  simp_all
def fk(D:cV):nW:=⟨λn=>D.aZ (Fin.ofNat _ n),λn=>D.wiped (Fin.ofNat _ n),λn=>qu D (Fin.ofNat _ n)⟩
theorem aoA(num:dp):(Fin.ofNat 65536 num.val:dp)=num:=Gg (by grind)
theorem afH{c:jt}{cL:eb->Nat}(dC:kG cL)(kind num:Nat):∀(C:List (Nat×List UInt8)) (t:eb) (cm:List (Nat×Pt)),gX cL t<=gX cL (nb (ms c) kind num C t cm).1+16*C.length/\(nb (ms c) kind num C t cm).2.1.length<=cm.length+C.length
 |[],t,cm=>⟨Cd _ _,c_ _⟩
 |(o,b)::C,t,cm=>by
  unfold nb;by_cases ab:b=[]
  ·rw[be ab];obtain⟨J,T⟩:=afH (c:=c) dC kind num C t (cm++[(o,ah)])
   grind
  ·rw[aQ ab];have bi:gX cL t<=gX cL ((ms c).nw t (lT kind num o) b).1+16:=TC dC c.n c.bf t (lT kind num o) b;split
   ·grind
   ·obtain⟨J,T⟩:=afH (c:=c) dC kind num C ((ms c).nw t (lT kind num o) b).1 (cm++[(o,((ms c).nw t (lT kind num o) b).2.1)])
    grind
section
variable {k m p o vE:Nat}{z:fV}{Cn:zE}{ep w w':M}{eB X bw:Nat->Prop}{base fZ:N}{D:cV}{t:eb}{O:Nat->Prop}{cL:eb->Nat}{c:jt}
theorem aoB(dC:kG cL)(e:sw ep eB)(hq:c.bf<18446744073709551616)(aq:c.n<=65536)(t:eb)(dd:Pt)(own:Option bF)(wiped:Bool)(C:List (Nat×List UInt8))(rb:C.length<=64)(num:Nat):gX cL t<=gX cL (na (ms c) dd own wiped C num t).1+6600:=by
 have aA:=JH (k:=0) (m:=0) (p:=0) (z:=⟨λ_=>0,0,λ_=>0⟩) dC e hq aq;have J:=ae3 aA.rd t dd num;have wM:=ae5 (iR c.n) t dd num;unfold na;have nB:(ms c).rd=iR c.n:=rfl;have zL:(ms c).nw=it c.n c.bf:=rfl;have Bj:(ms c).ca=lR c.n:=rfl;rw[nB,zL,Bj];obtain⟨⟨el,cX,aR⟩,fD⟩:∃y,kI (iR c.n) t dd num=y:=⟨_,rfl⟩;rw[fD]at J wM⊢;simp only at J wM⊢;split
 ·simp only;omega
 ·have T:gX cL el<=gX cL (if wiped=true\/own.getD cX=bp then uA (ms c) el cX.V else(el,(),0)).1+1312:=by
   split
   ·exact anJ dC e hq aq el cX.V wM.V
   ·exact Cd _ _
  obtain⟨⟨t3,jl,dB⟩,EY⟩:∃y,(if wiped=true\/own.getD cX=bp then uA (ms c) el cX.V else(el,(),0))=y:=⟨_,rfl⟩;rw[EY]at T⊢;simp only at T⊢;split
  ·simp only;omega
  ·split
   ·simp only;omega
   ·obtain⟨ag,aP⟩:=afH (c:=c) dC (own.getD cX).k num C t3 [];obtain⟨⟨t4,Jw,dl⟩,EZ⟩:∃y,nb (ms c) (own.getD cX).k num C t3 []=y:=⟨_,rfl⟩;rw[EZ]at ag aP⊢;simp only[OK]at ag aP⊢;split
    ·simp only;omega
    ·have bH:=aoC aA num t4 (if wiped=true then ah else cX.V) Jw;simp only;omega
theorem aoD(dC:kG cL)(e:sw ep eB)(hq:c.bf<18446744073709551616)(aq:c.n<=65536)(t:eb)(q:Pt)(l:List (Nat×bF)):gX cL t<=gX cL (rR (iR c.n) (it c.n c.bf) (lR c.n) t q l).1+8400:=by
 have aA:=JH (k:=0) (m:=0) (p:=0) (z:=⟨λ_=>0,0,λ_=>0⟩) dC e hq aq;have J:=aoE aA q l (lU l) t [];have T:=aoo l;have ag:=aoF (rd:=iR c.n) (nw:=it c.n c.bf) q l (lU l) t [];have aP:=aoC aA 0 (nf (iR c.n) (it c.n c.bf) q l (lU l) t []).1 q (nf (iR c.n) (it c.n c.bf) q l (lU l) t []).2.1;rw[OK]at ag;unfold rR
 grind
theorem hc.bf{n bf:Nat}(h:hc k m p n z bf ep eB t w O):w.cell? (bl k 2)=some (.int .u64 bf):=by
 obtain⟨a_,A,ey,J,_⟩:=h;exact aG J.blk 2
end
theorem aoG{D:cV}{xs ys:List dp}(J:ya D xs)(T:ya D ys):xs=ys:=by
 have key:∀{l nx:List dp},l.Pairwise (λx y=>x<y)->nx.Pairwise (λx y=>x<y)->(∀x,x∈l↔x∈nx)->l=nx:=by
  intro l
  induction l with
  |nil=>
   intro nx _ _ h
   cases nx with
   |nil=>rfl
   |cons y nx=>exact absurd ((h y).2 (by simp)) (by simp)
  |cons x l bL=>
   intro nx J T h
   cases nx with
   |nil=>grind
   |cons y nx=>
    rw[oW]at J T;have G':x=y:=by
     rcases io.1 ((h x).1 (by simp))with e|e
     ·exact e
     ·rcases io.1 ((h y).2 (by simp))with ek|ek
      ·exact ek.symm
      grind
    grind
 exact key J.1 T.1 λx=>(J.2 x).trans (T.2 x).symm
end Go.Proofs.YtoohkhcpboldjaaGreatDoor
