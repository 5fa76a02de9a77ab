/- A commit, whole. Conditions: the variables that are listed hold what the text lays; sizes. -/
import Derived.Test.YtoohkhcpboldjaaGreatDoorVwA
set_option maxRecDepth 100000
set_option maxHeartbeats 4000000
set_option linter.unusedSimpArgs false
set_option linter.unusedVariables false
namespace Go.Proofs.YtoohkhcpboldjaaGreatDoor
open Go.RowKit Go.Kin
abbrev vm:=Nat×List UInt8×List Nat
abbrev uq(a:vm):Prop:=Cp a.1 a.2.1 a.2.2
abbrev ol(a:vm):Array Value:=dd a.1 a.2.1 a.2.2
structure hK where
 s:ao
 cy:vm
def sp(n:Nat)(t:dy):ao:=(t.s.all n 1).vk n t.bI
def rz(c:hT)(x:hK)(st:e')(L:fM)(xs:List em):hK×e'×Int:=
 if xs=[]then(x,st,0)else
 let y:=lD (ms c) c.aT st.cO st.top (hJ L) (xs.map (·.val)) ⟨x.s,[],[]⟩
 if y.2.2≠0 then(⟨sp c.n y.1,x.cy⟩,st,y.2.2)else
 let f:=y.1.s.d_
 if f.2≠0 then(⟨sp c.n {y.1 with s:=f.1},x.cy⟩,st,f.2)else
 let e:=tk x.cy.1 c.aT f.1.P.off f.1.P.dq;let s':ao:={f.1 with P:=if c.aT<=x.cy.1 then f.1.P else f.1.P.step}
 if e≠0 then(⟨sp c.n {y.1 with s:=s'},x.cy⟩,st,e)else
 (⟨s'.all c.n 0,(c.aT,y.2.1.1.h,y.2.1.1.a)⟩,⟨c.aT,y.2.1.1,y.2.1.2⟩,0)
def lc(m p n bF:Nat)(z:fe)(x:hK):h_:=λw O=>∃aL ag,eg w m p n z x.s aL ag/\qN w bF p (ii x.cy.1 x.cy.2.1 x.cy.2.2)/\¬fR z m p aL ag bF/\(∀j,fR z m p aL ag j->O j)/\O bF/\∀j,O j->j<w.1.size
section
variable{m p n bF k:Nat}{z:fe}{x:hK}{w w':World}{O S:Nat->Prop}{aL ed:Value}{ag:Nat->Nat->Prop}{s:ao}
theorem lc.ok(m p n bF:Nat)(z:fe)(x:hK):kk (lc m p n bF z x):=by
 refine⟨?_,?_,?_⟩
 ·rintro w O ⟨aL,ag,H,I,af,aU,bC,cG⟩;exact cG
 ·rintro w w' O S ⟨aL,ag,H,I,af,aU,bC,cG⟩ T cf;exact⟨aL,ag,H.ch T λj F=>cf j (aU j F),T.obj I (cf bF bC),af,aU,bC,λj F=>Nat.lt_of_lt_of_le (cG j F) T.size⟩
 ·rintro w O O' ⟨aL,ag,H,I,af,aU,bC,cG⟩ h h';exact⟨aL,ag,H,I,af,λj F=>h j (aU j F),h bF bC,h'⟩
theorem eg.ate(h:eg w m p n z s aL ag)(T:D S w w')(cf:∀j,fR z m p aL ag j->j≠p->¬S j){P':ek}(ah:rl w' p P'):eg w' m p n z {s with P:=P'} aL ag:=by
 have M:∀k,zH z m aL k->¬S k:=λk r=>cf k (.inl r) (h.md k r).2.2;have hm:∀i,i<2->∀k,ag i k->¬S k:=λi aa k r=>cf k (by
  rcases jo aa with rfl|rfl
  ·exact .inr (.inl r)
  ·exact .inr (.inr (.inl r))) λe=>(h.jv i aa).zI (by rw[<-e];exact r)
 refine⟨T.obj h.blk (M _ (.inl rfl)),λi aa=>⟨(h.jv i aa).au.ch T (hm i aa),ah,(h.jv i aa).zI⟩,T.obj h.b_ (M _ (.inr (.inl rfl))),λi aa=>T.obj (h.pl i aa) (M _ ?_),ej h.wt T λk r=>M _ (.inr (.inr (.inr (.inr r)))),h.nD,h.Bu,h.ne,h.md,h.iP⟩;rcases jo aa with rfl|rfl
 ·exact .inr (.inr (.inl rfl))
 ·exact .inr (.inr (.inr (.inl rfl)))
theorem km.atf{aT:Nat}{t:dy}{s':ao}(h:km w k m p n z aT t aL ag ed)(H:j' w' m p n z s' (ax (fR z m p aL ag) w w'))(T:D (fR z m p aL ag) w w'):∃jb gh,km w' k m p n z aT ⟨s',t.bI,t.fL⟩ jb gh ed/\∀j,nh k m p z jb gh ed j->ax (nh k m p z aL ag ed) w w' j:=by
 obtain⟨jb,gh,gM,gN,iO⟩:=H;have AG:k<w.1.size:=lt_of_block h.blk;refine⟨jb,gh,⟨gM,T.obj h.blk h.ni,ej h.fc T λj F x=>(h.iP j F).1 x,h.nD,λx=> ?_,λj F=>⟨λx=> ?_,(h.iP j F).2⟩⟩,λj F=> ?_⟩
 ·rcases gN _ x with x|x
  ·exact h.ni x
  ·omega
 ·have i':=oJ h.fc j F;rcases gN _ x with x|x
  ·exact(h.iP j F).1 x
  ·omega
 ·rcases F with F|F
  ·exact(gN j F).imp .inl id
  ·exact .inl (.inr F)
theorem D.nI{S B:Nat->Prop}(h:D S w w')(eR:∀k,B k->w'.1[k]? =w.1[k]?):D (λk=>S k/\¬B k) w w':=
 ⟨h.os,h.tape,h.output,h.size,λk r av=>by
  by_cases V:B k
  ·exact eR k V
  ·exact h.block k r λe=>av ⟨e,V⟩⟩
theorem ahj{ee:World}{es:Nat->Prop}{cp:dy->Nat}{c:hT}(ds:jM cp)(e:rs ee es)(gy:c.aT<18446744073709551616)(av:c.n<=65536)(cO:Pt)(C:no)(xG:∀n,(C.ch n).length<=64):∀(l:List Nat) (t:dy) (b':List (Nat×br)),f_ cp t<=f_ cp (qL (ms c) cO C l t b').1+6600*l.length
 |[],t,b'=>Nat.le_refl _
 |n::l,t,b'=>by
  have bf:=agP ds e gy av t cO (C.own n) (C.wiped n) (C.ch n) (xG n) n;unfold qL;rw[List.length_cons];split
  ·simp only;omega
  ·have H:=ahj ds e gy av cO C xG l (lV (ms c) cO (C.own n) (C.wiped n) (C.ch n) n t).1 (b'++[(lV (ms c) cO (C.own n) (C.wiped n) (C.ch n) n t).2.1]);omega
theorem atg{ee:World}{es:Nat->Prop}{cp:dy->Nat}{c:hT}(ds:jM cp)(e:rs ee es)(gy:c.aT<18446744073709551616)(av:c.n<=65536)(cO top:Pt)(C:no)(xG:∀n,(C.ch n).length<=64)(l:List Nat)(t:dy)(g:Nat):f_ cp t<=f_ cp (lD (ms c) g cO top C l t).1+(6600*l.length+8500):=by
 have bf:=ahj ds e gy av cO C xG l t [];unfold lD;have tL:(ms c).rd=hH c.n:=rfl;have wk:(ms c).nw=hg c.n c.aT:=rfl;have xD:(ms c).bM=kK c.n:=rfl;rw[tL,wk,xD];obtain⟨⟨t1,lm,aK⟩,ff⟩:∃y,qL (ms c) cO C l t []=y:=⟨_,rfl⟩;rw[ff]at bf⊢;simp only at bf⊢;split
 ·simp only;omega
 ·have H:=agR ds e gy av t1 cO lm;obtain⟨⟨dK,vK,aW⟩,kp⟩:∃y,pZ (hH c.n) (hg c.n c.aT) (kK c.n) t1 cO lm=y:=⟨_,rfl⟩;rw[kp]at H⊢;simp only at H⊢;split
  ·simp only;omega
  ·have I:=Sh ds c.n dK top;have af:=Nc ds c.n c.aT (kK c.n dK top) tj (nH (g,vK))
   grind
theorem Fh(ck:hj w)(fd:ja w)(fo:qs w):∀j,jl j->j<w.1.size:=by
 rintro j ((rfl|rfl)|rfl|rfl)
 ·exact World.block_lt_of_cell? w _ (ck.qt 0 _ rfl)
 ·obtain⟨cs,bl,fr,ey,_⟩:=ck.mx;exact lt_of_block ey
 ·exact World.block_lt_of_cell? w _ (fd 0 (by decide))
 ·exact World.block_lt_of_cell? w _ (fo 0 _ rfl)
end
section
variable{m p o s_ bF:Nat}{z:fe}{Ba:xF}{w w':World}{X bo:Nat->Prop}{base hI:Value}{L:fM}{O:Nat->Prop}{cp:dy->Nat}{c:hT}{x:hK}
theorem ath(ds:jM cp)(ck:hj w)(fd:ja w)(fo:qs w)(av:c.n<=65536)(h:lc m p c.n bF z x w O)(iw:∀j,jl j->¬O j)(st:e')(ok:gV st)(me:uq x.cy)(gy:c.aT=st.gen+1)(ia:st.gen+1<18446744073709551616)
  (aB:po w o base hI s_ L X bo Ba)(CW:∀j,X j\/bo j->¬O j/\¬jl j)(dS:L.nB)(Bb:s_<=30000)(Hz:∀a o b,L.lf (a,o)=some b->b=[]\/b.length=512)
  (xs:List em)(eU:Hv L xs)(lr:xs.length<=90)(aH:640000<=f_ cp ⟨x.s,[],[]⟩):
  aP Tryz.prog 21 #[.pointer (some ⟨m,0,none⟩),.pointer (some ⟨z.b_,0,none⟩),.pointer (some ⟨bF,0,none⟩),.agg (cz st),.pointer (some ⟨o,0,none⟩)] w λW w'=>
   W=.tuple #[.agg (cz (rz c x st L xs).2.1),.int .i64 (rz c x st L xs).2.2]/\gV (rz c x st L xs).2.1/\lc m p c.n bF z (rz c x st L xs).1 w' (ax O w w')/\D O w w':=by
 refine ao5 Tryz.func21 Tryz.ntmps21 rfl (by simp) λaZ Z=> ?_;have mE:=iQ ok;have lw:=zr ok;have dN:=iQ kR;have al:=(lc.ok m p c.n bF z x).lt h;obtain⟨aL,ag,hh,xG,JO,Tc,eV,_⟩:=id h;obtain⟨ab,de,bj,ba,cC,cm,gd,aY⟩:=agt w (.cells #[.pointer (some ⟨z.b_,0,none⟩)] 35) (.cells (cz st) 46) (.cells (cz dO) 46) (.cells #[.int .i64 0] 50);obtain⟨g,aF⟩:=az (w.1.size);rw[aF]at bj ba cC cm gd;have ati:=aG bj 0;simp[go_sem,AI,mE,lw,Hx,Hy,de,aF,ati];obtain⟨ti,ahk⟩:=az (g+1);obtain⟨go,iD⟩:=az (ti+1);obtain⟨fx,nJ⟩:=az (go+1);rw[ahk]at ba;rw[show g+2=go by omega]at cC;rw[show g+3=fx by omega]at cm;simp only[ahk,iD,nJ];have H:=(lc.ok m p c.n bF z x).ch h aY λ_ _ e=>e;have qB:=aB.ch aY (λ_ _ e=>e) λ_ _ e=>e;have eG:∀j,O j->j<g:=λj F=>by have:=al j F;omega
 obtain⟨nC,lA⟩:=az (rz c x st L xs);rw[lA]at Z;refine(ag' qB dS Bb).mono ?_;rintro hb ai ⟨il,YZ,pn,aA,NF⟩;have Y_:=agU YZ eU;subst Y_;have cI:=pn.len Tryz.underlying30 3;have cw:=aA.size;have jd:=aA.obj bj id;have i_:=aA.obj ba id;have Bv:=aA.obj cC id;have NX:=aA.obj cm id;have I:=(lc.ok m p c.n bF z x).ch H aA λ_ _ e=>e;simp[go_sem,AI,cI];have bL:∀{u:World} {y:hK} {fT:e'} {dM:Int} {Q:Nat->Prop},nC=(y,fT,dM)->gV fT->lc m p c.n bF z y u Q->(∀j,Q j->ax O ab u j)->D O w u->ab.1.size<=u.1.size->aZ (.tuple #[.agg (cz fT),.int .i64 dM]) u:=λ{u y fT dM Q} T zF aD eP aJ aw=>by
  subst T;exact Z _ _ ⟨rfl,zF,(lc.ok _ _ _ _ _ _).ex aD (λj F=>(eP j F).imp id λe=>⟨by omega,by omega⟩) (ax.lt al (by omega)),aJ⟩
 clear Z;by_cases iT:il=[]
 ·subst iT;have ap:nC=(x,st,0):=by rw[<-lA];unfold rz;rw[if_pos rfl]
  have ve:=(D.refl (aj go) ai).setRow (g:=go) (.inl rfl) (cz st);have NN:(ai.setRow go (cz st)).1[go]? =some (.cells (cz st) 46 (0,0)):=by rw[gk,Bv];rfl
  have NY:=ve.obj NX λe=>by simp only[aj]at e;omega
  have af3:=ve.size;obtain⟨aC,hk⟩:=az (ai.setRow go (cz st));rw[hk]at ve NN NY af3;have ahl:=aG NY 0;have atj:=dD NY 0;have Dp:=(D.refl (aj fx) aC).setCell (p:=⟨fx,0,none⟩) (.inl rfl) (.int .i64 0);have ahm:=Dp.obj NN λe=>by simp only[aj]at e;omega
  have ahn:(aC.setCell ⟨fx,0,none⟩ (.int .i64 0)).cell? ⟨fx,0,none⟩=some (.int .i64 0):=World.cell?_setCell_same _ _ _ ahl;have hv:=Dp.size;obtain⟨be,mb⟩:=az (aC.setCell ⟨fx,0,none⟩ (.int .i64 0));rw[mb]at Dp ahm ahn hv;simp[go_sem,AI,i_,Bv,mE,lw,dN,qK,bQ,hk,ahl,atj,mb,ahm,ahn];have kn:D (λj=>j=go\/j=fx) ai be:=(ve.mono λ_ _ e=>.inl e).trans (Dp.mono λ_ _ e=>.inr e);refine bL ap ok ((lc.ok m p c.n bF z x).ch I kn λj F e=>by have:=eG j F;omega) (λj F=>.inl F) (((aY.trans aA).mono λ_ _ e=>e.elim).bJ kn λj F e=>by omega) (by omega)
 ·have SD:¬il.length=0:=λe=>iT (List.eq_nil_of_length_eq_zero e);have atk:((il.length:Int)==0)=false:=beq_false_of_ne (by omega);have atl:ai.cell? ⟨ti,0,none⟩=some (.int .u64 st.gen):=(aG i_ 0).trans (by simp[cz,Array.getElem?_append]);have SM:=aG jd 0;have atm:IntKind.u64.wrap ((st.gen:Int)+1)=((st.gen+1:Nat):Int):=by rw[IntKind.wrap_u64];omega
  simp[go_sem,AI,SD,atk,atl,SM,atm,iT];have atn:(#[.pointer (some ⟨m,0,none⟩),.pointer (some ⟨z.b_,0,none⟩),.int .u64 ((st.gen:Int)+1),.slice none 0 0]:Array Value)=CR m z c.aT (.slice none 0 0):=by simp[CR,gy]
  rw[atn];have aE:=((D.refl ak ai).alloc (.cells (CR m z c.aT (.slice none 0 0)) 163)).alloc (.cells #[.pointer (some ⟨ai.1.size,0,none⟩)] 161);have SB:=oa ai (.cells (CR m z c.aT (.slice none 0 0)) 163) (.cells #[.pointer (some ⟨ai.1.size,0,none⟩)] 161);have NZ:=ny ai (.cells (CR m z c.aT (.slice none 0 0)) 163) (.cells #[.pointer (some ⟨ai.1.size,0,none⟩)] 161);have gL:((ai.alloc (.cells (CR m z c.aT (.slice none 0 0)) 163)).alloc (.cells #[.pointer (some ⟨ai.1.size,0,none⟩)] 161)).1.size=ai.1.size+2:=by simp
  obtain⟨aC,hk⟩:=az ((ai.alloc (.cells (CR m z c.aT (.slice none 0 0)) 163)).alloc (.cells #[.pointer (some ⟨ai.1.size,0,none⟩)] 161));rw[hk]at aE SB NZ gL⊢;clear hk;obtain⟨qO,aho⟩:=az (ai.1.size);obtain⟨qJ,sq⟩:=az (qO+1);rw[aho]at SB NZ gL⊢;rw[sq]at NZ⊢;rw[ao4 (h:=by simp[AI])];simp[go_sem];refine ao2 _ _ _ _ _ _ _ _ _ _ _ _ {target:=.fn (.func 65) #[.pointer (some ⟨fx,0,none⟩),.pointer (some ⟨g,0,none⟩),.pointer (some ⟨ti,0,none⟩),.pointer (some ⟨go,0,none⟩),.pointer (some ⟨qJ,0,none⟩)],args:=#[]} (by simp[go_sem]) ?_;have lq:=(aA.trans aE);have si:=aE.obj jd id;have iL:=aE.obj i_ id;have wh:=aE.obj Bv id;have Zk:=aE.obj NX id;have Nj:=qB.ch lq (λ_ _ e=>e) λ_ _ e=>e;have iU:D ak w aC:=aY.trans lq;have XI:=hh.ch iU λ_ _ e=>e;have ato:qN aC bF p (ii x.cy.1 x.cy.2.1 x.cy.2.2):=iU.obj xG id;have ka:=ck.ch iU λ_ _ e=>e;have atp:=fd.ch iU λe=>e;have atq:=fo.ch iU λe=>e;have aHJ:=Fh ck fd fo;have atr:∀j,fR z m p aL ag j->j<g:=λj F=>eG j (Tc j F);have ahp:rs aC jl:=⟨ka,atp,atq,λ_ h=>h⟩;obtain⟨mK,HG⟩:∃mK:Nat->Prop,mK=λj=>fR z m p aL ag j\/j=qO\/jl j:=⟨_,rfl⟩;have ats:km aC qO m p c.n z c.aT ⟨x.s,[],[]⟩ aL ag (.slice none 0 0):=⟨XI,SB,World.ownsRow_nil _ _ _ _,by simp,λe=>by have:=atr _ e;omega,by simp[Value.ownBlock]⟩;have Zl:ga qO m p c.n z c.aT aC jl ⟨x.s,[],[]⟩ aC mK:=by
   refine⟨aL,ag,.slice none 0 0,ats,λj F=> ?_,λj F=>⟨by rw[HG];exact .inr (.inr F),rfl⟩,λj F=> ?_⟩
   ·rw[HG];rcases F with F|rfl|F
    ·grind
    ·grind
    ·simp[Value.ownBlock]at F
   ·grind
  have Zm:∀j,mK j->j<g\/j=qO:=λj F=>by
   grind
  have att:∀j,X j\/bo j->¬mK j:=λj F e=>by
   have:=aB.lt j F
   grind
  have atu:=aG NZ 0;simp[go_sem,atu,iL,mE,lw];have Td:¬mK bF:=λe=>by
   grind
  have aHK:=eG bF eV;have Te:∀{u:World} {er:dy} {Q:Nat->Prop} {E:Int} {out:e'} {an':vm},ga qO m p c.n z c.aT aC jl er u Q->(∀j,Q j->ax mK aC u j)->D (λj=>mK j\/j=go\/j=fx\/j=bF) aC u->
    u.1[g]? =some (.cells #[.pointer (some ⟨z.b_,0,none⟩)] 35 (0,0))->u.1[ti]? =some (.cells (cz st) 46 (0,0))->u.1[go]? =some (.cells (cz out) 46 (0,0))->u.1[fx]? =some (.cells #[.int .i64 E] 50 (0,0))->u.1[qJ]? =some (.cells #[.pointer (some ⟨qO,0,none⟩)] 161 (0,0))->
    qN u bF p (ii an'.1 an'.2.1 an'.2.2)->gV out->(E=0->nC=(⟨er.s.all c.n 0,an'⟩,out,0))->(E≠0->nC=(⟨sp c.n er,an'⟩,st,E))->
    CA Tryz.prog {target:=.fn (.func 65) #[.pointer (some ⟨fx,0,none⟩),.pointer (some ⟨g,0,none⟩),.pointer (some ⟨ti,0,none⟩),.pointer (some ⟨go,0,none⟩),.pointer (some ⟨qJ,0,none⟩)],args:=#[]} u λw=>Kq Tryz.prog 46 w (N_ Tryz.prog 50 (.pointer (some ⟨fx,0,none⟩)) aZ w) go 0 w.1[go]? :=by
   intro u er Q E out an' aD eP aJ atv atw ahq Zn atx Tf N' tl Kr;obtain⟨jb,gh,CL,gM,gN,iO,pj⟩:=aD;have He:=aJ.size;have aty:∀j,Q j->(j<g\/j=qO)\/aC.1.size<=j:=λj F=>(eP j F).imp (Zm j) λe=>e.1;have Oa:¬Q bF:=λe=>(eP bF e).elim Td λe=>by omega
   have Be:∀j,(j=fx\/j=g\/j=ti\/j=go\/j=qJ)->¬Q j:=λj F e=>by have:=aty j e;omega
   have Tg:∀j,jc z j->Q j:=λj F=>(gN j (.inl (sc z m p jb gh j F))).1;have kr:=D.nI (B:=jl) aJ λj F=>(iO j F).2;have zJ:∀{cS:World} {s':ao} {fT:e'} {dM:Int},nC=(⟨s',an'⟩,fT,dM)->gV fT->eg cS m p c.n z s' jb gh->D (λj=>jc z j\/j=go) u cS->aZ (.tuple #[.agg (cz fT),.int .i64 dM]) cS:=λ{cS s' fT dM} ap gg EN Bw=>by
    have aHL:=Bw.size;refine bL (Q:=λj=>fR z m p jb gh j\/j=bF) ap gg ⟨jb,gh,EN,Bw.obj Tf λe=>e.elim (λe=>Oa (Tg _ e)) λe=>by omega,λe=>Oa (gN _ (.inl e)).1,λj F=>.inl F,.inr rfl,λj F=> ?_⟩ (λj F=> ?_) ?_ (by omega)
    ·rcases F with F|rfl
     ·exact EN.gK j F
     ·omega
    ·rcases F with F|rfl
     ·obtain⟨a',aX⟩:=gN j (.inl F);rcases eP j a' with e|e
      ·rw[HG]at e;rcases e with e|rfl|e
       ·exact .inl (Tc j e)
       ·exact .inr ⟨by omega,by omega⟩
       ·exact absurd e aX
      ·exact .inr ⟨by omega,by omega⟩
     ·exact .inl eV
    ·refine((iU.mono λ_ _ e=>e.elim).bJ kr λj F e=> ?_).bJ Bw λj F e=> ?_
     ·obtain⟨e,aW⟩:=e;rw[HG]at e;rcases e with(e|e|e)|e|e|e
      ·exact Tc j e
      ·omega
      ·exact absurd e aW
      ·omega
      ·omega
      ·rw[e];exact eV
     ·rcases e with e|e
      ·obtain⟨a',aX⟩:=gN j (.inl (sc z m p jb gh j e));rcases eP j a' with e|e
       ·rw[HG]at e;rcases e with e|e|e
        ·exact Tc j e
        ·omega
        ·exact absurd e aX
       ·omega
      ·omega
   refine CA.intro (by simp[go_sem]) (ao9.ao_ (asL gM av ok (iQ N') Zn atv atw ahq atx (λj F e=>Be j F (gN j e).1) ⟨by omega,by omega,by omega,by omega⟩) λw' gi=> ?_);obtain⟨a',aX⟩:=gi;by_cases bf:E=0
   ·obtain⟨EN,Bw⟩:=a' bf;have Zo:=Bw.obj ahq λe=>Be go (by simp) (Tg _ e);have Zp:=Bw.obj Zn λe=>Be fx (by simp) (Tg _ e);have Dp:=aG Zp 0;have Dq:=iQ N';have Ob:=zr N';have f:=zJ (tl bf) N' EN.nE (Bw.mono λ_ _ e=>.inl e);rw[bf]at Dp;simp[go_sem,Zo,Dp,Dq,Ob];exact f
   ·obtain⟨EN,Zo,Bw⟩:=aX bf;have Zp:=Bw.obj Zn λe=>e.elim (λe=>Be fx (by simp) (Tg _ e)) λe=>by omega
    have Dp:=aG Zp 0;have f:=zJ (Kr bf) ok EN.nE Bw;simp[go_sem,Zo,Dp,mE,lw];exact f
  clear bL;have fa:nC=let y:=lD (ms c) c.aT st.cO st.top (hJ L) (il.map (·.val)) ⟨x.s,[],[]⟩
   if y.2.2≠0 then(⟨sp c.n y.1,x.cy⟩,st,y.2.2)else
   let f:=y.1.s.d_
   if f.2≠0 then(⟨sp c.n {y.1 with s:=f.1},x.cy⟩,st,f.2)else
   let e:=tk x.cy.1 c.aT f.1.P.off f.1.P.dq;let s':ao:={f.1 with P:=if c.aT<=x.cy.1 then f.1.P else f.1.P.step}
   if e≠0 then(⟨sp c.n {y.1 with s:=s'},x.cy⟩,st,e)else
   (⟨s'.all c.n 0,(c.aT,y.2.1.1.h,y.2.1.1.a)⟩,⟨c.aT,y.2.1.1,y.2.1.2⟩,0):=by
   rw[<-lA];unfold rz;rw[if_neg iT]
  have nX:=atg ds ahp (by omega) av st.cO st.top (hJ L) (λn=>YO L _) (il.map (·.val)) ⟨x.s,[],[]⟩ c.aT;rw[List.length_map]at nX;refine(asZ ds ahp (by omega) av Zl st ok Nj att dS Bb Hz il eU (by omega) (by omega)).mono ?_;obtain⟨⟨t4,⟨rA,Fi⟩,cW⟩,kp⟩:∃y,lD (ms c) c.aT st.cO st.top (hJ L) (il.map (·.val)) ⟨x.s,[],[]⟩=y:=⟨_,rfl⟩;rw[kp]at fa nX⊢;simp only at fa nX;rintro _ be ⟨rfl,ur,aU,bv⟩;simp only at ur aU⊢;obtain⟨Oc,ahr⟩:=az (Dg c.aT st ((rA,Fi),cW));rw[ahr]at ur⊢;have hv:=bv.size;have Od:=iQ ur;have Zq:=zr ur;have Ks:∀j,g<=j/\j<qO\/j=qJ->¬mK j:=λj F e=>by have:=Zm j e;omega
  have oQ:=bv.obj si (Ks g (by omega));have lU:=bv.obj iL (Ks ti (by omega));have HH:=bv.obj wh (Ks go (by omega));have xW:=bv.obj Zk (Ks fx (by omega));have atz:=bv.obj NZ (Ks qJ (by omega));have atA:qN be bF p (ii x.cy.1 x.cy.2.1 x.cy.2.2):=bv.obj ato Td;have bx:=(D.refl (aj go) be).setRow (g:=go) (.inl rfl) (cz Oc);have Nl:(be.setRow go (cz Oc)).1[go]? =some (.cells (cz Oc) 46 (0,0)):=by rw[gk,HH];rfl
  have Fj:=bx.obj xW λe=>by simp only[aj]at e;omega
  have j_:=bx.size;obtain⟨bw,mz⟩:=az (be.setRow go (cz Oc));rw[mz]at bx Nl Fj j_;have atB:=aG Fj 0;have atC:=dD Fj 0;have co:=(D.refl (aj fx) bw).setCell (p:=⟨fx,0,none⟩) (.inl rfl) (.int .i64 cW);have Oe:=co.obj Nl λe=>by simp only[aj]at e;omega
  have Fk:(bw.setCell ⟨fx,0,none⟩ (.int .i64 cW)).1[fx]? =some (.cells #[.int .i64 cW] 50 (0,0)):=by rw[eY,Fj];rfl
  have oh:=co.size;obtain⟨cd,pr⟩:=az (bw.setCell ⟨fx,0,none⟩ (.int .i64 cW));rw[pr]at co Oe Fk oh;have atD:=aG Fk 0;have aHM:=dD Fk 0;simp[go_sem,HH,Od,dN,qK,bQ,mz,atB,atC,pr,atD];have qy:D (λj=>j=go\/j=fx) be cd:=(bx.mono λ_ _ e=>.inl e).trans (co.mono λ_ _ e=>.inr e);have aN:=ga.ok qO m p c.n z c.aT aC jl;have ws:∀j,g<=j/\j<qO\/j=qJ->¬ax mK aC be j:=λj F e=>e.elim (Ks j F) λe=>by omega
  have cG:=(aN t4).ch aU qy λj F e=>ws j (by omega) F;have Bx:=qy.obj oQ λe=>by omega
  have qC:=qy.obj lU λe=>by omega
  have ahs:=qy.obj atz λe=>by omega
  have aht:qN cd bF p (ii x.cy.1 x.cy.2.1 x.cy.2.2):=qy.obj atA λe=>by omega
  have ahu:D (λj=>mK j\/j=go\/j=fx\/j=bF) aC cd:=(bv.mono λ_ _ e=>.inl e).trans (qy.mono λ_ _ e=>.inr (e.imp id .inl));have Th:∀{u:World} {out:e'} {E:Int},gV out->u.1[go]? =some (.cells (cz out) 46 (0,0))->u.1[fx]? =some (.cells #[.int .i64 E] 50 (0,0))->∃mI fz fw,u.drew=mI/\mI.setRow go (cz out)=fz/\fz.setCell ⟨fx,0,none⟩ (.int .i64 E)=fw/\
    mI.1[go]? =some (.cells (cz out) 46 (0,0))/\mI.cell? ⟨fx,0,none⟩=some (.int .i64 E)/\fz.cell? ⟨fx,0,none⟩=some (.int .i64 E)/\fz.frozen? ⟨fx,0,none⟩=false/\fw.1[go]? =some (.cells (cz out) 46 (0,0))/\fw.1[fx]? =some (.cells #[.int .i64 E] 50 (0,0))/\D (λj=>j=go\/j=fx) u fw:=by
   intro u out E N' aB aV;have pd:=(D.refl ak u).drew;obtain⟨mI,ru⟩:=az (u.drew);rw[ru]at pd;have xX:=pd.obj aB id;have cR:=pd.obj aV id;have a':=(D.refl (aj go) mI).setRow (g:=go) (.inl rfl) (cz out);have om:(mI.setRow go (cz out)).1[go]? =some (.cells (cz out) 46 (0,0)):=by rw[gk,xX];rfl
   have aK:=a'.obj cR λe=>by simp only[aj]at e;omega
   obtain⟨fz,sZ⟩:=az (mI.setRow go (cz out));rw[sZ]at a' om aK;have aX:=(D.refl (aj fx) fz).setCell (p:=⟨fx,0,none⟩) (.inl rfl) (.int .i64 E);have hL:=aX.obj om λe=>by simp only[aj]at e;omega
   have aW:(fz.setCell ⟨fx,0,none⟩ (.int .i64 E)).1[fx]? =some (.cells #[.int .i64 E] 50 (0,0)):=by rw[eY,aK];rfl
   exact⟨mI,fz,_,ru,sZ,rfl,xX,aG cR 0,aG aK 0,dD aK 0,hL,aW,((pd.mono λ_ _ e=>e.elim).trans (a'.mono λ_ _ e=>.inl e)).trans (aX.mono λ_ _ e=>.inr e)⟩
  by_cases Dj:cW=0
  case neg=>
   have jR:(cW !=0)=true:=by simpa using Dj
   rw[if_pos Dj]at fa;simp[go_sem,jR];refine cD [A 0,A 1,(2,some [1]),(3,some [])] ?_;obtain⟨mI,fz,fw,ru,sZ,uX,xX,fC,ig,ip,hL,aW,fK⟩:=Th ur Oe Fk;rw[ru];simp[go_sem,xX,fC,ig,ip,Od,Zq,qK,bQ,sZ,uX];have Zr:=ahu.trans (fK.mono λ_ _ e=>.inr (e.imp id .inl));exact Te ((aN t4).ch cG fK λj F e=>ws j (by omega) F) (λj F=>F.imp id λe=>⟨e.1,by have:=fK.size;omega⟩) Zr (fK.obj Bx λe=>by omega) (fK.obj qC λe=>by omega) hL aW (fK.obj ahs λe=>by omega) (fK.obj aht λe=>by omega) ur (λe=>absurd e Dj) λ_=>fa
  subst Dj;have ahv:((0:Int)!=0)=false:=by decide
  rw[if_neg (by simp)]at fa;simp[go_sem,ahv];obtain⟨a_,bh,bV⟩:=Nb ds (show 16<=f_ cp t4 by omega);obtain⟨atE,atF,aHN,gM,gN,iO,pj⟩:=id cG;refine(atG ⟨atE,atF,gM.nE,λ_ e=>e,gM.nE.gK⟩ a_ (by omega)).mono ?_;rintro _ cF ⟨rfl,atH,dz⟩;obtain⟨aHO,Zs,atI,atJ⟩:=gM.atf atH dz;obtain⟨eD,Fl⟩:=ga.step gM gN iO pj atI atJ dz λj F=>.inl F;obtain⟨⟨hn,hi⟩,gJ⟩:∃y,t4.s.d_=y:=⟨_,rfl⟩;rw[gJ]at fa eD;simp only[gJ]at fa eD⊢;have Ti:=Fl.size;have atK:=Fl.obj Bx (ws g (by omega));have Zt:=Fl.obj qC (ws ti (by omega));have atL:=Fl.obj Oe (ws go (by omega));have Zu:=Fl.obj Fk (ws fx (by omega));have atM:=Fl.obj ahs (ws qJ (by omega));have atN:qN cF bF p (ii x.cy.1 x.cy.2.1 x.cy.2.2):=Fl.obj aht λe=>e.elim Td λe=>by omega
  have atO:=aG Zu 0;have atP:=dD Zu 0;have ev:=(D.refl (aj fx) cF).setCell (p:=⟨fx,0,none⟩) (.inl rfl) (.int .i64 hi);have Tj:(cF.setCell ⟨fx,0,none⟩ (.int .i64 hi)).1[fx]? =some (.cells #[.int .i64 hi] 50 (0,0)):=by rw[eY,Zu];rfl
  have Nn:=ev.size;obtain⟨eA,EO⟩:=az (cF.setCell ⟨fx,0,none⟩ (.int .i64 hi));rw[EO]at ev Tj Nn;have zK:∀j,j≠fx->¬aj fx j:=λj F e=>F e;have ahw:=ev.obj atK (zK g (by omega));have xI:=ev.obj Zt (zK ti (by omega));have ahx:=ev.obj atL (zK go (by omega));have ahy:=ev.obj atM (zK qJ (by omega));have ahz:qN eA bF p (ii x.cy.1 x.cy.2.1 x.cy.2.2):=ev.obj atN (zK bF (by omega));have atQ:=aG Tj 0;have Zv:∀j,g<=j/\j<qO\/j=qJ->¬ax (ax mK aC be) cd cF j:=λj F e=>e.elim (ws j F) λe=>by omega
  have eb:=(aN _).ch eD ev λj F e=>Zv j (by simp only[aj]at e;omega) F;have Of:∀j,ax (ax mK aC be) cd cF j->ax mK aC eA j:=λj F=>by
   rcases F with(F|F)|F
   ·exact .inl F
   ·exact .inr ⟨F.1,by omega⟩
   ·exact .inr ⟨by omega,by omega⟩
  have Jf:D (λj=>mK j\/j=go\/j=fx\/j=bF) aC eA:=(ahu.bJ Fl λj F e=>.inl (e.elim id λe=>by omega)).trans (ev.mono λ_ _ e=>.inr (.inr (.inl e)));simp[go_sem,atO,atP,EO,atQ];by_cases px:hi=0
  case neg=>
   have jR:(hi !=0)=true:=by simpa using px
   rw[if_pos px]at fa;simp[go_sem,jR];refine cD [A 0,A 1,(2,some [1]),(3,some [])] ?_;obtain⟨mI,fz,fw,ru,sZ,uX,xX,fC,ig,ip,hL,aW,fK⟩:=Th ur ahx Tj;rw[ru];simp[go_sem,xX,fC,ig,ip,Od,Zq,qK,bQ,sZ,uX];have Zr:=Jf.trans (fK.mono λ_ _ e=>.inr (e.imp id .inl));exact Te ((aN _).ch eb fK λj F e=>Zv j (by omega) F) (λj F=>(Of j F).imp id λe=>⟨e.1,by have:=fK.size;omega⟩) Zr (fK.obj ahw λe=>by omega) (fK.obj xI λe=>by omega) hL aW (fK.obj ahy λe=>by omega) (fK.obj ahz λe=>by omega) ur (λe=>absurd e px) λ_=>fa
  subst px;rw[if_neg (by simp)]at fa;simp[go_sem,ahv];refine cD [A 0,A 1,A 2,A 3,A 4,A 5,A 6,A 7,A 8,A 9,A 10,(11,some [0]),(12,some []),(13,some [])] ?_;have dU:=(D.refl ak eA).drew;obtain⟨hU,pm⟩:=az (eA.drew);have jv:hU.1.size=eA.1.size:=by rw[<-pm];rfl
  rw[pm]at dU⊢;clear pm;have bi:=(aN _).ch eb dU λ_ _ e=>e;have Fe:=dU.obj ahw id;have pX:=dU.obj xI id;have Tk:=dU.obj ahx id;have Zw:=dU.obj Tj id;have atS:=dU.obj ahy id;have atT:qN hU bF p (ii x.cy.1 x.cy.2.1 x.cy.2.2):=dU.obj ahz id;have HA:Oc=⟨c.aT,rA,Fi⟩:=by rw[<-ahr];exact if_pos rfl
  subst HA;have Fm:=ur.top;have atU:hU.cell? ⟨go,0,none⟩=some (.int .u64 c.aT):=(aG Tk 0).trans (by simp[cz,Array.getElem?_append]);have lF:=YX ur;obtain⟨a0,a1,a2,a3,am,aHP,aHQ,aHR,aHS⟩:=a4 Fm;have kz:∀(i a:Nat),i<4->rA.a[i]? =some a->hU.cell? ⟨go,38+i,none⟩=some (.int .u16 a):=λi a aa h=>by
   rw[aG Tk];have H:=lO Fm h;rw[<-lF,Array.getElem?_extract,if_pos (by omega)]at H
   grind
  have gq:hU.cell? ⟨go,38,none⟩=some (.int .u16 a0):=kz 0 a0 (by omega) (by rw[am];rfl);have cK:hU.cell? ⟨go,39,none⟩=some (.int .u16 a1):=kz 1 a1 (by omega) (by rw[am];rfl);have hr:hU.cell? ⟨go,40,none⟩=some (.int .u16 a2):=kz 2 a2 (by omega) (by rw[am];rfl);have ei:hU.cell? ⟨go,41,none⟩=some (.int .u16 a3):=kz 3 a3 (by omega) (by rw[am];rfl);have HI:(cz ⟨c.aT,rA,Fi⟩).extract 6 38=(bm rA.h).toArray:=by
   rw[<-QT Fm,<-lF];simp[Array.extract_extract]
  have sX:=λ{w:World} {K:Value->World->Prop}=>atV c.aT rA.h rA.a Fm.h Fm.a (w:=w) (K:=K);rw[show(ky rA.a).toArray=#[.int .u16 a0,.int .u16 a1,.int .u16 a2,.int .u16 a3]by rw[am];rfl]at sX;simp[go_sem,Tk,Od,Zq,atU,gq,cK,hr,ei,HI,sX];obtain⟨Tl,Tm,Zx,oM,rB,z3,z4⟩:=id bi;have atW:=(oM.nE.jv 0 (by omega)).tm;have atX:=(a_.kS 0).kS 1;have atY:hn.P.dq<=9223372036854775807:=by
   have:=atX.dq;rw[show(((t4.s.kS 0).1.kS 1).1)=t4.s.d_.1 from rfl,gJ]at this;exact this
  have Tn:=rB p (.inl (.inr (.inr (.inr rfl))));have Oa:¬ax (ax mK aC be) cd cF bF:=λe=>(Of bF e).elim Td λe=>by omega
  have atZ:bF≠p:=λe=>Oa (by rw[e];exact Tn.1);have CN:Cp c.aT rA.h rA.a:=⟨by omega,Fm.h,Fm.a,λi x M=>Fm.dn x (List.mem_of_getElem? M)⟩;refine(at0 bF p hn.P.off hn.P.dq x.cy.1 x.cy.2.1 x.cy.2.2 c.aT rA.h rA.a hU me CN atT atW atZ atY).mono ?_;obtain⟨E,he⟩:=az (tk x.cy.1 c.aT hn.P.off hn.P.dq);rw[he]at fa⊢;rintro _ dC ⟨rfl,dX,at1,Zy⟩;have qE:=dX.size;obtain⟨Zz,Se⟩:=az ((if c.aT<=x.cy.1 then hn.P else hn.P.step));have at2:rl dC p Zz:=by
   rw[W_]at Zy;rw[<-Se];unfold rl;split<;>rename_i dR<;>simp only[dR,if_true,if_false]at Zy<;>exact Zy
  rw[Se]at fa;have kA:∀j,j≠bF->j≠p->¬ju bF p j:=λj H I e=>e.elim H I;have ZA:∀j,nh qO m p z Tl Tm Zx j->j≠bF:=λj F e=>Oa (by rw[<-e];exact(rB j F).1);have at3:km dC qO m p c.n z c.aT ⟨{hn with P:=Zz},t4.bI,t4.fL⟩ Tl Tm Zx:=
   ⟨oM.nE.ate dX (λj F Dr=>kA j (ZA j (.inl F)) Dr) at2,dX.obj oM.blk (kA qO (ZA qO (.inr (.inl rfl))) λe=>oM.ni (by rw[e];exact .inr (.inr (.inr rfl)))),ej oM.fc dX λj F=>kA j (ZA j (.inr (.inr F))) λe=>(oM.iP j F).1 (by rw[e];exact .inr (.inr (.inr rfl))),oM.nD,oM.ni,oM.iP⟩
  have hl:ga qO m p c.n z c.aT aC jl ⟨{hn with P:=Zz},t4.bI,t4.fL⟩ dC (ax (ax mK aC be) cd cF):=by
   refine⟨Tl,Tm,Zx,at3,rB,λj F=>⟨(z3 j F).1,?_⟩,λj F=>Nat.lt_of_lt_of_le (z4 j F) qE⟩;obtain⟨nK,vn⟩:∃nK,hU.1[j]? =some nK:=⟨_,Array.getElem?_eq_getElem (z4 j (z3 j F).1)⟩;rw[dX.obj vn (kA j (λe=>iw j F (by rw[e];exact eV)) λe=>Tn.2 (by rw[<-e];exact F)),<-(z3 j F).2,vn]
  have wu:p<g\/aC.1.size<=p:=by
   rcases Of p Tn.1 with e|e
   ·rcases Zm p e with e|e
    ·exact .inl e
    ·exact absurd (by rw[e];exact .inr (.inr (.inr rfl)):fR z m p Tl Tm qO) oM.ni
   ·exact .inr e.1
  have Og:∀j,g<=j/\j<qO\/j=qJ->¬ju bF p j:=λj F=>kA j (λe=>by omega) λe=>by omega
  have Sf:=dX.obj Fe (Og g (by omega));have JV:=dX.obj pX (Og ti (by omega));have To:=dX.obj Tk (Og go (by omega));have at4:=dX.obj Zw (Og fx (by omega));have ahA:=dX.obj atS (Og qJ (by omega));have ig:=(D.refl (aj go) dC).setRow (g:=go) (.inl rfl) (cz ⟨c.aT,rA,Fi⟩);have om:(dC.setRow go (cz ⟨c.aT,rA,Fi⟩)).1[go]? =some (.cells (cz ⟨c.aT,rA,Fi⟩) 46 (0,0)):=by rw[gk,To];rfl
  have aK:=ig.obj at4 λe=>by simp only[aj]at e;omega
  obtain⟨fz,sZ⟩:=az (dC.setRow go (cz ⟨c.aT,rA,Fi⟩));rw[sZ]at ig om aK;have fX:=(D.refl (aj fx) fz).setCell (p:=⟨fx,0,none⟩) (.inl rfl) (.int .i64 E);have hL:=fX.obj om λe=>by simp only[aj]at e;omega
  have aW:(fz.setCell ⟨fx,0,none⟩ (.int .i64 E)).1[fx]? =some (.cells #[.int .i64 E] 50 (0,0)):=by rw[eY,aK];rfl
  have Fo:=aG aK 0;have at5:=dD aK 0;obtain⟨fw,uX⟩:=az (fz.setCell ⟨fx,0,none⟩ (.int .i64 E));rw[uX]at fX hL aW;simp[go_sem,To,Od,qK,bQ,sZ,Fo,at5,uX];have pR:D (λj=>j=go\/j=fx) dC fw:=(ig.mono λ_ _ e=>.inl e).trans (fX.mono λ_ _ e=>.inr e);have ahB:=pR.size;have Oh:D (λj=>mK j\/j=go\/j=fx\/j=bF) aC fw:=((Jf.trans (dU.mono λ_ _ e=>e.elim)).bJ dX λj F e=>by
   rcases e with e|e
   ·exact .inr (.inr (.inr e))
   ·rw[e];exact .inl ((Of p Tn.1).elim id λe=>by omega)).trans (pR.mono λ_ _ e=>.inr (e.imp id .inl))
  have ahC:=(aN _).ch hl pR λj F e=>Zv j (by omega) F;have Bf:∀j,ax (ax mK aC be) cd cF j->ax mK aC fw j:=λj F=>(Of j F).imp id λe=>⟨e.1,by omega⟩;have Tp:=pR.obj at1 λe=>by omega
  by_cases tl:E=0
  ·rw[if_neg (by simpa using tl)]at fa;rw[if_pos tl]at Tp;exact Te (an':=(c.aT,rA.h,rA.a)) ahC Bf Oh (pR.obj Sf λe=>by omega) (pR.obj JV λe=>by omega) hL aW (pR.obj ahA λe=>by omega) Tp ur (λ_=>fa) λe=>absurd tl e
  ·rw[if_pos tl]at fa;rw[if_neg tl]at Tp;exact Te ahC Bf Oh (pR.obj Sf λe=>by omega) (pR.obj JV λe=>by omega) hL aW (pR.obj ahA λe=>by omega) Tp ur (λe=>absurd e tl) λ_=>fa
end
end Go.Proofs.YtoohkhcpboldjaaGreatDoor
