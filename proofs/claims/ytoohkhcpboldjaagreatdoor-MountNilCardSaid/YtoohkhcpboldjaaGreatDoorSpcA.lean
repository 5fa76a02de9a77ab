/- Package space: addresses given out, held, given back. No condition but on sizes. -/
import Derived.Test.YtoohkhcpboldjaaGreatDoorMrH
import Derived.Test.YtoohkhcpboldjaaGreatDoorMcN
set_option maxRecDepth 100000
set_option linter.unusedSimpArgs false
set_option linter.unusedVariables false
namespace Go.Proofs.YtoohkhcpboldjaaGreatDoor
open Go.RowKit Go.Kin
section
variable{w w':World}{m p n i:Nat}{z:fe}{s:ao}{O:Nat->Prop}{c:Nat}
theorem ao.g_.kS(h:s.g_ c)(d:Nat):(s.kS d).1.g_ c:=by
 unfold ao.kS;refine⟨?_,λi aa=> ?_,λi aa=> ?_,h.ep,h.e_,h.dx⟩
 ·show(if(s.au d).fk s.P then s.P.step else s.P).dq<=_;split
  ·exact ek.ahD h.dq (by decide)
  ·exact h.dq
 ·by_cases e:i=d
  ·subst e;simp only[zL];split
   ·simp[bR.d_]
   ·exact h.bB _ aa
  ·simp only[vp _ _ e];exact h.bB _ aa
 ·by_cases e:i=d
  ·subst e;simp only[zL];split
   ·rw[aAt];exact h.fv _ aa
   ·exact h.fv _ aa
  ·simp only[vp _ _ e];exact h.fv _ aa
theorem j'.abO(h:j' w m p n z s O)(aa:i<2):w.cell? ⟨m,i,none⟩=some (.pointer (some ⟨z.d i,0,none⟩)):=by
 obtain⟨aL,ag,dZ,_⟩:=h;rw[aG dZ.blk];rcases jo aa with rfl|rfl<;>rfl
theorem atG(h:j' w m p n z s O)(kI:s.g_ c)(T:c<=800000):
  aP Tryz.prog 71 #[.pointer (some ⟨m,0,none⟩)] w λW w'=>W=.int .i64 s.d_.2/\j' w' m p n z s.d_.1 (ax O w w')/\D O w w':=by
 refine bn Tryz.func71 Tryz.ntmps71 λaZ Z=> ?_;have H:=h.ch (D.refl ak w).drew λ_ _ e=>e;have al:=h.lt;simp[go_sem];refine cD [A 0,A 1,A 2,A 3,A 4,A 6,A 7,A 8,A 9,A 10,(5,some [6,7,8,9,10]),(11,some []),A 12,A 13] ?_;have fG:w.cell? ⟨m,0,none⟩=some (.pointer (some ⟨z.d 0,0,none⟩)):=h.abO (by omega);have aI:w.cell? ⟨m,1,none⟩=some (.pointer (some ⟨z.d 1,0,none⟩)):=h.abO (by omega);simp[go_sem,fG,aI];obtain⟨aAT,tl⟩:=az ((if(s.au 0).fk s.P&&s.P.bI then 0 else 3):Int);obtain⟨aAU,Kr⟩:=az ((if((s.kS 0).1.au 1).fk (s.kS 0).1.P&&(s.kS 0).1.P.bI then 0 else 3):Int);refine(H.Ku (i:=0) (by omega) (R:=λW _=>W=.int .i64 aAT) λB eR aaj=>(eR.d_ kI.dq (by have:=kI.bB 0 (by omega);omega)).mono λW w' aD=>⟨aD.1.trans (by rw[tl]),aD.2.1,aD.2.2⟩).mono ?_;rintro _ ai ⟨rfl,I,aX⟩;have p_:D O w ai:=D.iy aX;have je:j' ai m p n z (s.kS 0).1 (ax O w ai):=I;have bh:=kI.kS 0;have cR:ai.cell? ⟨m,1,none⟩=some (.pointer (some ⟨z.d 1,0,none⟩)):=je.abO (by omega);simp[go_sem,cR];refine(je.Ku (i:=1) (by omega) (R:=λW _=>W=.int .i64 aAU) λB eR aaj=>(eR.d_ bh.dq (by have:=bh.bB 1 (by omega);omega)).mono λW w' aD=>⟨aD.1.trans (by rw[Kr]),aD.2.1,aD.2.2⟩).mono ?_;rintro _ aC ⟨rfl,af,bq⟩;have rJ:j' aC m p n z s.d_.1 (ax (ax O w ai) ai aC):=af;have vZ:s.d_.2=if(s.kS 0).2||(((s.kS 0).1).kS 1).2 then 0 else 21:=rfl
 have lA:((s.au 0).fk s.P&&s.P.bI)=(s.kS 0).2:=rfl;have jR:(((s.kS 0).1.au 1).fk (s.kS 0).1.P&&(s.kS 0).1.P.bI)=(((s.kS 0).1).kS 1).2:=rfl;rw[lA]at tl;rw[jR]at Kr;have bL:aZ (.int .i64 s.d_.2) aC:=Z _ _ ⟨rfl,rJ.ex (λk r=>avw p_.size bq.size r) (ax.lt al (Nat.le_trans p_.size bq.size)),p_.bJ bq λj F e=>e.resolve_right (by omega)⟩;rw[vZ]at bL
 cases am:(s.kS 0).2<;>cases V:(((s.kS 0).1).kS 1).2<;>(rw[am]at tl;rw[V]at Kr;subst tl Kr;simp[go_sem,bne];simpa[am,V]using bL)
end
def ao.fh:ao:=⟨λ_=>bR.fh,ek.on,λ_ _=>0,λ_ _=>false,λ_=>0,λ_=>0,[]⟩
theorem aAV(n:Nat):madeCells (Value.agg #[.int .i64 0,.bool false]).cells (n*2)=ld ao.fh n 0:=by
 apply Array.ext_getElem?;intro i;have hz:∀x∈ut ao.fh n 0,(Tr x).size=2:=Ol _;by_cases h:i<n*2
 ·have e:i=i / 2*2+i%2:=by omega
  have r:i / 2<n:=by omega
  have M:=Om ao.fh 0 r;have I:(Tr (ao.fh.use 0 (i / 2),ao.fh.dV 0 (i / 2)))[i%2]? =some (#[Value.int .i64 0,.bool false][i%2]!):=by
   rcases Nat.mod_two_eq_zero_or_one i with h|h<;>rw[h]<;>rfl
  have:=Jo (n:=2) hz M I;rw[<-e]at this;unfold ld;rw[this];simp[madeCells,h,Value.cells]
 ·have H:(ld ao.fh n 0).size=n*2:=by unfold ld;rw[Ww hz];simp[ut]
  rw[Array.getElem?_eq_none (by rw[size_madeCells];omega),Array.getElem?_eq_none (by omega)]
theorem aAW(n:Nat)(w:World)(av:n<=1000000):(Instr.makeSlice 153 (.int .i64 n) (.int .i64 n)).run Tryz.prog w=.ok (.slice (some ⟨w.1.size,0,none⟩) n n) (w.alloc (.cells (ld ao.fh n 0) 156)):=by
 have H:(Tryz.prog.info? 156).isSome=true:=by kernel_rfl
 obtain⟨i,aa⟩:=Option.isSome_iff_exists.1 H;have I:(Tryz.prog.info? 156).map (·.size)=some 2:=by kernel_rfl
 have af:(Tryz.prog.info? 156).map (·.bytes)=some 16:=by kernel_rfl
 have aU:(Tryz.prog.info? 156).bind (·.zero)=some (.agg #[.int .i64 0,.bool false]):=by kernel_rfl
 rw[aa]at I af aU;simp at I af aU;have:=run_makeSlice (P:=Tryz.prog) w 153 156 i _ Tryz.underlying153 aa aU .i64 .i64 n n (by omega) (Int.le_refl _) (by rw[I];omega) (by rw[af];omega) (by omega);rw[this,I];simp only[Int.toNat_natCast,aAV]
structure aau(w:World)(b_:Nat)(g ce:Nat->Nat)(B:Nat):Prop where
 aI_:w.1[b_]? =some (.cells #[.slice (some ⟨g 0,0,none⟩) (ce 0) (ce 0),.slice (some ⟨g 1,0,none⟩) (ce 1) (ce 1)] 240 (0,0))
 pl:∀i,i<2->w.1[g i]? =some (.cells (ld ao.fh (ce i) i) 156 (0,0))
 ne:b_≠g 0/\b_≠g 1/\g 0≠g 1
 fx:B<=b_/\B<=g 0/\B<=g 1
theorem ai1(ce:Nat->Nat)(w:World)(kG:∀i,i<2->1<=ce i/\ce i<=4096):aP Tryz.prog 55 #[.int .i64 (ce 0),.int .i64 (ce 1)] w λW w'=>∃b_ g,W=.tuple #[.pointer (some ⟨b_,0,none⟩),.int .i64 0]/\aau w' b_ g ce w.1.size/\D ak w w':=by
 refine bn Tryz.func55 Tryz.ntmps55 λaZ Z=> ?_;simp[go_sem];obtain⟨b_,pc⟩:=az (w.1.size);rw[pc];have aY:=(D.refl ak w).alloc (.cells #[.slice none 0 0,.slice none 0 0] 240);have bj:=cl w (.cells #[.slice none 0 0,.slice none 0 0] 240);rw[pc]at bj;revert aY bj;generalize w.alloc (.cells #[.slice none 0 0,.slice none 0 0] 240)=ab;intro aY bj;have aAX:=λw=>Eo (P:=Tryz.prog) (kd:=.i64) (k:=0) (cs:=#[Value.int .i64 (ce 0),.int .i64 (ce 1)]) Tryz.underlying82 Tryz.sizeOf3 Tryz.isAgg3 (by decide) rfl w;have aAY:=λw=>Eo (P:=Tryz.prog) (kd:=.i64) (k:=1) (cs:=#[Value.int .i64 (ce 0),.int .i64 (ce 1)]) Tryz.underlying82 Tryz.sizeOf3 Tryz.isAgg3 (by decide) rfl w;refine du (λJ f u=>∃k,k<=2/\J=2 - k/\f 6=.pointer (some ⟨b_,0,none⟩)/\f 13=.agg #[.int .i64 (ce 0),.int .i64 (ce 1)]/\f 14=.int .i64 k/\D ak w u/\∃v0 gw,u.1[b_]? =some (.cells #[v0,gw] 240 (0,0))/\
   (1<=k->∃kv,v0=.slice (some ⟨kv,0,none⟩) (ce 0) (ce 0)/\u.1[kv]? =some (.cells (ld ao.fh (ce 0) 0) 156 (0,0))/\b_<kv/\(2<=k->∃cB,gw=.slice (some ⟨cB,0,none⟩) (ce 1) (ce 1)/\u.1[cB]? =some (.cells (ld ao.fh (ce 1) 0) 156 (0,0))/\kv<cB))) 2
  ⟨0,by omega,rfl,by simp,by simp,by simp,aY,_,_,bj,λh=>by omega⟩ ?_
 rintro cJ bK _ f u ⟨k,r,rfl,f6,eW,f14,aJ,v0,gw,V,mG⟩;by_cases jX:k<2
 ·have ea:(k:Int)<2:=by omega
  have eo:IntKind.i64.wrap ((k:Int)+1)=((k+1:Nat):Int):=by rw[IntKind.wrap_i64];omega
  obtain⟨n,av⟩:=az (ce k);obtain⟨H,I⟩:=kG k jX;rw[av]at H I;have hY:¬(n:Int)<1:=by omega
  have HY:¬n<1:=by omega
  have kA:¬(4096:Int)<n:=by omega
  have aAZ:¬4096<n:=by omega
  have mu:∀w,(Instr.index 82 (.agg #[Value.int .i64 (ce 0),.int .i64 (ce 1)]) (.int .i64 k)).run Tryz.prog w=.ok (.int .i64 n) w:=λw=>by
   rw[<-av];rcases jo jX with rfl|rfl
   ·exact aAX w
   ·exact aAY w
  simp[go_sem,f6,eW,f14,ea,mu,hY,kA,HY,aAZ];refine cD [A 0,A 1,A 2,A 4,A 5,(3,some [0,1,4,5]),A 6,(7,some [])] ?_;have sY:=aAW n u.drew (by omega);have iS:=(D.refl ak u).alloc (.cells (ld ao.fh n 0) 156);have bb:=cl u (.cells (ld ao.fh n 0) 156);have dk:=iS.obj V id;have aA:=λj=>aG dk j;have aA0:=dD dk k;obtain⟨g,aF⟩:=az (u.1.size);rw[show u.drew.1.size=u.1.size from rfl,aF]at sY;rw[aF]at bb;have aI':=lt_of_block V;have aA1:(u.alloc (.cells (ld ao.fh n 0) 156)).cell? ⟨b_,k,none⟩=some (if k=0 then v0 else gw):=by
   rw[aA]
   grind
  simp[go_sem,sY,f6,f14,ea,jX,aA1,aA0,eo];have cm:((u.alloc (.cells (ld ao.fh n 0) 156)).setCell ⟨b_,k,none⟩ (.slice (some ⟨g,0,none⟩) n n)).1[b_]? =some (.cells (#[v0,gw].setIfInBounds k (.slice (some ⟨g,0,none⟩) n n)) 240 (0,0)):=by
   rw[eY,dk,gp]
  have cs:D (aj b_) (u.alloc (.cells (ld ao.fh n 0) 156)) ((u.alloc (.cells (ld ao.fh n 0) 156)).setCell ⟨b_,k,none⟩ (.slice (some ⟨g,0,none⟩) n n)):=(D.refl (aj b_) _).setCell (p:=⟨b_,k,none⟩) (.inl rfl) _;have abh:=aJ.size;have ak7:=cs.obj bb λe=>by simp only[aj]at e;omega
  have vD:D ak w ((u.alloc (.cells (ld ao.fh n 0) 156)).setCell ⟨b_,k,none⟩ (.slice (some ⟨g,0,none⟩) n n)):=(aJ.trans iS).bJ cs λj F e=>by simp only[aj]at e;omega
  refine cH.intro (2 -(k+1)) (by omega) (bK _ _ _ ⟨k+1,by omega,rfl,by simp[f6],by simp[eW],by simp,by first|exact vD.drew|exact vD,?_⟩);rcases jo jX with rfl|rfl<;>subst av
  ·exact⟨_,_,cm,λ_=>⟨g,rfl,ak7,by omega,λh=>by omega⟩⟩
  ·obtain⟨kv,rfl,af,aU,_⟩:=mG (by omega);exact⟨_,_,cm,λ_=>⟨kv,rfl,cs.obj (iS.obj af id) λe=>by simp only[aj]at e;omega,aU,λ_=>⟨g,rfl,ak7,by have:=lt_of_block af;omega⟩⟩⟩
 ·obtain rfl:k=2:=by omega
  obtain⟨kv,rfl,af,aU,bC⟩:=mG (by omega);obtain⟨cB,rfl,cG,eD⟩:=bC (by omega);simp[go_sem,f6,f14];refine Z _ _ ⟨b_,λi=>if i=0 then kv else cB,rfl,⟨V,λi aa=> ?_,⟨by simp;omega,by simp;omega,by simp;omega⟩,⟨by omega,by simp;omega,by simp;omega⟩⟩,aJ⟩;rcases jo aa with rfl|rfl
  ·exact af
  ·exact cG
theorem axr(n:Nat)(w:World)(H:1<=n)(I:n<=4096):aP Tryz.prog 55 #[.int .i64 n,.int .i64 n] w λW w'=>∃b_ g,W=.tuple #[.pointer (some ⟨b_,0,none⟩),.int .i64 0]/\aau w' b_ g (λ_=>n) w.1.size/\D ak w w':=
 ai1 (λ_=>n) w λ_ _=>⟨H,I⟩
section
variable{n c:Nat}{s:ao}
theorem ao.g_.mono{dg:Nat}(h:s.g_ c)(T:c<=dg):s.g_ dg:=
 ⟨h.dq,λi aa=>Nat.le_trans (h.bB i aa) T,h.fv,λi=>Nat.le_trans (h.ep i) T,λi=>Nat.le_trans (h.e_ i) T,Nat.le_trans h.dx T⟩
theorem ao.g_.ak8(q:Pt)(b:cX):∀(l:List Nat) (c:Nat) (s:ao),s.g_ c->(l.foldl (ao.ss n q b) s).g_ (c+l.length)
 |[],_,_,h=>h
 |k::l,c,s,h=>by
  have:=ao.g_.ak8 q b l (c+1) (ao.ss n q b s k) (h.ss q b k)
  grind
theorem ao.g_.mB(h:s.g_ c)(q:Pt)(all:Bool):(s.mB n q all).1.g_ (c+8):=by
 unfold ao.mB;split
 ·have aU:=aan n s q all;have V:=aab n s q (s.og n q all);have bU:({s with ep:=(s.run n q (s.og n q all)).aR}:ao).g_ (c+4):=
   ⟨h.dq,λi aa=>Nat.le_trans (h.bB i aa) (by omega),h.fv,λi=>by
    have H:=aaa n s q (s.og n q all) i;have I:=h.ep i
    grind,λi=>Nat.le_trans (h.e_ i) (by omega),Nat.le_trans h.dx (by omega)⟩
  simp only;split
  ·exact bU.mono (by omega)
  ·exact(ao.g_.ak8 q _ _ _ _ bU).mono (by omega)
 ·exact h.mono (by omega)
theorem aj1(a:List Nat):(dL a 4).length<=4:=by unfold dL;grind
theorem ao.g_.ha(h:s.g_ c)(q:Pt)(b:cX):(s.ha n q b).1.g_ (c+8):=by
 unfold ao.ha;split
 ·exact(ao.g_.KS q b _ c (s,21) h).mono (by have:=aj1 q.a;omega)
 ·exact h.mono (by omega)
end
section
variable{n:Nat}{c:hT}{t:dy}{s:ao}
def ao.all(n ir:Nat)(s:ao):ao:={s with use:=λi a=>if i<2/\a<n/\s.use i a=2 then ir else s.use i a}
def ao.vk(n:Nat)(l:List Pt)(s:ao):ao:=l.foldl (λs p=>(k' p).foldl (ao.jp n 1 0) s) s
theorem hx.all(n ir:Nat)(s:ao):hx s (s.all n ir):=⟨rfl,rfl,rfl,rfl,rfl,rfl⟩
theorem ak9:∀(l:List Pt) (s:ao),(∀p∈l,wz p)->hx s (s.vk n l)/\∀i,i<2->∀a,1<=a->a<n->(s.vk n l).use i a=if a∈bp l/\s.use i a=1 then 0 else s.use i a
 |[],s,_=>⟨hx.refl s,λi _ a _ _=>by simp[ao.vk,bp]⟩
 |p::l,s,al=>by
  obtain⟨H,I⟩:=EP (n:=n) (f:=1) (t:=0) (by decide) (k' p) s;obtain⟨af,aU⟩:=ak9 l ((k' p).foldl (ao.jp n 1 0) s) λq aq=>al q (by simp[aq]);refine⟨H.trans af,λi aa a a1 a2=> ?_⟩;show(((k' p).foldl (ao.jp n 1 0) s).vk n l).use i a=_;rw[aU i aa a a1 a2,I];have ahV:=Ft (al p (by simp)) i a;have BA:a∈bp (p::l)↔a∈pa p\/a∈bp l:=by
   unfold bp
   grind
  grind
theorem lI.ak_(h:lI c t){a:Nat}(am:a∈bp c.dP):a∈bp (c.dP++t.bI)/\a∉bp t.bI:=by
 rw[wB];refine⟨List.mem_append.2 (.inl am),λe=> ?_⟩;have:=h.bZ;rw[wB]at this
 grind
theorem lI.ZZ(h:lI c t):lI c ⟨(t.s.all c.n 1).vk c.n t.bI,[],[]⟩:=by
 obtain⟨a_,bh,bV,cr,cN,f6,cg,bz,ef,eE,gD,dA,eW,f14⟩:=id h;obtain⟨S,an⟩:=ak9 (n:=c.n) t.bI (t.s.all c.n 1) λp ah=>(ef p (List.mem_append.2 (.inr ah))).2.1;have S:=(hx.all c.n 1 t.s).trans S;have bZ:=f6;rw[wB]at bZ;refine⟨by rw[S.au];exact a_,by rw[S.au];exact bh,by rw[S.P];exact bV,by rw[S.dV];exact cr,λi aa a a1 a2=> ?_,?_,λa am=> ?_,by simp,λp ah=> ?_,by rw[S.au];exact eE,by rw[S.au];exact gD,by rw[S.au];exact dA,.inl (by simp),f14⟩
 ·show((t.s.all c.n 1).vk c.n t.bI).use i a=if a∈bp (c.dP++[])then(if a∈bp []then 2 else 1)else 0
  rw[an i aa a a1 a2,List.append_nil];have e:(t.s.all c.n 1).use i a=if a∈bp (c.dP++t.bI)then 1 else 0:=by
   unfold ao.all;simp only[aa,a2,true_and];rw[cN i aa a a1 a2];by_cases al:a∈bp (c.dP++t.bI)
   ·grind
   ·simp[al]
  rw[e];by_cases bf:a∈bp c.dP
  ·obtain⟨a',aX⟩:=h.ak_ bf;have bq:a∉bp []:=by simp[bp]
   simp[bf,a',aX,bq]
  ·by_cases aH:a∈bp t.bI
   ·grind
   ·have:a∉bp (c.dP++t.bI):=by rw[wB,List.mem_append];exact λe=>e.elim bf aH
    simp[bf,aH,this]
 ·grind
 ·have am:a∈bp (c.dP++[]):=am;rw[List.append_nil]at am;exact cg a (h.ak_ am).1
 grind
theorem aA2(l:List (Nat×cX)):∀(L:bR),tq L->(∀a,(jJ L.m a).length=512)->(∀e∈l,e.2.length=512)->
  tq (l.foldl (λd e=>d.ob e 512) L)/\(l.foldl (λd e=>d.ob e 512) L).bS=L.bS/\∀a,jJ (l.foldl (λd e=>d.ob e 512) L).m a=(oL l a).getD (jJ L.m a):=by
 induction l with
 |nil=>exact λL h _ _=>⟨h,rfl,λa=>rfl⟩
 |cons e l bG=>
  intro L h al aV;have H:tq (L.ob e 512):=⟨h.tY,h.fv,λa=>by unfold bR.ob;simp only;split;rfl;exact h.dT a,h.stuck⟩;have aH:∀a,jJ (L.ob e 512).m a=if a=e.1 then e.2 else jJ L.m a:=λa=>by
   unfold bR.ob jJ;simp only;by_cases am:a=e.1
   ·rw[if_pos am,if_pos am];have abP:=aV e (by simp);have:=al e.1;unfold jJ at this
    grind
   ·rw[if_neg am,if_neg am]
  obtain⟨a',aX,bq⟩:=bG (L.ob e 512) H (λa=>by
   grind) λx M=>aV x (by simp[M])
  refine⟨a',aX,λa=> ?_⟩;rw[List.foldl_cons,bq,aH];obtain⟨p,q⟩:=e;show _=(match oL l a with|some z=>some z|none=>if p=a then some q else none).getD _
  grind
theorem Lu{L:bR}(h:tq L)(al:∀a,(jJ L.m a).length=512)(aV:∀e∈L.bB,e.2.length=512):tq L.d_/\L.d_.bS=L.bS/\L.d_.bB=[]/\∀a,jJ L.d_.m a=xZ L a:=by
 obtain⟨a',aX,bq⟩:=aA2 L.bB L h al aV;exact⟨⟨a'.tY,a'.fv,a'.dT,a'.stuck⟩,aX,rfl,bq⟩
theorem aA3{L:bR}(al:∀a,(jJ L.m a).length=512)(aV:∀e∈L.bB,e.2.length=512)(a:Nat):(xZ L a).length=512:=by
 unfold xZ
 cases h:oL L.bB a with
 |none=>exact al a
 |some b=>exact aV _ (ayO h)
structure aA4(s J:ao)(e:Int):Prop where
 use:J.use=s.use
 dV:J.dV=s.dV
 ep:J.ep=s.ep
 e_:J.e_=s.e_
 dx:J.dx=s.dx
 au:∀i,i<2->J.au i=s.au i\/((s.au i).bS=false/\J.au i=(s.au i).d_)
 wA:∀i,2<=i->J.au i=s.au i
 off:J.P.off=false->s.P.off=false/\∀i,i<2->(s.au i).bS=false->J.au i=(s.au i).d_
 on:s.P=ek.on->J.P=ek.on
 aJa:e=0\/e=21
 ok:s.P=ek.on->¬((s.au 0).bS=true/\(s.au 1).bS=true)->e=0
theorem ak'{p:ek}(h:p.step.off=false):p.off=false/\p.bI=true:=by
 unfold ek.step at h
 cases aB:p.off with
 |true=>rw[aB]at h;simp[aB]at h
 |false=>
  rw[aB]at h;simp only[Bool.false_eq_true,if_false]at h;refine⟨rfl,?_⟩;unfold ek.bI
  grind
theorem TJ(s:ao):aA4 s s.d_.1 s.d_.2:=by
 obtain⟨bt,H⟩:=az ((s.kS 0).1);have a0:bt={s with au:=hM s.au 0 (if(s.au 0).fk s.P&&s.P.bI then(s.au 0).d_ else s.au 0),P:=if(s.au 0).fk s.P then s.P.step else s.P}:=H.symm;have cK:bt.au 1=s.au 1:=by rw[a0];simp[hM]
 have gq:bt.au 0=if(s.au 0).fk s.P&&s.P.bI then(s.au 0).d_ else s.au 0:=by rw[a0];simp[hM]
 have abQ:bt.P=if(s.au 0).fk s.P then s.P.step else s.P:=by rw[a0]
 have bj:s.d_.1={bt with au:=hM bt.au 1 (if(bt.au 1).fk bt.P&&bt.P.bI then(bt.au 1).d_ else bt.au 1),P:=if(bt.au 1).fk bt.P then bt.P.step else bt.P}:=by
  unfold ao.d_;rw[H];rfl
 have NY:s.d_.2=if((s.au 0).fk s.P&&s.P.bI)||((bt.au 1).fk bt.P&&bt.P.bI)then 0 else 21:=by
  unfold ao.d_;rw[H];rfl
 have nC:s.d_.1.au 0=bt.au 0:=by rw[bj];simp[hM]
 have mT:s.d_.1.au 1=if(bt.au 1).fk bt.P&&bt.P.bI then(bt.au 1).d_ else bt.au 1:=by rw[bj];simp[hM]
 have ala:s.d_.1.P=if(bt.au 1).fk bt.P then bt.P.step else bt.P:=by rw[bj]
 refine⟨by rw[bj,a0],by rw[bj,a0],by rw[bj,a0],by rw[bj,a0],by rw[bj,a0],λi aa=> ?_,λi aa=> ?_,λaB=> ?_,λqG=> ?_,?_,λqG jK=> ?_⟩
 ·have:i=0\/i=1:=by omega
  rcases this with rfl|rfl
  ·rw[nC,gq];by_cases h:((s.au 0).fk s.P&&s.P.bI)=true
   ·rw[if_pos h];unfold bR.fk at h
    grind
   grind
  ·rw[mT,cK];by_cases h:((s.au 1).fk bt.P&&bt.P.bI)=true
   ·rw[if_pos h];unfold bR.fk at h
    grind
   grind
 ·rw[bj];show hM bt.au 1 _ i=_;rw[vp _ _ (by omega),a0];exact vp _ _ (by omega)
 ·rw[ala]at aB;have gE:bt.P.off=false/\((s.au 1).bS=false->bt.P.bI=true):=by
   by_cases h:(bt.au 1).fk bt.P=true
   ·rw[if_pos h]at aB;obtain⟨a',aX⟩:=ak' aB;exact⟨a',λ_=>aX⟩
   ·rw[if_neg h]at aB;refine⟨aB,λbi=>absurd ?_ h⟩;unfold bR.fk;rw[cK,bi,aB];rfl
  have PL:s.P.off=false/\((s.au 0).bS=false->s.P.bI=true):=by
   have H:=gE.1;rw[abQ]at H;by_cases h:(s.au 0).fk s.P=true
   ·rw[if_pos h]at H;obtain⟨a',aX⟩:=ak' H;exact⟨a',λ_=>aX⟩
   ·rw[if_neg h]at H;refine⟨H,λbi=>absurd ?_ h⟩;unfold bR.fk;rw[bi,H];rfl
  refine⟨PL.1,λi aa bi=> ?_⟩;have:i=0\/i=1:=by omega
  rcases this with rfl|rfl
  ·rw[nC,gq,if_pos];unfold bR.fk
   grind
  ·rw[mT,cK,if_pos];unfold bR.fk
   grind
 ·have aK:bt.P=ek.on:=by
   rw[abQ,qG];split<;>rfl
  rw[ala,aK];split<;>rfl
 ·omega
 ·rw[NY,if_pos];have aK:bt.P=ek.on:=by
   rw[abQ,qG];split<;>rfl
  rw[cK,aK,qG];unfold bR.fk
  cases bf:(s.au 0).bS with
  |false=>simp[ek.on,ek.bI]
  |true=>
   cases H:(s.au 1).bS with
   |false=>simp[ek.on,ek.bI]
   |true=>exact absurd ⟨bf,H⟩ jK
theorem lI.d_(h:lI c t):lI c {t with s:=t.s.d_.1}:=by
 obtain⟨a_,bh,bV,cr,cN,f6,cg,bz,ef,eE,gD,dA,eW,f14⟩:=id h;have R:=TJ t.s;have aV:∀i,i<2->∀e∈(t.s.au i).bB,e.2.length=512:=λi aa e aV=>(dA i aa e aV).2;have aH:∀i,i<2->∀a,jJ (t.s.d_.1.au i).m a=jJ (t.s.au i).m a\/jJ (t.s.d_.1.au i).m a=xZ (t.s.au i) a:=λi aa a=>by
  rcases R.au i aa with e|⟨_,e⟩
  ·rw[e];exact .inl rfl
  ·rw[e];exact .inr ((Lu (a_ i) (gD i aa) (aV i aa)).2.2.2 a)
 refine⟨λi=> ?_,λi aa=> ?_,λbU=>R.on (bV bU),by rw[R.dV];exact cr,by rw[R.use];exact cN,f6,cg,bz,ef,λp ah=> ?_,λi aa a=> ?_,λi aa e T=> ?_,eW,f14⟩
 ·by_cases aa:i<2
  ·rcases R.au i aa with e|⟨_,e⟩
   ·rw[e];exact a_ i
   ·rw[e];exact(Lu (a_ i) (gD i aa) (aV i aa)).1
  ·rw[R.wA i (by omega)];exact a_ i
 ·rcases R.au i aa with e|⟨_,e⟩
  ·rw[e];exact bh i aa
  ·rw[e,(Lu (a_ i) (gD i aa) (aV i aa)).2.1];exact bh i aa
 ·obtain⟨H,I⟩:=eE p ah;refine⟨H,λi aa bi a am=> ?_⟩;rcases aH i aa a with e|e
  ·rw[e];exact I i aa bi a am
  ·rw[e];unfold xZ;rw[RN λx M aK=>(dA i aa x M).1 bi (by rw[aK];exact Bz.2 ⟨p,ah,am⟩)];exact I i aa bi a am
 ·rcases aH i aa a with e|e
  ·rw[e];exact gD i aa a
  ·rw[e];exact aA3 (gD i aa) (aV i aa) a
 ·rcases R.au i aa with aK|⟨_,aK⟩
  ·grind
  ·rw[aK,(Lu (a_ i) (gD i aa) (aV i aa)).2.2.1]at T
   cases T
theorem aA5{a b:List Pt}(h:a.Perm b):(bp a).Perm (bp b):=by
 induction h with
 |nil=>exact .refl _
 |cons x _ bG=>
  unfold bp at*
  grind
 |swap x y l=>
  unfold bp
  grind
 |trans _ _ H I=>exact H.trans I
theorem rD.next(h:rD c t)(lg:t.s.d_.1.P.off=false)(sj:¬(c.bS 0=true/\c.bS 1=true)){ou:List Pt}(hz:ad∉ou)(rk:∀y,y≠ad->ou.count y+t.fL.count y=c.dP.count y+t.bI.count y)(dg:hT)(T:dg.n=c.n/\dg.dP=ou/\dg.bS=c.bS/\dg.ip=c.ip)(V:∀p b,p∈ou->dg.blk p=b->ku t.s p b):
  lI dg ⟨t.s.d_.1.all c.n 0,[],[]⟩:=by
 obtain⟨uS,iZ,dU,ov⟩:=T;have gJ:=h.bL.d_;obtain⟨a_,bh,bV,cr,cN,f6,cg,bz,ef,eE,gD,dA,eW,f14⟩:=id gJ;have R:=TJ t.s;have S:=hx.all c.n 0 t.s.d_.1;have air:ad∉c.dP++t.bI:=λe=>by
  have:=(ef _ e).2.2;exact absurd this (by decide)
 have aJb:ad∉t.fL:=λe=>air (bz _ e);have Ac:(ou++t.fL).Perm (c.dP++t.bI):=by
  rw[List.perm_iff_count];intro y;rw[List.count_append,List.count_append];by_cases ar:y=ad
  ·grind
  ·exact rk y ar
 have xk:=aA5 Ac;rw[wB]at xk;have jK:=xk.nodup_iff.2 f6;have KI:∀a,a∈bp ou↔a∈bp (c.dP++t.bI)/\a∉bp t.fL:=λa=>by
  grind
 have wG:∀p∈ou,p∈c.dP++t.bI:=λp ah=>Ac.mem_iff.1 (List.mem_append.2 (.inl ah));have aV:∀i,i<2->∀e∈(t.s.au i).bB,e.2.length=512:=λi aa e aV=>(h.bL.bB i aa e aV).2;have HL:p' t.s:=⟨(R.off lg).1,λe=>sj ⟨by rw[<-h.bL.bS 0 (by omega)];exact e.1,by rw[<-h.bL.bS 1 (by omega)];exact e.2⟩⟩;refine⟨by rw[S.au];exact a_,by rw[S.au,dU];exact bh,by rw[S.P,ov];exact bV,by rw[S.dV];exact cr,λi aa a a1 a2=> ?_,?_,λa am=> ?_,by simp,λp ah=> ?_,λp ah=> ?_,by rw[S.au];exact gD,λi aa e J_=> ?_,.inl (by simp),by rw[uS];exact f14⟩
 ·show(t.s.d_.1.all c.n 0).use i a=if a∈bp (dg.dP++[])then(if a∈bp []then 2 else 1)else 0
  rw[iZ,List.append_nil];rw[uS]at a2;unfold ao.all;simp only[aa,a2,true_and];rw[cN i aa a a1 a2];have aH:=KI a;by_cases al:a∈bp (c.dP++t.bI)
  ·by_cases aF:a∈bp t.fL
   ·grind
   ·have:a∈bp ou:=aH.2 ⟨al,aF⟩;have bq:a∉bp []:=by simp[bp]
    simp[al,aF,this,bq]
  grind
 ·grind
 ·grind
 ·grind
 ·rw[iZ]at ah;have eR:=V p _ ah rfl;refine⟨eR.1,λi aa bi a am=> ?_⟩;rw[dU]at bi;rw[S.au];have AX:(t.s.au i).bS=false:=by rw[h.bL.bS i aa];exact bi
  rw[(R.off lg).2 i aa AX,(Lu (h.bL.wA i) (h.bL.len i aa) (aV i aa)).2.2.2];exact eR.2 HL i aa AX a am
 ·rw[S.au]at J_;refine⟨λbi=> ?_,(dA i aa e J_).2⟩;rw[dU]at bi;have AX:(t.s.au i).bS=false:=by rw[h.bL.bS i aa];exact bi
  rw[(R.off lg).2 i aa AX,(Lu (h.bL.wA i) (h.bL.len i aa) (aV i aa)).2.2.1]at J_
  cases J_
end
section
variable{w w':World}{m p n i:Nat}{z:fe}{s:ao}{aL:Value}{ag:Nat->Nat->Prop}{O S:Nat->Prop}
theorem aA6(s:ao){n a:Nat}(i x:Nat):(ut s n i).set a (x,s.dV i a)=ut (s.hf i a x) n i:=by
 unfold ut;apply List.ext_getElem?;intro j;rw[List.getElem?_set];by_cases F:a=j
 ·subst F;by_cases am:a<n
  ·simp[am,wm,ao.hf]
  ·simp[am]
 ·rw[if_neg F];simp only[List.getElem?_map]
  cases ap:(List.range n)[j]? with
  |none=>rfl
  |some y=>
   have ar:y=j:=by
    obtain⟨H,I⟩:=List.getElem?_eq_some_iff.1 ap;simpa using I.symm
   subst ar;have aA7:¬y=a:=λe=>F e.symm;have aK:(s.hf i a x).use i y=s.use i y:=by rw[wm,if_neg λe=>aA7 e.2]
   rw[Option.map_some,Option.map_some,aK];rfl
theorem eg.hf(h:eg w m p n z s aL ag)(aa:i<2){a:Nat}(jZ:a<n)(x:Nat):eg (w.setCell ⟨z.g i,a*2,none⟩ (.int .i64 x)) m p n z (s.hf i a x) aL ag/\D (aj (z.g i)) w (w.setCell ⟨z.g i,a*2,none⟩ (.int .i64 x)):=by
 have V:=h.pl i aa;have T:D (aj (z.g i)) w (w.setCell ⟨z.g i,a*2,none⟩ (.int .i64 x)):=(D.refl (aj (z.g i)) w).setCell (p:=⟨z.g i,a*2,none⟩) (.inl rfl) _;refine⟨h.fc aa T ?_ (λj F=> ?_) rfl rfl rfl rfl,T⟩
 ·rw[eY,V,gp];congr 1;congr 1;unfold ld;rw[<-aA6];have:=Mr (n:=2) (Ol (ut s n i)) (Om s i jZ) (i:=0) (u:=.int .i64 x) (y:=(x,s.dV i a)) (by omega) rfl;rwa[Nat.add_zero]at this
 ·unfold ld ut;simp only[wm];congr 1;apply List.map_congr_left;intro b _;rw[if_neg λe=>F e.1];rfl
theorem SV(G n:Nat)(w':World):(Builtin.len_ #[153] 3 #[.slice (some ⟨G,0,none⟩) n n]).run Tryz.prog w'=.ok (.int .i64 n) w':=by simp[Builtin.len_,run_underlying Tryz.underlying153,goInt]
def SY(g:Nat):Value:=.func (.func 171) #[] #[.pointer (some ⟨g,0,none⟩),.pointer (some ⟨g+1,0,none⟩)]
structure abR(w:World)(g f t:Nat):Prop where
 f:w.1[g]? =some (.cells #[.int .i64 f] 3 (0,0))
 t:w.1[g+1]? =some (.cells #[.int .i64 t] 3 (0,0))
theorem SX(f t:Nat)(w:World):aP Tryz.prog 121 #[.int .i64 f,.int .i64 t] w λW w'=>W=SY w.1.size/\abR w' w.1.size f t/\D ak w w'/\w'.1.size=w.1.size+2:=by
 refine bn Tryz.func121 Tryz.ntmps121 λaZ Z=> ?_;simp[go_sem];exact Z _ _ ⟨rfl,⟨oa _ _ _,ny _ _ _⟩,((D.refl ak w).alloc _).alloc _,by simp⟩
theorem agW(h:eg w m p n z s aL ag)(aa:i<2){a:Nat}(jZ:a<n){g f t:Nat}(bd:abR w g f t)(aF:g≠z.g i/\g+1≠z.g i):
  aP Tryz.prog 171 #[.pointer (some ⟨z.g i,a*2,none⟩),.pointer (some ⟨g,0,none⟩),.pointer (some ⟨g+1,0,none⟩)] w λW w'=>(∃b,W=.bool b/\(b=true↔s.use i a=f))/\eg w' m p n z (if s.use i a=f then s.hf i a t else s) aL ag/\D (aj (z.g i)) w w':=by
 refine bn Tryz.func171 Tryz.ntmps171 λaZ Z=> ?_;have V:=h.pl i aa;have tc:=λj=>dD V j;have gl:w.cell? ⟨z.g i,a*2,none⟩=some (.int .i64 (s.use i a)):=by rw[aG V];exact(Ki s i jZ).1
 have fG:=aG bd.f 0;have aI:=aG bd.t 0;simp[go_sem];refine cD [A 0,A 1,A 2,A 3,A 4,A 5] ?_;have bi:=h.ch (D.refl ak w).drew λ_ _ e=>e;have dU:D (aj (z.g i)) w w.drew:=(D.refl _ w).drew;have abS:w.drew.cell? ⟨z.g i,a*2,none⟩=some (.int .i64 (s.use i a)):=gl;have abT:w.drew.cell? ⟨g,0,none⟩=some (.int .i64 f):=fG;have alb:w.drew.cell? ⟨g+1,0,none⟩=some (.int .i64 t):=aI;have alc:∀j,w.drew.frozen? ⟨z.g i,j,none⟩=false:=tc;obtain⟨u,an⟩:=az (w.drew);rw[an]at bi dU abS abT alb alc⊢;by_cases bU:s.use i a=f
 ·have abU:((s.use i a:Int)!=(f:Int))=false:=by simp[bU]
  simp[go_sem,abS,abT,alb,alc,abU];obtain⟨a',aX⟩:=bi.hf aa jZ t;exact Z _ _ ⟨⟨_,rfl,by simp[bU]⟩,by rw[if_pos bU];exact a',dU.trans aX⟩
 ·have abU:((s.use i a:Int)!=(f:Int))=true:=by
   have:¬(s.use i a:Int)=f:=by omega
   simpa using this
  simp[go_sem,abS,abT,abU];exact Z _ _ ⟨⟨_,rfl,by simp[bU]⟩,by rw[if_neg bU];exact bi,dU⟩
theorem aar(h:eg w m p n z s aL ag)(aa:i<2)(a:Nat)(am:a<65536){g f t:Nat}(bd:abR w g f t)(aF:g≠z.g i/\g+1≠z.g i):
  aP Tryz.prog 120 #[.pointer (some ⟨z.b_,0,none⟩),.int .i64 i,.int .u16 a,SY g] w λW w'=>(∃k:Int,W=.int .i64 k/\(k=0↔1<=a/\a<n/\s.use i a=f))/\eg w' m p n z (s.jp n f t (i,a)) aL ag/\D (aj (z.g i)) w w':=by
 refine bn Tryz.func120 Tryz.ntmps120 λZD xY=> ?_;have cI:=SV (z.g i) n;have On:IntKind.i64.wrap (a:Int)=a:=by rw[IntKind.wrap_i64];omega
 simp[go_sem];refine(NK h aa).mono ?_;rintro _ ab ⟨rfl,rfl⟩;by_cases bf:a=0
 ·subst bf;have e:s.jp n f t (i,0)=s:=by unfold ao.jp;rw[if_pos (.inl rfl)]
  simp[go_sem];exact xY _ _ ⟨⟨_,rfl,by simp⟩,by rw[e];exact h,D.refl _ _⟩
 ·have oR:((a:Int)==0)=false:=beq_false_of_ne (by omega);by_cases jZ:a<n
  ·have tp:¬(n:Int)<=a:=by omega
   simp[go_sem,cI,On,bf,oR,jZ,tp,SY];have n':∀(x:List Value) (w:World),(callFunc 171 x.toArray).run Tryz.prog w=.ok (.enter 171 x.toArray) w:=λx w=>by simp[go_sem]
   rw[EK _ _ _ _ [.pointer (some ⟨g,0,none⟩),.pointer (some ⟨g+1,0,none⟩)] _ (n' _ _)];refine(agW h aa jZ bd aF).mono ?_;rintro _ ai ⟨⟨b,rfl,JW⟩,I,aA⟩;have ald:1<=a:=by omega
   have e:s.jp n f t (i,a)=if s.use i a=f then s.hf i a t else s:=by
    unfold ao.jp;by_cases bU:s.use i a=f
    ·grind
    ·grind
   cases b
   ·simp[go_sem];exact xY _ _ ⟨⟨_,rfl,by simp at JW;simp[ald,jZ,JW]⟩,by rw[e];exact I,aA⟩
   ·simp[go_sem];exact xY _ _ ⟨⟨_,rfl,by simp at JW;simp[ald,jZ,JW]⟩,by rw[e];exact I,aA⟩
  ·have tp:(n:Int)<=a:=by omega
   have e:s.jp n f t (i,a)=s:=by unfold ao.jp;grind
   simp[go_sem,cI,On,bf,oR,jZ,tp];exact xY _ _ ⟨⟨_,rfl,by simp[jZ]⟩,by rw[e];exact h,D.refl _ _⟩
theorem eg.cq(h:eg w m p n z s aL ag)(aa:i<2):z.g i<w.1.size:=lt_of_block (h.pl i aa)
theorem asJ(h:eg w m p n z s aL ag)(aa:i<2)(a:Nat)(am:a<65536):aP Tryz.prog 181 #[.pointer (some ⟨z.b_,0,none⟩),.int .i64 i,.int .u16 a] w λW w'=>eg w' m p n z (s.jp n 1 2 (i,a)) aL ag/\D (aj (z.g i)) w w':=by
 refine bn Tryz.func181 Tryz.ntmps181 λaZ Z=> ?_;simp[go_sem];refine(SX 1 2 w).mono ?_;rintro _ ab ⟨rfl,t1,aI,bt⟩;have al:=h.cq aa;have dE:∀k,fR z m p aL ag k->¬ak k:=λ_ _ e=>e;simp[go_sem];refine(aar (h.ch aI dE) aa a am t1 ⟨by omega,by omega⟩).mono ?_;rintro _ ai ⟨⟨k,rfl,_⟩,I,aA⟩;simp[go_sem];exact Z _ _ ⟨I,(aI.mono λ_ _ e=>e.elim).trans aA⟩
theorem asV(h:eg w m p n z s aL ag)(aa:i<2)(a:Nat)(am:a<65536):aP Tryz.prog 69 #[.pointer (some ⟨z.b_,0,none⟩),.int .i64 i,.int .u16 a] w λW w'=>eg w' m p n z (s.jp n 1 0 (i,a)) aL ag/\D (aj (z.g i)) w w':=by
 refine bn Tryz.func69 Tryz.ntmps69 λaZ Z=> ?_;simp[go_sem];refine(SX 1 0 w).mono ?_;rintro _ ab ⟨rfl,t1,aI,bt⟩;have al:=h.cq aa;have dE:∀k,fR z m p aL ag k->¬ak k:=λ_ _ e=>e;simp[go_sem];refine(aar (h.ch aI dE) aa a am t1 ⟨by omega,by omega⟩).mono ?_;rintro _ ai ⟨⟨k,rfl,_⟩,I,aA⟩;simp[go_sem];exact Z _ _ ⟨I,(aI.mono λ_ _ e=>e.elim).trans aA⟩
theorem aA8{d:Nat}{k:Nat}(h:∀a,a<k->¬(1<=a/\s.use d a=0/\s.dV d a=false))(r:k=n):s.kt n d=0:=by
 subst r;unfold ao.kt;rw[List.find?_eq_none.2]
 ·rfl
 grind
theorem aA9{d:Nat}{k:Nat}(h:∀a,a<k->¬(1<=a/\s.use d a=0/\s.dV d a=false))(r:k<n)(H:1<=k/\s.use d k=0/\s.dV d k=false):s.kt n d=k:=by
 rcases RV n s d with⟨e,av⟩|⟨a1,a2,a3,a4⟩
 ·grind
 ·apply Classical.byContradiction;intro da;by_cases aO:s.kt n d<k
  ·grind
  ·
   have aO:k<s.kt n d:=by omega
   unfold ao.kt at aO
   cases bU:(List.range n).find? λa=>decide (1<=a)&&decide (s.use d a=0)&& !s.dV d a with
   |none=>
    grind
   |some b=>
    rw[bU]at aO;simp only[Option.getD_some]at aO;have:=(List.find?_range_eq_some.1 bU).2.2 k aO
    grind
theorem aqC(h:eg w m p n z s aL ag)(aa:i<2)(av:n<=65536):aP Tryz.prog 182 #[.pointer (some ⟨z.b_,0,none⟩),.int .i64 i] w λW w'=>W=.int .u16 (s.alloc n i).2/\eg w' m p n z (s.alloc n i).1 aL ag/\D (aj (z.g i)) w w':=by
 refine bn Tryz.func182 Tryz.ntmps182 λaZ Z=> ?_;have cI:=SV (z.g i) n;have V:=h.pl i aa;simp[go_sem];refine(NK h aa).mono ?_;rintro _ ab ⟨rfl,rfl⟩;simp[go_sem,cI];refine du (λJ f bE=>∃k,k<=n/\J=n - k/\f 5=.slice (some ⟨z.g i,0,none⟩) n n/\f 12=.int .i64 n/\f 13=.int .i64 k/\f 4=.int .u16 0/\bE=ab/\∀a,a<k->¬(1<=a/\s.use i a=0/\s.dV i a=false)) n
  ⟨0,Nat.zero_le _,rfl,by simp,by simp,by simp,by simp,rfl,λa am=>by omega⟩ ?_
 rintro cJ bK _ f bE ⟨k,r,rfl,cN,dA,eW,cr,rfl,my⟩;by_cases kQ:k<n
 ·have wn:(k:Int)<n:=by omega
  have eo:IntKind.i64.wrap ((k:Int)+1)=((k+1:Nat):Int):=by rw[IntKind.wrap_i64];omega
  have aJ:bE.cell? ⟨z.g i,k*2,none⟩=some (.int .i64 (s.use i k)):=by rw[aG V];exact(Ki s i kQ).1
  have cs:bE.cell? ⟨z.g i,k*2+1,none⟩=some (.bool (s.dV i k)):=by rw[aG V];exact(Ki s i kQ).2
  have tc:=λj=>dD V j;have next:(¬(1<=k/\s.use i k=0/\s.dV i k=false))->∀a,a<k+1->¬(1<=a/\s.use i a=0/\s.dV i a=false):=λr a am=>by
   grind
  by_cases aF:1<=k/\s.use i k=0/\s.dV i k=false
  ·have bf:(0:Int)<k:=by omega
   have aA_:IntKind.u16.wrap (k:Int)=k:=by rw[IntKind.wrap_u16];omega
   have nk:=aA9 my kQ aF;have wy:s.alloc n i=(s.hf i k 1,k):=by
    unfold ao.alloc;rw[nk,if_neg (by omega)]
   obtain⟨a',aX⟩:=h.hf aa kQ 1;have wo:0<k:=aF.1;simp[go_sem,cN,dA,eW,wn,kQ,bf,wo,aJ,cs,tc,aF.2.1,aF.2.2,aA_];exact Z _ _ ⟨by rw[wy],by rw[wy];exact a',aX⟩
  ·by_cases kO:k=0
   ·subst kO;have YT:0<n:=kQ;have de:IntKind.i64.wrap 1=1:=by decide
    simp[go_sem,cN,dA,eW,YT,de];exact cH.intro (n -(0+1)) (by omega) (bK _ _ _ ⟨1,by omega,by omega,by simpa using cN,by simpa using dA,by simp[de],by simpa using cr,rfl,next aF⟩)
   ·have bf:(0:Int)<k:=by omega
    have wo:0<k:=by omega
    by_cases an:s.use i k=0
    ·have aw:s.dV i k=true:=by
      cases aw:s.dV i k with
      |true=>rfl
      |false=>grind
     simp[go_sem,cN,dA,eW,wn,kQ,bf,wo,aJ,cs,an,aw,eo];exact cH.intro (n -(k+1)) (by omega) (bK _ _ _ ⟨k+1,by omega,rfl,by simpa using cN,by simpa using dA,by simp,by simpa using cr,rfl,next aF⟩)
    ·have GB:((s.use i k:Int)==0)=false:=beq_false_of_ne (by omega);simp[go_sem,cN,dA,eW,wn,kQ,bf,wo,aJ,GB,an,eo];exact cH.intro (n -(k+1)) (by omega) (bK _ _ _ ⟨k+1,by omega,rfl,by simpa using cN,by simpa using dA,by simp,by simpa using cr,rfl,next aF⟩)
 ·obtain rfl:k=n:=by omega
  have nk:=aA8 my rfl;have wy:s.alloc k i=(s,0):=by
   unfold ao.alloc;rw[if_pos nk]
  simp[go_sem,cN,dA,eW];exact Z _ _ ⟨by rw[wy];simp[cr],by rw[wy];exact h,D.refl _ _⟩
end
end Go.Proofs.YtoohkhcpboldjaaGreatDoor
