/- A mount reads an object that has no leaves. Conditions: the variables that are listed hold what the text lays; sizes. -/
import Derived.Test.YtoohkhcpboldjaaGreatDoorMtP
set_option maxRecDepth 100000
set_option linter.unusedSimpArgs false
set_option linter.unusedVariables false
namespace Go.Proofs.YtoohkhcpboldjaaGreatDoor
open Go.RowKit Go.Kin
def ao.yh(n:Nat):List (Nat×Nat)->ao->Bool
 |[],_=>true
 |x::l,s=>decide (1<=x.2/\x.2<n/\s.use x.1 x.2=0)&&ao.yh n l (s.jp n 0 1 x)
theorem aaq{n:Nat}(x:Nat×Nat):∀(l:List (Nat×Nat)) (s:ao),ao.yh n (l++[x]) s=(ao.yh n l s&&decide (1<=x.2/\x.2<n/\(l.foldl (ao.jp n 0 1) s).use x.1 x.2=0))
 |[],s=>by rw[List.nil_append,ao.yh,ao.yh,ao.yh,Bool.and_true,Bool.true_and];rfl
 |y::l,s=>by rw[List.cons_append,ao.yh,ao.yh,aaq x l,Bool.and_assoc];rfl
theorem aiS{n:Nat}:∀(l:List (Nat×Nat)) (s:ao),l.Nodup->(∀x∈l,1<=x.2/\x.2<n/\s.use x.1 x.2=0)->ao.yh n l s=true
 |[],_,_,_=>rfl
 |x::l,s,av,h=>by
  rw[List.nodup_cons]at av;rw[ao.yh,decide_eq_true (h x (by simp)),Bool.true_and];refine aiS l _ av.2 λy ar=> ?_;have k:=h y (by simp[ar]);have an:=(EP (n:=n) (f:=0) (t:=1) (by decide) [x] s).2 y.1 y.2;have vd:¬(y.1,y.2)=x:=λe=>av.1 (by rw[<-e];exact ar);simp only[List.foldl_cons,List.foldl_nil,List.mem_singleton,vd,false_and,if_false]at an;exact⟨k.1,k.2.1,by rw[an];exact k.2.2⟩
section
variable{m p n i:Nat}{z:fe}{s:ao}{aL:Value}{ag:Nat->Nat->Prop}{w w':World}
theorem awg(h:eg w m p n z s aL ag)(aa:i<2)(a:Nat)(am:a<65536):aP Tryz.prog 195 #[.pointer (some ⟨z.b_,0,none⟩),.int .i64 i,.int .u16 a] w λW w'=>(∃k:Int,W=.int .i64 k/\(k=0↔1<=a/\a<n/\s.use i a=0))/\eg w' m p n z (s.jp n 0 1 (i,a)) aL ag/\D (aj (z.g i)) w w':=by
 refine bn Tryz.func195 Tryz.ntmps195 λaZ Z=> ?_;simp[go_sem];refine(SX 0 1 w).mono ?_;rintro _ ab ⟨rfl,t1,aI,bt⟩;have al:=h.cq aa;simp[go_sem];refine(aar (h.ch aI λ_ _ e=>e) aa a am t1 ⟨by omega,by omega⟩).mono ?_;rintro _ ai ⟨⟨k,rfl,r⟩,I,aA⟩;simp[go_sem];exact Z _ _ ⟨⟨k,rfl,r⟩,I,(aI.mono λ_ _ e=>e.elim).trans aA⟩
theorem awh(h:eg w m p n z s aL ag){x:Nat}(M:w.cell? ⟨x,83,none⟩=some (.pointer (some ⟨z.b_,0,none⟩)))(KT:¬jc z x)(lr:x<w.1.size)(q:Pt)(ok:bN q)(hz:tv n s [q]):
  aP Tryz.prog 142 #[.pointer (some ⟨x,0,none⟩),.agg (Y q)] w λW w'=>W=.bool true/\eg w' m p n z (s.iJ n [q]) aL ag/\D (jc z) w w':=by
 refine bn Tryz.func142 Tryz.ntmps142 λaZ Z=> ?_;have cU:=bW ok;have cT:=dW ok;obtain⟨jK,iR⟩:=hz.one;simp[go_sem,cU,cT];obtain⟨ab,de,bj,_,cC,bt,aI⟩:=aiT w (.cells #[.pointer (some ⟨x,0,none⟩)] 77) (.cells (Y q) 44) (.cells #[.bool false] 4);have ba:ab.1[w.1.size+1]? =some (.cells (Y q) 44 (0,0)):=by rw[<-de];exact WB _ _ _ _
 rw[de];obtain⟨g,aF⟩:=az (w.1.size);rw[aF]at bj ba cC bt lr⊢;refine(Kl q ab).mono ?_;rintro _ ai ⟨rfl,aW⟩;have cZ:=cl ab (.cells (Y q) 44);have aA:=(D.refl ak ab).alloc (.cells (Y q) 44);have cw:ai.1.size=ab.1.size+1:=by rw[aW];simp
 rw[<-aW]at cZ aA;have eF:=aI.trans aA;have I:=h.ch eF λ_ _ e=>e;have jd:=aA.obj bj id;have Bv:=aA.obj cC id;have nO:=eF.cell M id;have FE:∀k,jc z k->k<g:=λk r=>by rw[<-aF];exact h.gK k (sc z m p aL ag k r)
 simp[go_sem];obtain⟨ae,bT⟩:∃ae:List Nat->List (Nat×Nat),ae=λpre=>(pre.map (·%4)).map λk=>(k / 2,cP q k):=⟨_,rfl⟩;obtain⟨bg,bP⟩:∃bg:List Nat->World->Prop,bg=λpre N=>ao.yh n (ae pre) s=true/\eg N m p n z ((ae pre).foldl (ao.jp n 0 1) s) aL ag/\N.1[g]? =some (.cells #[.pointer (some ⟨x,0,none⟩)] 77 (0,0))/\N.1[g+2]? =some (.cells #[.bool false] 4 (0,0))/\N.cell? ⟨x,83,none⟩=some (.pointer (some ⟨z.b_,0,none⟩))/\D (jc z) w N:=⟨_,rfl⟩;have Bn:ae (dL q.a 4)=k' q:=by
  have e:(dL q.a 4).map (·%4)=dL q.a 4:=by
   conv=>rhs;rw[<-List.map_id (dL q.a 4)]
   exact List.map_congr_left λk r=>by simpa using Nat.mod_eq_of_lt (Fa r).1
  rw[bT];show((dL q.a 4).map (·%4)).map _=_;rw[e];rfl
 have eR:∀j,j<ab.1.size->¬ai.1.size<=j:=λj F e=>by omega
 refine Mv (NM q ab.1.size _ _ (λk=>jc z k\/k=g+2) ai ok cZ) (D.refl _ _) rfl rfl (by kernel_rfl) ?_ bg (λ_ pre _=>ao.yh n (ae pre) s=false)
  (λx f' _=>f' 5=.int .i64 (x%4 / 2:Nat)/\f' 6=.int .u16 (cP q (x%4))/\f' 2=.pointer (some ⟨g,0,none⟩)/\f' 4=.pointer (some ⟨g+2,0,none⟩)) ?_ ?_ ?_ ?_ ?_ ?_ ?_ ?_
 ·rintro k (r|rfl)
  ·have:=FE k r;omega
  ·omega
 ·rintro pre N bs aD ap;rw[bP]at aD⊢;obtain⟨cR,hh,aK,aW,dt,cW⟩:=aD;exact⟨cR,hh.ch ap.ch λj F=>eR j (by have:=h.gK j F;omega),ap.blk aK,ap.blk aW,ap.ch.cell dt (eR _ (by show x<_;omega)),ap.tS cW eF.size⟩
 ·exact λ_ _ _ _ h _=>h
 ·exact λ_ _ _ _ h _=>h
 ·rw[bP];refine⟨by rw[bT];rfl,?_,jd,Bv,nO,eF.mono λ_ _ e=>e.elim⟩;rw[bT];exact I
 ·rintro pre y N aD;simp[go_sem];refine⟨D.refl _ _,aD,?_,?_⟩
  ·simp[ry]
  ·simp[ry,cP]
 ·rintro pre y f' N aD ⟨cN,f6,bh,cr⟩;rw[bP]at aD;obtain⟨cR,hh,aK,KU,dt,cW⟩:=aD;obtain⟨j,F⟩:=az (y%4);rw[F]at cN f6;have mA:j / 2<2:=by omega
  have gq:N.cell? ⟨g,0,none⟩=some (.pointer (some ⟨x,0,none⟩)):=aG aK 0;have wp:ae (pre++[y])=ae pre++[(j / 2,cP q j)]:=by rw[bT];simp[F]
  simp[go_sem,cN,f6,bh,cr,gq,dt];refine(awg hh mA (cP q j) (Km ok j)).mono ?_;rintro _ eZ ⟨⟨k,rfl,r⟩,af,aE⟩;have oe:D (jc z) N eZ:=aE.mono λa _ e=>MX z mA a e;have aiU:D (λk=>jc z k\/k=g+2) N eZ:=oe.mono λ_ _ e=>.inl e;by_cases kO:k=0
  ·subst kO;simp[go_sem];refine⟨aiU,?_⟩;rw[bP];have bU:=r.1 rfl;refine⟨by rw[wp,aaq,cR];simpa using bU,by rw[wp,List.foldl_append];exact af,oe.obj aK λe=>by have:=FE _ e;omega,oe.obj KU λe=>by have:=FE _ e;omega,oe.cell dt KT,cW.trans oe⟩
  ·have ew:=oe.obj KU λe=>by have:=FE _ e;omega
   have BP:=λi=>aG ew i;have TY:=λi=>dD ew i;have wo:(k !=0)=true:=by simpa using kO
   simp[go_sem,kO,wo,cr,BP,TY];refine⟨aiU.setCell (.inl (.inr rfl)) _,?_⟩;rw[wp,aaq,cR];have:¬(1<=cP q j/\cP q j<n/\((ae pre).foldl (ao.jp n 0 1) s).use (j / 2) (cP q j)=0):=λe=>kO (r.2 e);simpa using this
 ·rintro L N dS aD bi;rw[bP]at aD;obtain⟨cR,hh,aK,KU,dt,cW⟩:=aD;rw[Bn]at hh;have da:L≠g+2:=by omega
  have ew:=λi=>aG KU i;have jS:=λi=>dD KU i;have ag2:∀a,a<ab.1.size->a≠L:=λa am e=>by omega
  have bx:D (λk=>k=g+2\/k=L) N ((N.setCell ⟨g+2,0,none⟩ (.bool true)).putObj L (.deferred none)):=((D.refl _ N).setCell (.inl (.inl rfl)) _).putObj (.inl (.inr rfl)) _;have af:((N.setCell ⟨g+2,0,none⟩ (.bool true)).putObj L (.deferred none)).1[g+2]? =some (.cells #[.bool true] 4 (0,0)):=by
   rw[uU da.symm];simp[KU,OW]
  have OX:=λi=>aG af i;simp[go_sem,ew,jS,SZ,ze,da,bi,OX];refine Z _ _ ⟨rfl,?_,?_⟩
  ·have xT:=hh.ch bx λa am e=>by have:=h.gK a am;omega
   have TZ:s.iJ n [q]=(k' q).foldl (ao.jp n 0 1) s:=rfl;rw[TZ];exact xT
  ·exact cW.bJ bx λj F e=>by omega
 ·rintro L c k N dS r Fc bi;exfalso;have e:ae ((dL q.a 4).take k)=(k' q).take k:=by
   rw[<-Bn,bT];simp[List.map_take]
  rw[e,aiS _ s (jK.sublist (List.take_sublist _ _)) λy ar=>(iR y (List.mem_of_mem_take ar)).2]at Fc
  cases Fc
end
section
variable{N w w':World}{K S:Nat->Prop}{m p n bF:Nat}{z:fe}{X ow:hK}{cp:dy->Nat}
theorem eI.awi(ds:jM cp)(h:eI N w K m p n bF z X)(aH:1200<=vu cp X)(q:Pt)(ok:bN q):aP Tryz.prog 97 #[BQ m,.agg (Y q)] w λW w'=>∃nr hb,W=.tuple #[nr,hb,.int .i64 (vv (kU n) X q).2.2.2]/\
  w'.ownsRow 0 227 45 nr (vv (kU n) X q).2.1.length (dv dF (vv (kU n) X q).2.1)/\w'.ownsRow 0 44 41 hb (vv (kU n) X q).2.2.1.length (dv Y (vv (kU n) X q).2.2.1)/\
  eI N w' (λk=>K k\/nr.ownBlock=some k\/hb.ownBlock=some k) m p n bF z (vv (kU n) X q).1/\(∀k,nr.ownBlock=some k\/hb.ownBlock=some k->w.1.size<=k)/\D (λk=>¬K k) w w':=by
 obtain⟨O,a,b,c⟩:=h.FF;have ck:=h.aiV;have fd:=h.fd.ch h.ch id;have fo:=h.fo.ch h.ch id;have iw:∀j,jl j->¬O j:=λj F=>c j (h.dJ j F);have al:=(lc.ok m p n bF z X).lt a;have aF:=Fh ck fd fo;have OY:rs w jl:=⟨ck,fd,fo,λ_ h=>h⟩;have eR:qd w jl m p n bF z X w (λj=>O j\/jl j):=⟨O,a,λj F=>⟨.inl F,λe=>iw j e F⟩,λj F=>⟨.inr F,rfl⟩,λj F=>F.elim (al j) (aF j)⟩;refine(awj (T_ ds OY) aH (qd.ok _ _ _ _ _ _ _) eR q ok ck (qd.dJ OY)).mono ?_;rintro _ w' ⟨nr,hb,O',rfl,mT,vK,⟨fP,a',aX,bq,ec⟩,qH,aa,av,T⟩;have cs:=T.size;have gu:=h.ch.size;have RJ:D O w w':=(D.nI (B:=jl) T λj F=>(bq j F).2).mono λj _ e=>e.1.resolve_right e.2;have oV:D (λk=>¬K k) w w':=RJ.mono λj _ e r=>c j r e;have OZ:∀k,fP k->O k\/(w.1.size<=k/\k<w'.1.size):=λk r=>by
  obtain⟨ey,cZ⟩:=aX k r;rcases qH k ey with(e|e)|e
  ·exact .inl e
  ·exact absurd e cZ
  ·exact .inr e
 refine⟨nr,hb,rfl,mT,vK,⟨⟨fP,a',λk r=>(OZ k r).elim (b k) λe=>by omega,λk r e=> ?_⟩,λk r=> ?_,h.ck,h.fd,h.fo,λk r=>.inl (h.dJ k r),h.ch.bJ RJ λj F e=>by have:=b j e;omega⟩,λk r=>r.elim (λe=>(aa k e).2) λe=>(av k e).2,oV⟩
 ·rcases r with r|r|r
  ·rcases OZ k e with x|x
   ·exact c k r x
   ·have:=h.lt k r;omega
  ·exact(aa k r).1 (aX k e).1
  ·exact(av k r).1 (aX k e).1
 ·rcases r with r|r|r
  ·have:=h.lt k r;omega
  ·exact vj mT k r
  ·exact vj vK k r
theorem eI.awk(ds:jM cp)(h:eI N w K m p n bF z X)(aH:144<=vu cp X):aP Tryz.prog 98 #[BQ m,.agg (Y ad)] w λW w'=>∃gY hb,W=.tuple #[gY,hb,.int .i64 0]/\w'.ownsRow 0 229 42 gY 0 []/\w'.ownsRow 0 44 41 hb 0 []/\
  eI N w' K m p n bF z X/\D (λk=>¬K k) w w':=by
 refine(h.call (R:=λW w'=>∃gY hb,W=.tuple #[gY,hb,.int .i64 0]/\w'.ownsRow 0 229 42 gY 0 []/\w'.ownsRow 0 44 41 hb 0 []) λO eV aF eS ck fd fo=> ?_).mono λW w' ⟨⟨gY,hb,a,b,c⟩,d,e⟩=>⟨gY,hb,a,b,c,d,e⟩;refine aas ck fd fo eV aF λe V _=>(XX (T_ ds e) aH (qd.ok _ _ _ _ _ _ _) V ad cE ck (qd.dJ e)).mono ?_;have awl:gU (kU n) X ad=(X,[],[],0):=by
  unfold gU jP;rw[if_pos (by decide),if_pos rfl];rfl
 unfold aiW;rw[awl];rintro _ w' ⟨gY,hb,O',rfl,a,b,c,d,_,_,f⟩;exact⟨⟨gY,hb,rfl,a,b⟩,(qd.ok _ _ _ _ _ _ _ _).ex c d (ax.lt ((qd.ok _ _ _ _ _ _ _ _).lt V) f.size),f⟩
theorem eI.awm(h:eI N w K m p n bF z X){x:Nat}(M:w.cell? ⟨x,83,none⟩=some (.pointer (some ⟨z.b_,0,none⟩)))(KV:K x)(q:Pt)(ok:bN q)(hz:tv n X.s [q]):
  aP Tryz.prog 142 #[.pointer (some ⟨x,0,none⟩),.agg (Y q)] w λW w'=>W=.bool true/\eI N w' K m p n bF z ⟨X.s.iJ n [q],X.cy⟩/\D (λk=>¬K k) w w':=by
 have lr:=h.lt x KV;refine h.call λO eV aF eS _ _ _=> ?_;obtain⟨aL,ag,H,I,af,aU,bC,cG⟩:=eV;have aiX:∀k,jc z k->O k:=λk r=>aU k (sc z m p aL ag k r);refine(awh H M (λe=>eS x KV (aiX x e)) lr q ok hz).mono ?_;rintro _ w' ⟨rfl,a',aX⟩;have cs:=aX.size;exact⟨rfl,⟨aL,ag,a',aX.obj I λe=>af (sc z m p aL ag _ e),af,λj F=>.inl (aU j F),.inl bC,ax.lt cG cs⟩,aX.mono λk _ e=>aiX k e⟩
end
def iW(st:e')(a b:Value)(f m o:Int)(l:Value):Array Value:=cz st++#[a,b,.int .i64 f,.int .i64 m,.int .i64 o,l]
section
variable{a b l y:Value}{f m o:Int}{st:e'}
theorem O_(ok:gV st):(iW st a b f m o l).size=89:=by simp[iW,iQ ok]
theorem aat(ok:gV st):(iW st a b f m o l)[83]? =some a:=by simp[iW,Array.getElem?_append,iQ ok]
theorem KW(ok:gV st):(iW st a b f m o l)[84]? =some b:=by simp[iW,Array.getElem?_append,iQ ok]
theorem awn(ok:gV st):(iW st a b f m o l)[88]? =some l:=by simp[iW,Array.getElem?_append,iQ ok]
theorem awo(ok:gV st){f' m' eX:Int}:(((iW st a b f m o l).setIfInBounds 85 (.int .i64 f')).setIfInBounds 86 (.int .i64 m')).setIfInBounds 87 (.int .i64 eX)=iW st a b f' m' eX l:=by
 have al:(cz st).toList.length=83:=by simpa using iQ ok
 unfold iW;apply Array.ext';simp[List.set_append,al]
theorem aiY(ok:gV st):(iW st a b f m o l).extract 0 83=cz st:=by
 have h:=iQ ok;unfold iW;apply Array.ext';simp[h];exact List.take_of_length_le (by simp[h])
theorem awp{fT:e'}(ok:gV st)(qq:gV fT):d' (iW st a b f m o l) 0 (cz fT)=iW fT a b f m o l:=by
 have h:=iQ ok;have h':=iQ qq;unfold d' iW;apply Array.ext';simp[h,h']
end
theorem awq:(Tryz.prog.info? 206).map (λi=>i.zero.isSome)=some true:=by kernel_rfl
theorem awr:ln Tryz.prog 206=iW dO (.pointer none) (.pointer none) 0 0 0 (.slice none 0 0):=by kernel_rfl
theorem aws{a b:Option Addr}{w:World}{K:Value->World->Prop}:hX Tryz.prog 206 [(1,.pointer a),(2,.pointer b)] w K=K (.agg (iW dO (.pointer a) (.pointer b) 0 0 0 (.slice none 0 0))) w:=by
 refine lp Tryz.underlying206 awq (places:=#[(0,83),(83,1),(84,1),(85,3),(88,1)]) (by simp[go_sem]) ?_;have aw:=iQ kR;have hz:=O_ (a:=.pointer none) (b:=.pointer none) (l:=.slice none 0 0) (f:=0) (m:=0) (o:=0) kR;have al:(cz dO).toList.length=83:=by simpa using aw
 simp[iH,awr,Value.cells,hz,tI];unfold d' iW;apply Array.ext';simp[List.take_append,List.drop_append,al,List.take_of_length_le,List.drop_of_length_le]
theorem aiZ(a b c:Option Addr)(h:a=none\/b=none\/c=none)(w:World):aP Tryz.prog 86 #[.pointer a,.pointer b,.pointer c] w λW w'=>W=.tuple #[.pointer none,.int .i64 2]/\w'=w:=by
 refine bn Tryz.func86 Tryz.ntmps86 λaZ Z=> ?_
 cases a with
 |none=>
  simp[go_sem];exact Z _ _ ⟨rfl,rfl⟩
 |some a=>
  cases b with
  |none=>
   simp[go_sem];exact Z _ _ ⟨rfl,rfl⟩
  |some b=>
   obtain rfl:c=none:=by simpa using h
   simp[go_sem];exact Z _ _ ⟨rfl,rfl⟩
theorem awt(a b s:Addr)(w:World):aP Tryz.prog 56 #[.pointer (some a),.pointer (some b),.pointer (some s)] w λW w'=>W=.tuple #[.pointer (some ⟨w.1.size,0,none⟩),.int .i64 0]/\w'=w.alloc (.cells #[.pointer (some a),.pointer (some b),.pointer (some s),.int .i64 0,.int .i64 0,.int .i64 0,.int .i64 0,.slice none 0 0] 245):=by
 refine bn Tryz.func56 Tryz.ntmps56 λZD xY=> ?_;simp[go_sem];exact xY _ _ ⟨rfl,rfl⟩
theorem ai0(ce:Nat->Nat)(kG:∀i,i<2->1<=ce i/\ce i<=4096)(a b c:Addr)(w:World)
  (bf:aP Tryz.prog 88 #[.pointer (some a)] w λW w'=>W=.int .i64 (ce 0)/\w'=w)(H:aP Tryz.prog 88 #[.pointer (some b)] w λW w'=>W=.int .i64 (ce 1)/\w'=w):
  aP Tryz.prog 86 #[.pointer (some a),.pointer (some b),.pointer (some c)] w λW w'=>∃b_ g m,W=.tuple #[.pointer (some ⟨m+1,0,none⟩),.int .i64 0]/\aau w' b_ g ce w.1.size/\(b_<m/\g 0<m/\g 1<m)/\
   w'.1[m]? =some (.cells #[.pointer (some a),.pointer (some b),.pointer (some ⟨b_,0,none⟩),.int .i64 0,.int .i64 0,.int .i64 0,.int .i64 0,.slice none 0 0] 245 (0,0))/\
   w'.1[m+1]? =some (.cells (iW dO (.pointer (some ⟨b_,0,none⟩)) (.pointer (some ⟨m,0,none⟩)) 0 0 0 (.slice none 0 0)) 206 (0,0))/\D ak w w':=by
 refine bn Tryz.func86 Tryz.ntmps86 λaZ Z=> ?_;simp[go_sem];refine bf.mono ?_;rintro _ ab ⟨rfl,e⟩;subst e;simp[go_sem];refine H.mono ?_;rintro _ ab ⟨rfl,e⟩;subst e;simp[go_sem];refine(ai1 ce ab kG).mono ?_;rintro _ ai ⟨b_,g,rfl,⟨bt,cw,gL,hv⟩,aA⟩;simp[go_sem];refine(awt a b ⟨b_,0,none⟩ ai).mono ?_;rintro _ aC ⟨rfl,hk⟩;have lm:=lt_of_block bt;have jD:=lt_of_block (cw 0 (by omega));have nT:=lt_of_block (cw 1 (by omega));have aE:=(D.refl ak ai).alloc (.cells #[.pointer (some a),.pointer (some b),.pointer (some ⟨b_,0,none⟩),.int .i64 0,.int .i64 0,.int .i64 0,.int .i64 0,.slice none 0 0] 245);have cm:=cl ai (.cells #[.pointer (some a),.pointer (some b),.pointer (some ⟨b_,0,none⟩),.int .i64 0,.int .i64 0,.int .i64 0,.int .i64 0,.slice none 0 0] 245);have dt:aC.1.size=ai.1.size+1:=by rw[hk];simp
 rw[<-hk]at aE cm;have bv:=(D.refl ak aC).alloc (.cells (iW dO (.pointer (some ⟨b_,0,none⟩)) (.pointer (some ⟨ai.1.size,0,none⟩)) 0 0 0 (.slice none 0 0)) 206);have ci:=cl aC (.cells (iW dO (.pointer (some ⟨b_,0,none⟩)) (.pointer (some ⟨ai.1.size,0,none⟩)) 0 0 0 (.slice none 0 0)) 206);have hz:=O_ (a:=.pointer (some ⟨b_,0,none⟩)) (b:=.pointer (some ⟨ai.1.size,0,none⟩)) (l:=.slice none 0 0) (f:=0) (m:=0) (o:=0) kR;have pS:=aE.trans bv;rw[dt]at ci;simp[go_sem,aws,hz,dt];exact Z _ _ ⟨b_,g,ai.1.size,rfl,⟨pS.obj bt id,λi aa=>pS.obj (cw i aa) id,gL,hv⟩,⟨lm,jD,nT⟩,bv.obj cm id,ci,(aA.trans aE).trans bv⟩
section
variable{N w w':World}{K S:Nat->Prop}{m p n bF:Nat}{z:fe}{X:hK}
theorem eI.T'(h:eI N w K m p n bF z X)(H:1<=n)(I:n<=4096):aP Tryz.prog 86 #[.pointer (some ⟨z.d 0,0,none⟩),.pointer (some ⟨z.d 1,0,none⟩),.pointer (some ⟨bF,0,none⟩)] w λW w'=>∃m' z',W=.tuple #[.pointer (some ⟨m'+1,0,none⟩),.int .i64 0]/\
   w'.1[m'+1]? =some (.cells (iW dO (.pointer (some ⟨z'.b_,0,none⟩)) (.pointer (some ⟨m',0,none⟩)) 0 0 0 (.slice none 0 0)) 206 (0,0))/\eI N w' (λk=>K k\/k=m'+1) m' p n bF z' X.iE/\z'.d=z.d/\w.1.size<=m'/\D ak w w':=by
 obtain⟨O,⟨aL,ag,a',aX,bq,ec,ft,iI⟩,b,c⟩:=h.FF;refine(ai0 (λ_=>n) (λ_ _=>⟨H,I⟩) ⟨z.d 0,0,none⟩ ⟨z.d 1,0,none⟩ ⟨bF,0,none⟩ w (a'.jv 0 (by omega)).ZB (a'.jv 1 (by omega)).ZB).mono ?_;rintro _ w' ⟨b_,g,m',rfl,⟨bt,cw,gL,hv⟩,l,hG,pt,T⟩;have hm:∀i,i<2->∀k,ag i k->fR z m p aL ag k:=λi aa k r=>by
  rcases jo aa with rfl|rfl
  ·exact .inr (.inl r)
  ·exact .inr (.inr (.inl r))
 have yB:∀i,i<2->∀k,ag i k->k<w.1.size:=λi aa k r=>iI k (ec k (hm i aa k r));have tu:O p:=ec p (.inr (.inr (.inr rfl)));have wu:=iI p tu;have ew:=iI bF ft;have ai2:=h.ch.size;have KX:=lt_of_block pt;have pU:∀k,zH ⟨z.d,b_,g⟩ m' (.slice none 0 0) k->w.1.size<=k/\k<=m':=λk r=>by
  rcases r with r|r|r|r|r
  ·omega
  ·simp only at r;omega
  ·simp only at r;omega
  ·simp only at r;omega
  ·simp[Value.ownBlock]at r
 have dZ:eg w' m' p n ⟨z.d,b_,g⟩ X.iE.s (.slice none 0 0) ag:=by
  refine⟨hG,λi aa=> ?_,bt,λi aa=>cw i aa,World.ownsRow_nil _ _ _ _,λq aq=>by simp[hK.iE,ao.fh]at aq,a'.Bu,⟨by simp only;omega,by simp only;omega,by simp only;omega,gL.1,gL.2.1,gL.2.2⟩,λk r=>⟨λe=> ?_,λe=> ?_,?_⟩,λk r=>by simp[Value.ownBlock]at r⟩
  ·exact(a'.jv i aa).ch T (λ_ _ e=>e) id
  ·have:=pU k r;have:=yB 0 (by omega) k e;omega
  ·have:=pU k r;have:=yB 1 (by omega) k e;omega
  ·have:=pU k r;omega
 have qH:∀k,fR ⟨z.d,b_,g⟩ m' p (.slice none 0 0) ag k->O k\/(w.1.size<=k/\k<=m'):=λk r=>by
  rcases r with r|r|r|r
  ·exact .inr (pU k r)
  ·exact .inl (ec k (hm 0 (by omega) k r))
  ·exact .inl (ec k (hm 1 (by omega) k r))
  ·exact .inl (by rw[r];exact tu)
 refine⟨m',⟨z.d,b_,g⟩,rfl,pt,⟨⟨λk=>fR ⟨z.d,b_,g⟩ m' p (.slice none 0 0) ag k\/k=bF,⟨.slice none 0 0,ag,dZ,T.obj aX id,λe=> ?_,λ_ r=>.inl r,.inr rfl,λk r=> ?_⟩,λk r=> ?_,λk r e=> ?_⟩,λk r=> ?_,h.ck,h.fd,h.fo,λk r=>.inl (h.dJ k r),h.ch.trans T⟩,rfl,by omega,T⟩
 ·rcases e with e|e|e|e
  ·have:=pU _ e;omega
  ·exact bq (hm 0 (by omega) _ e)
  ·exact bq (hm 1 (by omega) _ e)
  ·exact bq (.inr (.inr (.inr e)))
 ·rcases r with r|r
  ·rcases qH k r with r|r
   ·have:=iI k r;have:=T.size;omega
   ·omega
  ·rw[r];have:=T.size;omega
 ·rcases r with r|r
  ·rcases qH k r with r|r
   ·exact b k r
   ·omega
  ·rw[r];exact b bF ft
 ·have ai3:O k\/(w.1.size<=k/\k<=m'):=e.elim (qH k) λe=>.inl (by rw[e];exact ft);rcases r with r|r
  ·rcases ai3 with x|x
   ·exact c k r x
   ·have:=h.lt k r;omega
  ·rcases ai3 with x|x
   ·have:=iI k x;omega
   ·omega
 ·rcases r with r|r
  ·have:=h.lt k r;have:=T.size;omega
  ·rw[r];exact KX
end
section
variable{N w w':World}{K S:Nat->Prop}{m p n bF:Nat}{z:fe}{X:hK}{cp:dy->Nat}
theorem eI.awu(ds:jM cp)(h:eI N w K m p n bF z X)(aH:144<=vu cp X){x:Nat}(eS:K x)(fu:N.1.size<=x)(KT:¬jl x){st:e'}(ns:gV st){l:Value}
  (V:w.1[x]? =some (.cells (iW st (.pointer (some ⟨z.b_,0,none⟩)) (.pointer (some ⟨m,0,none⟩)) 0 0 0 l) 206 (0,0)))(iY:Nat×br)(vw:kM iY)(ap:iY.2.J=ad)(av:iY.2.n≠0)(mk:Value):
  aP Tryz.prog 143 #[.pointer (some ⟨x,0,none⟩),.agg (dF iY),mk] w λW w'=>W=.bool true/\w'.1[x]? =some (.cells (iW st (.pointer (some ⟨z.b_,0,none⟩)) (.pointer (some ⟨m,0,none⟩)) 0 0 1 l) 206 (0,0))/\eI N w' K m p n bF z X/\D (λk=>¬K k\/k=x) w w':=by
 refine bn Tryz.func143 Tryz.ntmps143 λaZ Z=> ?_;have xM:=nG vw;have NQ:=zu vw;have lr:=lt_of_block V;have aav:=(aG V 84).trans (KW ns);simp[go_sem,xM,NQ];have aI:=(D.refl ak w).alloc (.cells (dF iY) 227);have ba:=cl w (.cells (dF iY) 227);obtain⟨g,aF⟩:=az (w.1.size);obtain⟨ab,de⟩:=az (w.alloc (.cells (dF iY) 227));have bt:ab.1.size=g+1:=by rw[<-de,<-aF];simp
 rw[de]at aI ba⊢;rw[aF]at ba⊢;clear de;have H:=h.li aI;have Pa:ab.drew.cell? ⟨x,84,none⟩=some (.pointer (some ⟨m,0,none⟩)):=aI.cell aav id;have pX:ab.drew.1[g]? =some (.cells (dF iY) 227 (0,0)):=ba;have Ua:(dF iY).extract 4 45=Y ad:=by
  rw[<-ap,<-Jp vw.i,<-SL vw];apply Array.ext';simp
 refine cD [A 0,A 1,A 2,A 3,A 4,A 5,A 6,A 7,(8,some []),A 9,A 10,A 11,A 12,A 13,A 14,A 15] ?_;simp[go_sem,Pa,ba,pX,xM,Ua];have Fq:=(H.li (D.refl ak ab).drew).nI (λk r=>Or.inl r) (λk r=>H.dJ k r);refine(Fq.awk ds aH).mono ?_;rintro _ ai ⟨gY,hb,rfl,Ub,on,I,aA⟩;have ai4:=(bD.fp Ub).len Tryz.underlying223 3;have awv:=(bD.fp on).len Tryz.underlying87 3;simp[go_sem,ai4];refine du (λJ f u=>J=0/\f 0=.pointer (some ⟨x,0,none⟩)/\f 4=.pointer (some ⟨g,0,none⟩)/\f 7=gY/\f 8=hb/\f 30=.int .i64 0/\f 31=.int .i64 0/\ai=u) 0 ⟨rfl,by simp,by simp,by simp,by simp,by simp,by simp,rfl⟩ ?_;rintro cJ bK _ f u ⟨_,f0,cr,cg,bz,DA,FG,rfl⟩;simp[go_sem,DA,FG,bz,awv];refine du (λJ f u=>J=0/\f 0=.pointer (some ⟨x,0,none⟩)/\f 4=.pointer (some ⟨g,0,none⟩)/\f 7=gY/\f 42=.int .i64 0/\f 43=.int .i64 0/\ai=u) 0 ⟨rfl,by simp[f0],by simp[cr],by simp[cg],by simp,by simp,rfl⟩ ?_;rintro CO pV _ f u ⟨_,f0,cr,cg,Pb,HU,rfl⟩;simp[go_sem,Pb,HU];have zv:g≠x:=by omega
 have cC:ai.1[x]? =_:=aA.obj (aI.obj V id) λe=>e (.inl eS);have aww:ai.1[g]? =_:=aA.obj pX λe=>e (.inr ⟨by omega,by rw[bt];omega⟩);have fX:=λj=>aG cC j;have n_:=λj=>aG aww j;have rB:=λj=>dD cC j;have tw:ai.cell? ⟨g,1,none⟩=some (.int .u8 iY.2.k):=(n_ 1).trans rfl;have g':ai.cell? ⟨g,2,none⟩=some (.int .u16 iY.2.n):=(n_ 2).trans rfl;have fD:ai.cell? ⟨x,85,none⟩=some (.int .i64 0):=by rw[fX];simp[iW,Array.getElem?_append,iQ ns]
 have hw:ai.cell? ⟨x,86,none⟩=some (.int .i64 0):=by rw[fX];simp[iW,Array.getElem?_append,iQ ns]
 have hi:ai.cell? ⟨x,87,none⟩=some (.int .i64 0):=by rw[fX];simp[iW,Array.getElem?_append,iQ ns]
 refine cD [A 0,A 1,A 2,A 3,A 4,A 5,A 6,A 7,A 8,A 9,(10,some [0]),A 11,A 12,(13,some [])] ?_;have mc:ai.drew.cell? ⟨x,85,none⟩=some (.int .i64 0):=fD;have ub:ai.drew.cell? ⟨x,86,none⟩=some (.int .i64 0):=hw;have awx:ai.drew.cell? ⟨x,87,none⟩=some (.int .i64 0):=hi;have au:ai.drew.cell? ⟨g,1,none⟩=some (.int .u8 iY.2.k):=tw;simp[go_sem,f0,cr,cg,ai4,fD,hw,hi,mc,ub,awx,tw,au];have xv:qs ai.drew:=(I.fo.ch I.ch id).ch (D.refl ak ai).drew id;have ij:KB ai.drew:=⟨xv 0 0 rfl,xv 1 1 rfl,xv 2 2 rfl,xv 3 2 rfl⟩;refine(auz 0 0 0 iY.2.k 0 1 ai.drew vw.i.k ij).mono ?_;have pf:IntKind.i64.wrap (0+0)=0:=by decide
 have de:IntKind.i64.wrap (0+1)=1:=by decide
 rw[pf,de,ite_self,ite_self];unfold HM;rintro _ aC ⟨rfl,aE⟩;have sG:D ak ai aC:=D.iy aE;have cm:=sG.obj cC id;have jV:=λj=>aG cm j;have z3:=λj=>dD cm j;have awy:=sG.cell g' id;have uW:=sG.cell fD id;have Jv:=sG.cell hw id;have HV:=sG.cell hi id;have Bb:((iY.2.n:Int)==0)=false:=beq_false_of_ne (by omega);simp[go_sem,f0,cr,uW,Jv,HV,z3,awy,av,Bb];have bv:D (aj x) aC (((aC.setCell ⟨x,85,none⟩ (.int .i64 0)).setCell ⟨x,86,none⟩ (.int .i64 0)).setCell ⟨x,87,none⟩ (.int .i64 1)):=(((D.refl (aj x) aC).setCell (p:=⟨x,85,none⟩) (.inl rfl) _).setCell (p:=⟨x,86,none⟩) (.inl rfl) _).setCell (p:=⟨x,87,none⟩) (.inl rfl) _;have Bp:D (λk=>¬K k\/k=x) w (((aC.setCell ⟨x,85,none⟩ (.int .i64 0)).setCell ⟨x,86,none⟩ (.int .i64 0)).setCell ⟨x,87,none⟩ (.int .i64 1)):=
  ((D.trans (aI.mono λ_ _ e=>e.elim) (D.iy (aA.mono λk _ e=>.inl λtw=>e (.inl tw)))).trans (sG.mono λ_ _ e=>e.elim)).trans (bv.mono λk _ e=>.inr e)
 have af:=(I.li sG).own bv λk r=>by
  simp only[aj]at r;subst r;exact⟨.inl (.inl eS),fu⟩
 refine Z _ _ ⟨rfl,?_,af.nI (λk r=>.inl (.inl (.inl r))) h.dJ,Bp⟩;rw[eY,eY,eY,cm,gp,gp,gp,awo ns]
end
end Go.Proofs.YtoohkhcpboldjaaGreatDoor
