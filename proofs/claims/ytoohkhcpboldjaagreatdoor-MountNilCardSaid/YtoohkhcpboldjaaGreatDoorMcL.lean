/- The maker of a commit's blocks, in plain Lean: addresses given out, held, turned; copies written and read on disks that are calm. They speak of no program. No condition. -/
import Derived.Test.YtoohkhcpboldjaaGreatDoorTdA
set_option maxRecDepth 100000
set_option linter.unusedSimpArgs false
set_option linter.unusedVariables false
namespace Go.Proofs.YtoohkhcpboldjaaGreatDoor
open Go.RowKit Go.Kin
structure ks(w:World)(d p n:Nat)(L:bR)(P:ek)(O:Nat->Prop):Prop where
 au:Ez w d p n L O
 tm:rl w p P
 zI:¬O p
theorem ek.ahD{P:ek}{k:Int}(h:P.dq<=k)(r:0<=k):P.step.dq<=k:=by
 unfold ek.step
 grind
section
variable{w w':World}{d p n:Nat}{L:bR}{P:ek}{O S:Nat->Prop}
theorem ks.ch(h:ks w d p n L P O)(T:D S w w')(av:∀k,O k->¬S k)(ah:¬S p):ks w' d p n L P O:=⟨h.au.ch T av,h.tm.ch T ah,h.zI⟩
theorem ks.ahE(h:ks w d p n L P O):p<w.1.size:=lt_of_block h.tm
theorem ks.gK(h:ks w d p n L P O):∀k,O k->k<w.1.size:=by
 obtain⟨z,cn,bo,H⟩:=h.au;exact H.gK
theorem ks.cq(h:ks w d p n L P O):¬ax O w w' p:=λe=>e.elim h.zI λe=>by have:=h.ahE;omega
theorem ks.at6(h:ks w d p n L P O)(a:Nat)(am:a<65536)(b:cX)(v:Value)(tn:P.dq<=9223372036854775807)(ew:L.bB.length<=1000000)(Fp:∀x,L.fv=some x->x<65536)(aS:bD w v b.length (bm b))(hS:0<b.length->∀k,v.ownBlock=some k->¬O k/\k≠p):
  aP Tryz.prog 219 #[.pointer (some ⟨d,0,none⟩),.int .u16 a,v] w λW w'=>W=.int .i64 (wv (L.lG n P a b))/\ks w' d p n (L.ha n P a b) (L.qP n P a b) (ax O w w')/\D (λk=>O k\/k=p) w w':=by
 obtain⟨z,cn,bo,H⟩:=h.au;refine(ahF a am b v P H h.tm h.zI tn ew Fp aS hS).mono ?_;rintro _ ab ⟨rfl,I,af,aU,_⟩;exact⟨rfl,⟨I.at,af,h.cq⟩,aU⟩
theorem ks.ha(h:ks w d p n L P O)(a:Nat)(am:a<65536)(b:cX)(v:Value)(tn:P.dq<=9223372036854775807)(ew:L.bB.length<=1000000)(Fp:∀x,L.fv=some x->x<65536)(aS:bD w v b.length (bm b))(hS:∀k,v.ownBlock=some k->¬O k/\k≠p):
  aP Tryz.prog 219 #[.pointer (some ⟨d,0,none⟩),.int .u16 a,v] w λW w'=>W=.int .i64 (wv (L.lG n P a b))/\ks w' d p n (L.ha n P a b) (L.qP n P a b) (ax O w w')/\D (λk=>O k\/k=p) w w':=h.at6 a am b v tn ew Fp aS λ_=>hS
theorem ks.d_(h:ks w d p n L P O)(tn:P.dq<=9223372036854775807)(ew:L.bB.length<=1000000):
  aP Tryz.prog 127 #[.pointer (some ⟨d,0,none⟩)] w λW w'=>W=.int .i64 (if L.fk P&&P.bI then 0 else 3)/\ks w' d p n (if L.fk P&&P.bI then L.d_ else L) (if L.fk P then P.step else P) (ax O w w')/\D (λk=>O k\/k=p) w w':=by
 obtain⟨z,cn,bo,H⟩:=h.au;refine(at7 P H h.tm h.zI tn ew).mono ?_;rintro _ ab ⟨rfl,I,af,aU⟩;exact⟨rfl,⟨I,af,h.cq⟩,aU⟩
theorem ks.vo(h:ks w d p n L P O)(a:Nat)(am:a<65536):aP Tryz.prog 257 #[.pointer (some ⟨d,0,none⟩),.int .u16 a] w λW w'=>aeW w n L P a W w'/\ks w' d p n L P O/\D ak w w':=by
 obtain⟨z,cn,bo,H⟩:=h.au;refine(ap2 a am P H h.tm).mono ?_;rintro _ ab ⟨I,af⟩;exact⟨I,h.ch af (λ_ _ e=>e) id,af⟩
theorem ks.bS(h:ks w d p n L P O):aP Tryz.prog 92 #[.pointer (some ⟨d,0,none⟩)] w λW w'=>W=.bool L.bS/\w'=w:=by
 obtain⟨z,cn,bo,H⟩:=h.au;exact aeH H
theorem ks.ZB(h:ks w d p n L P O):aP Tryz.prog 88 #[.pointer (some ⟨d,0,none⟩)] w λW w'=>W=.int .i64 n/\w'=w:=by
 obtain⟨z,cn,bo,H⟩:=h.au;exact apj H
end
theorem ahG(n p:Nat)(w:World)(P:ek)(H:1<=n)(I:n<=4096)(ah:rl w p P):aP Tryz.prog 54 #[.int .i64 n,.pointer (some ⟨p,0,none⟩)] w λW w'=>∃d,W=.tuple #[.pointer (some ⟨d,0,none⟩),.int .i64 0]/\ks w' d p n bR.fh P (λk=>w.1.size<=k/\k<w'.1.size)/\D ak w w':=by
 refine(at8 n p w H I).mono ?_;rintro _ ab ⟨d,rfl,af,aU⟩;exact⟨d,rfl,⟨af,ah.ch aU id,λe=>by have:=lt_of_block ah;omega⟩,aU⟩
theorem at9(w:World):aP Tryz.prog 53 #[] w λW w'=>W=.pointer (some ⟨w.1.size,0,none⟩)/\rl w' w.1.size ek.on/\D ak w w':=(api w).mono λ_ _ h=>⟨h.1,h.2.1,h.2.2.1⟩
section
variable{N w w' w0:World}{d p:Nat}{L:bR}{O K:Nat->Prop}
end
def hM{ct:Type}(f:Nat->ct)(i:Nat)(x:ct):Nat->ct:=λj=>if j=i then x else f j
@[simp] theorem zL{ct:Type}(f:Nat->ct)(i:Nat)(x:ct):hM f i x i=x:=by simp[hM]
theorem vp{ct:Type}(f:Nat->ct){i j:Nat}(x:ct)(h:j≠i):hM f i x j=f j:=by simp[hM,h]
structure ao where
 au:Nat->bR
 P:ek
 use:Nat->Nat->Nat
 dV:Nat->Nat->Bool
 ep:Nat->Nat
 e_:Nat->Nat
 dx:List Pt
def rC(p:Pt)(b:cX):Bool:=decide (b.length=512)&&decide (sr p b=p.h)
theorem XU{p:Pt}{b:cX}(h:rC p b=true):b.length=512:=by
 unfold rC at h
 grind
def cP(p:Pt)(k:Nat):Nat:=p.a.getD k 0
theorem Km{p:Pt}(ok:bN p)(k:Nat):cP p k<65536:=by
 unfold cP;rw[List.getD_eq_getElem?_getD]
 cases h:p.a[k]? with
 |none=>simp
 |some x=>exact ok.dn x (List.mem_of_getElem? h)
def ao.ko(n:Nat)(s:ao)(p:Pt)(k:Nat):Option cX:=if(s.au (k / 2)).fk s.P then((s.au (k / 2)).m_ n (cP p k)).filter (rC p)else none
structure Ha where
 aR:Nat->Nat
 blk:Option cX
 dT:List Nat
def ao.step(n:Nat)(s:ao)(p:Pt)(t:Ha)(k:Nat):Ha:=match s.ko n p k with
 |some x=>if t.blk.isNone then{t with blk:=some x}else t
 |none=>if(s.au (k / 2)).bS then t else{t with aR:=hM t.aR (k / 2) (t.aR (k / 2)+1),dT:=t.dT++[k]}
def ao.run(n:Nat)(s:ao)(p:Pt)(l:List Nat):Ha:=l.foldl (s.step n p) ⟨s.ep,none,[]⟩
theorem ao.Kt(n:Nat)(s:ao)(p:Pt)(l:List Nat)(k:Nat):s.run n p (l++[k])=s.step n p (s.run n p l) k:=by simp[ao.run]
def ao.qo(n:Nat)(s:ao)(p:Pt):List Nat->List Nat
 |[]=>[]
 |k::l=>if(s.ko n p k).isSome then[k]else k::s.qo n p l
theorem ao.ahH(n:Nat)(s:ao)(p:Pt){l:List Nat}(h:∀k∈l,s.ko n p k=none):s.qo n p l=l:=by
 induction l with
 |nil=>rfl
 |cons k l bG=>
  rw[ao.qo,h k (by simp),bG λx M=>h x (by simp[M])];rfl
theorem ao.ahI(n:Nat)(s:ao)(p:Pt){l:List Nat}{x:Nat}{J:List Nat}(h:∀k∈l,s.ko n p k=none)(M:(s.ko n p x).isSome=true):s.qo n p (l++x::J)=l++[x]:=by
 induction l with
 |nil=>rw[List.nil_append,ao.qo,if_pos M];rfl
 |cons k l bG=>
  rw[List.cons_append,ao.qo,h k (by simp),bG λx M=>h x (by simp[M])];rfl
def ao.og(n:Nat)(s:ao)(p:Pt)(all:Bool):List Nat:=if all then dL p.a 4 else s.qo n p (dL p.a 4)
def ao.mf(n:Nat)(s:ao)(p:Pt)(b:cX)(k:Nat):ao:={s with au:=hM s.au (k / 2) ((s.au (k / 2)).ha n s.P (cP p k) b),P:=(s.au (k / 2)).qP n s.P (cP p k) b}
def ao.vq(n:Nat)(s:ao)(d a:Nat):ao:=if a=0\/n<=a then s else{s with dV:=hM s.dV d (hM (s.dV d) a true)}
def ao.Oi(s:ao)(p:Pt):ao:=if s.dx.contains p then s else{s with dx:=s.dx++[p]}
def ao.ss(n:Nat)(p:Pt)(b:cX)(s:ao)(k:Nat):ao:=
 let t:=s.mf n p b k
 if(t.ko n p k).isSome then{t with e_:=hM t.e_ (k / 2) (t.e_ (k / 2)+1)}else(t.vq n (k / 2) (cP p k)).Oi p
def ao.mB(n:Nat)(s:ao)(p:Pt)(all:Bool):ao×cX×Int:=
 if iX p then
  let t:=s.run n p (s.og n p all)
  match t.blk with
  |none=>({s with ep:=t.aR},[],21)
  |some b=>(t.dT.foldl (ao.ss n p b) {s with ep:=t.aR},b,0)
 else(s,[],1)
def Oj(L:bR)(n:Nat)(P:ek)(a:Nat)(b:cX):Bool:=match L.lG n P a b with
 |.ok=>true
 |_=>false
def ao.put(n:Nat)(p:Pt)(b:cX)(t:ao×Int)(k:Nat):ao×Int:=(t.1.mf n p b k,if Oj (t.1.au (k / 2)) n t.1.P (cP p k) b then 0 else t.2)
def ao.ha(n:Nat)(s:ao)(p:Pt)(b:cX):ao×Int:=if iX p&&rC p b then(dL p.a 4).foldl (ao.put n p b) (s,21)else(s,1)
def ao.kS(s:ao)(d:Nat):ao×Bool:=
 ({s with au:=hM s.au d (if(s.au d).fk s.P&&s.P.bI then(s.au d).d_ else s.au d),P:=if(s.au d).fk s.P then s.P.step else s.P},(s.au d).fk s.P&&s.P.bI)
def ao.d_(s:ao):ao×Int:=((((s.kS 0).1).kS 1).1,if(s.kS 0).2||(((s.kS 0).1).kS 1).2 then 0 else 21)
theorem Fa{a:List Nat}{k:Nat}(h:k∈dL a 4):k<4/\a.getD k 0≠0:=by
 unfold dL at h
 grind
end Go.Proofs.YtoohkhcpboldjaaGreatDoor
namespace Go.Kin
open Go Go.RowKit
def lH(w w':World):Prop:=∀(k:Nat) (o:Obj),w.1[k]? =some o->o.isCells=false->w'.1[k]? =some o
theorem lH.trans{w ab ai:World}(h:lH w ab)(k:lH ab ai):lH w ai:=λi o aa aB=>k i o (h i o aa aB) aB
theorem lH.hI{S:Nat->Prop}{w w':World}(T:D S w w')(cf:∀k,S k->k<w.1.size->∃cs t fr,w.1[k]? =some (.cells cs t fr)):lH w w':=λk o r aB=>by
 refine T.obj r λe=> ?_;have aO:k<w.1.size:=by
  obtain⟨h,_⟩:=Array.getElem?_eq_some_iff.1 r;exact h
 obtain⟨cs,t,fr,V⟩:=cf k e aO;rw[V]at r
 cases r
 cases aB
theorem lH.nw{w w':World}(T:D ak w w'):lH w w':=lH.hI T λ_ e=>e.elim
theorem lH.drew{w w':World}(h:lH w w'):lH w w'.drew:=h
theorem lH.setCell{w w':World}(h:lH w w'){g i:Nat}{cs:Array Value}{bl:TypeId}{fr:Nat×Nat}(V:w'.1[g]? =some (.cells cs bl fr))(v:Value):lH w (w'.setCell ⟨g,i,none⟩ v):=
 h.trans (lH.hI ((D.refl (λk=>k=g) w').setCell (p:=⟨g,i,none⟩) (.inl rfl) v) λk r _=>by grind)
theorem lH.from{w w':World}(h:lH w w')(aw:w.1.size<=w'.1.size)(B:Nat):KeepsFrom B w w':=⟨aw,λk o _ r aB=>h k o r aB⟩
def Tq(S:Nat->Prop)(B:Nat)(N:World)(bg:World->Prop)(gB:Code->World->Prop):gr
 |.normal,_,_,bs=>(KeepsFrom B N bs/\D (λk=>S k\/B<=k) N bs)/\bg bs
 |.ret,_,_,bs=>KeepsFrom B N bs/\gB .ret bs
 |.exit id,_,_,bs=>KeepsFrom B N bs/\gB (.exit id) bs
 |_,_,_,_=>False
section
variable(S:Nat->Prop)(B:Nat)(N:World)(bg:World->Prop)(gB:Code->World->Prop)(ms:List Nat)(f:Nat->Value)(bs:World)
@[simp] theorem aHT:Tq S B N bg gB .normal ms f bs=((KeepsFrom B N bs/\D (λk=>S k\/B<=k) N bs)/\bg bs):=rfl
@[simp] theorem aHU:Tq S B N bg gB .ret ms f bs=(KeepsFrom B N bs/\gB .ret bs):=rfl
@[simp] theorem aHV(id:Nat):Tq S B N bg gB (.exit id) ms f bs=(KeepsFrom B N bs/\gB (.exit id) bs):=rfl
end
theorem ahJ{P:Program}{n:Nat}{Q:gr}{g:Operand}{ps:List Tmp}{assign body:Code}{ms:List Nat}{f:Nat->Value}{w w0:World}{gf:FuncId}{lb:List Value}{k:Nat}{enc:Nat->List Value}{seq:List Nat}{S:Nat->Prop}
  (pM:GK P gf lb k enc seq S w0)(bH:D ak w0 w)(aF:gb n f g=.func (.func gf) #[] lb.toArray)(r:ps.length=k)(yL:(lQ assign&&lQ body)=true)
  (bg:List Nat->World->Prop)(gB:Code->List Nat->World->Prop)(rZ:Nat->(Nat->Value)->World->Prop)
  (bP:∀pre N bs,bg pre N->kE w.1.size N bs->bg pre bs)(Cx:∀c pre N bs,gB c pre N->kE w.1.size N bs->gB c pre bs)(Mw:∀x f N bs,rZ x f N->kE w.1.size N bs->rZ x f bs)(bf:bg [] w)
  (Mx:∀pre x N,bg pre N->dH P n (jj (pN [] λf' bs=>D ak N bs/\bg pre bs/\rZ x f' bs) λ_ _ _ _=>False) assign [] (vT f ps (enc x)) N)
  (My:∀pre x f' N,pre.length<seq.length->bg pre N->rZ x f' N->dH P n (Tq S w.1.size N (bg (pre++[x])) λc=>gB c (pre++[x])) body [] f' N)
  (Mz:∀L N,w.1.size<=L->bg seq N->N.1[L]? =some (.deferred (some []))->Q .normal (L::ms) f N)
  (MA:∀L c k N,w.1.size<=L->k<=seq.length->gB c (seq.take k) N->N.1[L]? =some (.deferred (some []))->dH P n Q c (L::ms) f N):
  vU P n Q (.rangeFunc g ps.toArray assign body) ms f w:=by
 unfold vU;intro cx ap;simp only[Bool.and_eq_true]at yL;have gJ:cx.aR=Fence.wide:=by
  obtain⟨J,m,d⟩:=cx
  cases J with
  |none=>rfl
  |some J=>cases ap
 rw[gJ];have pe:=bH.size;have key:(Code.rangeFunc g ps.toArray assign body).wpIn Fence.wide 3 P (uV cx n Q) (hc cx n ms f) w:=by
  refine wpIn_rangeFunc_ownH rfl (by omega) (by rw[GL];exact aF) trivial pM.Ry (pM.Rz 2) (λH I=>D.trans H I)
   (λN l o eX al _ _ _=>D.mono (D.vQ (grownBy_putObj' N l eX)) λj _ e=>.inr (by cases e;omega)) bH.below (λx=>by simp[pM.size,r]) bg gB
   (λpre N bs fc H I af=>bP pre N bs H ⟨fc,I,af⟩) (λc pre N bs fc H I af=>Cx c pre N bs H ⟨fc,I,af⟩) bf
   (λx ih N=>∃f',ih=⟨jH n f',[]⟩/\rZ x f' N) (λx ih _ N bs fc H I af=>by obtain⟨f',e,H⟩:=H;exact⟨f',e,Mw x f' N bs H ⟨fc,I,af⟩⟩) ?_ ?_ ?_ ?_
  ·intro l pre x N K H I;have:=dH.kj (cx:=⟨some l,1,[]⟩) _ _ _ _ _ (.inr yL.1) (Mx pre x N H);have aK:((ps.toArray.zip (enc x).toArray).foldl (λt (p,v)=>t.setIfInBounds p v) (hc cx n ms f).tmps)=jH n (vT f ps (enc x)):=by
    rw[List.zip_toArray,List.foldl_toArray];exact RA n ps (enc x) f
   rw[aK];refine wpIn_mono this ?_;rintro e a w' ⟨vV,f',rfl,aq⟩;unfold jj at aq
   cases e with
   |normal=>
    unfold pN at aq;obtain⟨rfl,af,aU,bC⟩:=aq;exact I _ _ (Jr af λk r=>r.elim) (af.mono λj _ e=>e.elim) aU ⟨f',rfl,bC⟩
   |_=>exact aq
  ·rintro l pre x ih N al _ H ⟨f',rfl,I⟩ aO;refine wpIn_mono (dH.kj (cx:=⟨some l,1,[]⟩) _ _ _ _ _ (.inr yL.2) (My pre x f' N aO H I)) ?_;rintro e a w' ⟨vV,sS,rfl,aq⟩
   cases e with
   |normal=>exact⟨aq.1.1,aq.1.2.mono λj _ e=>e.imp id λe=>by omega,aq.2⟩
   |ret=>exact⟨aq.1,aq.2⟩
   |exit id=>exact⟨aq.1,aq.2⟩
   |_=>exact aq.elim
  ·rintro L xs N dS rfl H I;exact⟨L::ms,f,rfl,Mz L N dS H I⟩
  ·rintro L c pre N dS ⟨k,r,rfl⟩ H I;exact dH.kj (cx:=⟨none,3,cx.d⟩) c Q (L::ms) f N (.inl rfl) (MA L c k N dS r H I)
 exact λb k cs H I _=>key b k cs H I (room_wide _)
end Go.Kin
namespace Go.Proofs.YtoohkhcpboldjaaGreatDoor
open Go.RowKit Go.Kin
structure fe where
 d:Nat->Nat
 b_:Nat
 g:Nat->Nat
def Tr(x:Nat×Bool):Array Value:=#[.int .i64 x.1,.bool x.2]
theorem Ol(l:List (Nat×Bool)):∀x∈l,(Tr x).size=2:=λ_ _=>rfl
def ut(s:ao)(n i:Nat):List (Nat×Bool):=(List.range n).map λa=>(s.use i a,s.dV i a)
def ld(s:ao)(n i:Nat):Array Value:=jF Tr (ut s n i)
theorem Om(s:ao){n a:Nat}(i:Nat)(h:a<n):(ut s n i)[a]? =some (s.use i a,s.dV i a):=by simp[ut,h]
theorem Ki(s:ao){n a:Nat}(i:Nat)(h:a<n):(ld s n i)[a*2]? =some (.int .i64 (s.use i a))/\(ld s n i)[a*2+1]? =some (.bool (s.dV i a)):=
 ⟨Jo (n:=2) (Ol _) (Om s i h) (i:=0) rfl,Jo (n:=2) (Ol _) (Om s i h) (i:=1) rfl⟩
def ww(s:ao)(z:fe)(aL:Value):Array Value:=#[.pointer (some ⟨z.d 0,0,none⟩),.pointer (some ⟨z.d 1,0,none⟩),.pointer (some ⟨z.b_,0,none⟩),.int .i64 (s.ep 0),.int .i64 (s.e_ 0),.int .i64 (s.ep 1),.int .i64 (s.e_ 1),aL]
def zH(z:fe)(m:Nat)(aL:Value):Nat->Prop:=λk=>k=m\/k=z.b_\/k=z.g 0\/k=z.g 1\/aL.ownBlock=some k
structure eg(w:World)(m p n:Nat)(z:fe)(s:ao)(aL:Value)(ag:Nat->Nat->Prop):Prop where
 blk:w.1[m]? =some (.cells (ww s z aL) 245 (0,0))
 jv:∀i,i<2->ks w (z.d i) p n (s.au i) s.P (ag i)
 b_:w.1[z.b_]? =some (.cells #[.slice (some ⟨z.g 0,0,none⟩) n n,.slice (some ⟨z.g 1,0,none⟩) n n] 240 (0,0))
 pl:∀i,i<2->w.1[z.g i]? =some (.cells (ld s n i) 156 (0,0))
 wt:w.ownsRow 0 44 41 aL s.dx.length (dv Y s.dx)
 nD:∀q∈s.dx,bN q
 Bu:∀k,ag 0 k->¬ag 1 k
 ne:z.b_≠m/\z.g 0≠m/\z.g 1≠m/\z.b_≠z.g 0/\z.b_≠z.g 1/\z.g 0≠z.g 1
 md:∀k,zH z m aL k->¬ag 0 k/\¬ag 1 k/\k≠p
 iP:∀k,aL.ownBlock=some k->k≠m/\k≠z.b_/\k≠z.g 0/\k≠z.g 1
def fR(z:fe)(m p:Nat)(aL:Value)(ag:Nat->Nat->Prop):Nat->Prop:=λk=>zH z m aL k\/ag 0 k\/ag 1 k\/k=p
def j'(w:World)(m p n:Nat)(z:fe)(s:ao)(O:Nat->Prop):Prop:=∃aL ag,eg w m p n z s aL ag/\(∀k,fR z m p aL ag k->O k)/\∀k,O k->k<w.1.size
theorem jo{i:Nat}(h:i<2):i=0\/i=1:=by omega
section
variable{w w':World}{m p n i:Nat}{z:fe}{s:ao}{aL jb:Value}{ag:Nat->Nat->Prop}{O S:Nat->Prop}{D':bR}{P':ek}
theorem eg.gK(h:eg w m p n z s aL ag):∀k,fR z m p aL ag k->k<w.1.size:=λk r=>by
 rcases r with(rfl|rfl|rfl|rfl|r)|r|r|rfl
 ·exact lt_of_block h.blk
 ·exact lt_of_block h.b_
 ·exact lt_of_block (h.pl 0 (by omega))
 ·exact lt_of_block (h.pl 1 (by omega))
 ·exact oJ h.wt k r
 ·exact(h.jv 0 (by omega)).gK k r
 ·exact(h.jv 1 (by omega)).gK k r
 ·exact(h.jv 0 (by omega)).ahE
theorem eg.By(h:eg w m p n z s aL ag)(aa:i<2){k:Nat}(r:zH z m aL k):¬ag i k/\k≠p:=by
 obtain⟨a,b,c⟩:=h.md k r
 grind
theorem eg.ahK(h:eg w m p n z s aL ag)(aa:i<2){j k:Nat}(F:j<2)(hF:j≠i)(r:ag i k):¬ag j k:=λe=>by
 rcases jo aa with rfl|rfl<;>rcases jo F with rfl|rfl
 ·exact hF rfl
 ·exact h.Bu k r e
 ·exact h.Bu k e r
 ·exact hF rfl
theorem eg.ch(h:eg w m p n z s aL ag)(T:D S w w')(cf:∀k,fR z m p aL ag k->¬S k):eg w' m p n z s aL ag:=by
 have M:∀k,zH z m aL k->¬S k:=λk r=>cf k (.inl r);refine⟨T.obj h.blk (M _ (.inl rfl)),λi aa=>(h.jv i aa).ch T (λk r=> ?_) (cf p (.inr (.inr (.inr rfl)))),T.obj h.b_ (M _ (.inr (.inl rfl))),λi aa=>T.obj (h.pl i aa) (M _ ?_),ej h.wt T λk r=>M _ (.inr (.inr (.inr (.inr r)))),h.nD,h.Bu,h.ne,h.md,h.iP⟩
 ·rcases jo aa with rfl|rfl
  ·exact cf k (.inr (.inl r))
  ·exact cf k (.inr (.inr (.inl r)))
 ·rcases jo aa with rfl|rfl
  ·exact .inr (.inr (.inl rfl))
  ·exact .inr (.inr (.inr (.inl rfl)))
theorem eg.Ku(h:eg w m p n z s aL ag)(aa:i<2)(H:ks w' (z.d i) p n D' P' (ax (ag i) w w'))(T:D (λk=>ag i k\/k=p) w w'):eg w' m p n z {s with au:=hM s.au i D',P:=P'} aL (hM ag i (ax (ag i) w w')):=by
 have al:=h.gK;have aw:=T.size;have M:∀k,zH z m aL k->¬(ag i k\/k=p):=λk r e=>e.elim (h.By aa r).1 (h.By aa r).2;have hm:∀j,j<2->∀k,hM ag i (ax (ag i) w w') j k->ag j k\/(j=i/\w.1.size<=k):=λj F k r=>by
  by_cases nl:j=i
  ·subst nl;rw[zL]at r;exact r.imp id λe=>⟨rfl,e.1⟩
  ·rw[vp _ _ nl]at r;exact .inl r
 refine⟨T.obj h.blk (M _ (.inl rfl)),λj F=> ?_,T.obj h.b_ (M _ (.inr (.inl rfl))),λi aa=>T.obj (h.pl i aa) (M _ ?_),ej h.wt T λk r=>M _ (.inr (.inr (.inr (.inr r)))),h.nD,λk bf H=> ?_,h.ne,λk r=>⟨λe=> ?_,λe=> ?_,(h.md k r).2.2⟩,h.iP⟩
 ·by_cases nl:j=i
  ·simp_all
  ·simp only[vp _ _ nl];exact⟨(h.jv j F).au.ch T λk r e=>e.elim (λe=>h.ahK F aa (λe=>nl e.symm) r e) λe=>(h.jv j F).zI (by rw[<-e];exact r),H.tm,(h.jv j F).zI⟩
 ·rcases jo aa with rfl|rfl
  ·exact .inr (.inr (.inl rfl))
  ·exact .inr (.inr (.inr (.inl rfl)))
 ·rcases hm 0 (by omega) k bf with bf|⟨e,bf⟩
  ·rcases hm 1 (by omega) k H with H|⟨_,H⟩
   ·exact h.Bu k bf H
   ·have:=al k (.inr (.inl bf));omega
  ·rcases hm 1 (by omega) k H with H|⟨aK,H⟩
   ·have:=al k (.inr (.inr (.inl H)));omega
   ·omega
 ·rcases hm 0 (by omega) k e with e|⟨_,e⟩
  ·exact(h.md k r).1 e
  ·have:=al k (.inl r);omega
 ·rcases hm 1 (by omega) k e with e|⟨_,e⟩
  ·exact(h.md k r).2.1 e
  ·have:=al k (.inl r);omega
theorem eg.ahL(h:eg w m p n z s aL ag)(aa:i<2){k:Nat}(r:fR z m p aL (hM ag i (ax (ag i) w w')) k):ax (fR z m p aL ag) w w' k:=by
 have hm:∀j,j<2->∀k,hM ag i (ax (ag i) w w') j k->ag j k\/(w.1.size<=k/\k<w'.1.size):=λj F k r=>by
  by_cases nl:j=i
  ·subst nl;rw[zL]at r;exact r
  ·rw[vp _ _ nl]at r;exact .inl r
 rcases r with r|r|r|r
 ·exact .inl (.inl r)
 ·exact(hm 0 (by omega) k r).imp (λe=>.inr (.inl e)) id
 ·exact(hm 1 (by omega) k r).imp (λe=>.inr (.inr (.inl e))) id
 ·exact .inl (.inr (.inr (.inr r)))
theorem eg.own(h:eg w m p n z s aL ag)(T:D (aj m) w w'){s':ao}(V:w'.1[m]? =some (.cells (ww s' z aL) 245 (0,0)))(aK:s'.au=s.au)(aW:s'.P=s.P)(dt:s'.use=s.use)(cW:s'.dV=s.dV)(fD:s'.dx=s.dx):eg w' m p n z s' aL ag:=by
 have M:zH z m aL m:=.inl rfl;obtain⟨hY,kA,jE,rh,Bc,n6⟩:=h.ne;have at_:∀i,ld s' n i=ld s n i:=λi=>by unfold ld ut;rw[dt,cW]
 refine⟨V,λi aa=> ?_,T.obj h.b_ hY,λi aa=> ?_,by rw[fD];exact ej h.wt T λk r e=>(h.iP k r).1 e,by rw[fD];exact h.nD,h.Bu,h.ne,h.md,h.iP⟩
 ·rw[aK,aW];exact(h.jv i aa).ch T (λk r e=>(h.By aa M).1 (by simp only[aj]at e;rw[<-e];exact r)) λe=>(h.By aa M).2 e.symm
 ·rw[at_];rcases jo aa with rfl|rfl
  ·exact T.obj (h.pl 0 aa) kA
  ·exact T.obj (h.pl 1 aa) jE
theorem j'.ch(h:j' w m p n z s O)(T:D S w w')(cf:∀k,O k->¬S k):j' w' m p n z s O:=by
 obtain⟨aL,ag,H,I,af⟩:=h;exact⟨aL,ag,H.ch T λk r=>cf k (I k r),I,λk r=>Nat.lt_of_lt_of_le (af k r) T.size⟩
end
section
variable{w w':World}{m p n i:Nat}{z:fe}{s:ao}{aL:Value}{ag:Nat->Nat->Prop}{O S:Nat->Prop}
theorem NK(h:eg w m p n z s aL ag)(aa:i<2):aP Tryz.prog 62 #[.pointer (some ⟨z.b_,0,none⟩),.int .i64 i] w λW w'=>W=.slice (some ⟨z.g i,0,none⟩) n n/\w'=w:=by
 refine bn Tryz.func62 Tryz.ntmps62 λaZ Z=> ?_;have fG:w.cell? ⟨z.b_,0,none⟩=some (.slice (some ⟨z.g 0,0,none⟩) n n):=aG h.b_ 0;have aI:w.cell? ⟨z.b_,1,none⟩=some (.slice (some ⟨z.g 1,0,none⟩) n n):=aG h.b_ 1;rcases jo aa with rfl|rfl
 ·simp[go_sem,fG];exact Z _ _ ⟨rfl,rfl⟩
 ·simp[go_sem,aI];exact Z _ _ ⟨rfl,rfl⟩
theorem at'(s:ao){n a:Nat}(i:Nat):(ut s n i).set a (s.use i a,true)=ut {s with dV:=hM s.dV i (hM (s.dV i) a true)} n i:=by
 unfold ut;simp only[zL];apply List.ext_getElem?;intro j;rw[List.getElem?_set];by_cases F:a=j
 ·subst F;by_cases am:a<n<;>simp[am]
 ·rw[if_neg F];simp only[List.getElem?_map]
  cases ap:(List.range n)[j]? with
  |none=>rfl
  |some x=>
   have M:x=j:=by
    have:=List.getElem?_eq_some_iff.1 ap;obtain⟨H,I⟩:=this;simpa using I.symm
   subst M;simp[vp _ _ (λe=>F e.symm)]
theorem eg.fc(h:eg w m p n z s aL ag)(aa:i<2)(T:D (aj (z.g i)) w w'){s':ao}(V:w'.1[z.g i]? =some (.cells (ld s' n i) 156 (0,0)))(F:∀j,j≠i->ld s' n j=ld s n j)(e:ww s' z aL=ww s z aL)(aK:s'.au=s.au)(aW:s'.P=s.P)(fD:s'.dx=s.dx):eg w' m p n z s' aL ag:=by
 have M:zH z m aL (z.g i):=by
  rcases jo aa with rfl|rfl
  ·exact .inr (.inr (.inl rfl))
  ·exact .inr (.inr (.inr (.inl rfl)))
 obtain⟨hY,kA,jE,rh,Bc,n6⟩:=h.ne;have py:m≠z.g i/\z.b_≠z.g i:=by
  rcases jo aa with rfl|rfl
  ·omega
  ·omega
 have Kv:∀k,aL.ownBlock=some k->k≠z.g i:=λk r=>by
  rcases jo aa with rfl|rfl
  ·exact(h.iP k r).2.2.1
  ·exact(h.iP k r).2.2.2
 refine⟨by rw[e];exact T.obj h.blk py.1,λj F=> ?_,T.obj h.b_ py.2,λj mA=> ?_,by rw[fD];exact ej h.wt T Kv,by rw[fD];exact h.nD,h.Bu,h.ne,h.md,h.iP⟩
 ·rw[aK,aW];exact(h.jv j F).ch T (λk r e=>(h.By F M).1 (by simp only[aj]at e;rw[<-e];exact r)) λe=>(h.By F M).2 e.symm
 ·by_cases nl:j=i
  ·rw[nl];exact V
  ·rw[F j nl];refine T.obj (h.pl j mA) λe=> ?_;simp only[aj]at e
   grind
theorem aua(h:eg w m p n z s aL ag)(aa:i<2)(a:Nat)(am:a<65536):aP Tryz.prog 236 #[.pointer (some ⟨z.b_,0,none⟩),.int .i64 i,.int .u16 a] w λW w'=>eg w' m p n z (s.vq n i a) aL ag/\D (aj (z.g i)) w w':=by
 refine bn Tryz.func236 Tryz.ntmps236 λaZ Z=> ?_;simp[go_sem];refine(ZC Tryz.func120 Tryz.ntmps120 rfl (by simp) λZD xY=> ?_:aP Tryz.prog 120 #[.pointer (some ⟨z.b_,0,none⟩),.int .i64 i,.int .u16 a,.func (.func 258) #[] #[]] w λW w'=>(∃k,W=.int .i64 k)/\eg w' m p n z (s.vq n i a) aL ag/\D (aj (z.g i)) w w').mono ?_
 ·have n':∀(x:List Value) (w:World),(callFunc 258 x.toArray).run Tryz.prog w=.ok (.enter 258 x.toArray) w:=λx w=>by simp[go_sem]
  have cI:∀w',(Builtin.len_ #[153] 3 #[.slice (some ⟨z.g i,0,none⟩) n n]).run Tryz.prog w'=.ok (.int .i64 n) w':=λw'=>by simp[Builtin.len_,run_underlying Tryz.underlying153,goInt]
  have On:IntKind.i64.wrap (a:Int)=a:=by rw[IntKind.wrap_i64];omega
  simp[go_sem];refine(NK h aa).mono ?_;rintro _ ab ⟨rfl,rfl⟩;by_cases bf:a=0
  ·subst bf;simp[go_sem];exact xY _ _ ⟨⟨_,rfl⟩,by simpa[ao.vq]using h,D.refl _ _⟩
  ·have oR:((a:Int)==0)=false:=beq_false_of_ne (by omega);by_cases jZ:a<n
   ·have tp:¬(n:Int)<=a:=by omega
    simp[go_sem,cI,On,bf,oR,jZ,tp];have V:=h.pl i aa;have tc:=λj=>dD V j;have gl:ab.cell? ⟨z.g i,a*2+1,none⟩=some (.bool (s.dV i a)):=by rw[aG V];exact(Ki s i jZ).2
    have T:D (aj (z.g i)) ab (ab.setCell ⟨z.g i,a*2+1,none⟩ (.bool true)):=(D.refl (aj (z.g i)) ab).setCell (p:=⟨z.g i,a*2+1,none⟩) (.inl rfl) _;have aw:s.vq n i a={s with dV:=hM s.dV i (hM (s.dV i) a true)}:=by unfold ao.vq;rw[if_neg (by omega)]
    refine(ZC Tryz.func258 Tryz.ntmps258 rfl (by simp) λaHW aub=> ?_:aP Tryz.prog 258 #[.pointer (some ⟨z.g i,a*2,none⟩)] ab λW w'=>W=.bool true/\w'=ab.setCell ⟨z.g i,a*2+1,none⟩ (.bool true)).mono ?_
    ·simp[go_sem,gl,tc];exact aub _ _ ⟨rfl,rfl⟩
    rintro _ ai ⟨rfl,rfl⟩;simp[go_sem];refine xY _ _ ⟨⟨_,rfl⟩,?_,T⟩;rw[aw];refine h.fc aa T ?_ (λj F=> ?_) rfl rfl rfl rfl
    ·rw[eY,V,gp];congr 1;congr 1;unfold ld;rw[<-at'];exact Mr (n:=2) (Ol _) (Om s i jZ) (i:=1) (by omega) rfl
    ·unfold ld ut;simp only[vp _ _ F]
   ·have tp:(n:Int)<=a:=by omega
    simp[go_sem,cI,On,bf,oR,jZ,tp];exact xY _ _ ⟨⟨_,rfl⟩,by simpa[ao.vq,show n<=a by omega]using h,D.refl _ _⟩
 ·rintro _ ab ⟨⟨k,rfl⟩,H,aI⟩;simp[go_sem];exact Z _ _ ⟨H,aI⟩
def auc(w:World)(J:Option cX)(W:Value)(w':World):Prop:=match J with
 |some b=>∃u,W=.tuple #[u,.bool true]/\b.length=512/\bD w' u 512 (bm b)/\fZ w.1.size u/\∀k,u.ownBlock=some k->k<w'.1.size
 |none=>∃u,W=.tuple #[u,.bool false]
theorem ahM(h:eg w m p n z s aL ag)(q:Pt)(ok:bN q)(r:ja w)(k:Nat)(fs:k<4):aP Tryz.prog 235 #[.pointer (some ⟨m,0,none⟩),.agg (Y q),.agg #[.int .i64 (k / 2:Nat),.int .u16 (cP q k)]] w λW w'=>auc w (s.ko n q k) W w'/\D ak w w':=by
 refine bn Tryz.func235 Tryz.ntmps235 λaZ Z=> ?_;have cU:=bW ok;have cT:=dW ok;have aa:k / 2<2:=by omega
 have sj:=Km ok k;obtain⟨i,ea⟩:=az (k / 2);rw[ea]at aa;have bj:=oa w (.cells (Y q) 44) (.cells #[.int .i64 (k / 2:Nat),.int .u16 (cP q k)] 346);have ba:=ny w (.cells (Y q) 44) (.cells #[.int .i64 (k / 2:Nat),.int .u16 (cP q k)] 346);have aY:=((D.refl ak w).alloc (.cells (Y q) 44)).alloc (.cells #[.int .i64 (k / 2:Nat),.int .u16 (cP q k)] 346);have aF:s.ko n q k=if(s.au i).fk s.P then((s.au i).m_ n (cP q k)).filter (rC q)else none:=by unfold ao.ko;rw[ea]
 rw[ea]at bj ba aY⊢;simp[go_sem];obtain⟨g,mG⟩:=az (w.1.size);rw[mG]at bj ba⊢;generalize(w.alloc (.cells (Y q) 44)).alloc (.cells #[.int .i64 i,.int .u16 (cP q k)] 346)=ab at*;have H:=h.ch aY λ_ _ e=>e;have Fq:=H.ch (D.refl ak ab).drew λ_ _ e=>e;have aI:=λj=>aG ba j;have dU:ab.cell? ⟨m,i,none⟩=some (.pointer (some ⟨z.d i,0,none⟩)):=by
  rw[aG H.blk];rcases jo aa with rfl|rfl<;>rfl
 refine cD [A 0,A 1,A 2,A 3,A 4,A 5,A 6,A 7,A 8,(9,some []),A 10,A 11,A 12,A 13,A 14] ?_;have pw:(i:Int)<2:=by omega
 simp[go_sem,aI,dU,aa,pw];refine((Fq.jv i aa).vo (cP q k) sj).mono ?_;rintro _ ai ⟨I,_,aX⟩;have p_:=D.iy aX;have jd:=p_.obj bj id;rcases I with⟨he,b,u,aud,rfl,V,an,bU,aB⟩|⟨he,rfl⟩
 ·have fE:(s.au i).fk s.P=true:=by
   cases fE:(s.au i).fk s.P with
   |true=>rfl
   |false=>simp[v_,fE]at he
  rw[fE,if_pos rfl,aud]at aF;simp[go_sem,jd,cU,cT];refine(ahN q u b ai ok (by rw[V];exact an) aB (by omega) ((r.ch aY id).ch p_ id)).mono ?_;rintro _ aC ⟨rfl,bq⟩;simp[go_sem];refine Z _ _ ⟨?_,(aY.trans p_).trans bq⟩;rw[aF]
  cases yY:rC q b with
  |true=>
   have e:(some b:Option cX).filter (rC q)=some b:=by simp[Option.filter,yY]
   rw[e];refine⟨u,?_,V,an.ch bq λ_ _ e=>e,?_,λk r=>Nat.lt_of_lt_of_le (aB k r) bq.size⟩
   ·rw[show(decide (b.length=512)&&decide (sr q b=q.h))=rC q b from rfl,yY]
   ·have:=aY.size;exact bU.mono (by simpa[<-mG]using this)
  |false=>
   have e:(some b:Option cX).filter (rC q)=none:=by simp[Option.filter,yY]
   rw[e];exact⟨u,by rw[show(decide (b.length=512)&&decide (sr q b=q.h))=rC q b from rfl,yY]⟩
 ·have nb:s.ko n q k=none:=by
   rw[aF];unfold v_ at he
   cases fE:(s.au i).fk s.P with
   |false=>simp
   |true=>
    simp only[fE]at he
    cases al:(s.au i).m_ n (cP q k)with
    |none=>simp
    |some b=>
     exfalso;apply he;have mW:¬n<=cP q k:=λT=>by
      unfold bR.m_ at al;simp[T]at al
     simp[mW,al]
  have Ds:((v_ n (s.au i) s.P (cP q k))==0)=false:=beq_false_of_ne he;simp[go_sem,he,Ds];exact Z _ _ ⟨by rw[nb];exact⟨_,rfl⟩,aY.trans p_⟩
end
section
variable{n:Nat}{s s':ao}
def ao.kt(n:Nat)(s:ao)(d:Nat):Nat:=((List.range n).find? λa=>decide (1<=a)&&decide (s.use d a=0)&& !s.dV d a).getD 0
def ao.hf(s:ao)(d a x:Nat):ao:={s with use:=hM s.use d (hM (s.use d) a x)}
def ao.alloc(n:Nat)(s:ao)(d:Nat):ao×Nat:=if s.kt n d=0 then(s,0)else(s.hf d (s.kt n d) 1,s.kt n d)
def ao.jp(n f t:Nat)(s:ao)(x:Nat×Nat):ao:=if x.2=0\/n<=x.2\/s.use x.1 x.2≠f then s else s.hf x.1 x.2 t
def ao.ju(n:Nat)(s:ao)(d w:Nat):ao×List Nat:=
 if w=0 then(s,[0,0])else if w=1 then((s.alloc n d).1,[(s.alloc n d).2,0])else(((s.alloc n d).1.alloc n d).1,[(s.alloc n d).2,((s.alloc n d).1.alloc n d).2])
def ao.u'(n:Nat)(s:ao)(w:Nat):ao×List Nat:=(((s.ju n 0 w).1.ju n 1 w).1,(s.ju n 0 w).2++((s.ju n 0 w).1.ju n 1 w).2)
theorem wm(s:ao)(d a x i b:Nat):(s.hf d a x).use i b=if i=d/\b=a then x else s.use i b:=by
 unfold ao.hf hM;by_cases h:i=d
 ·simp_all
 ·simp[h]
structure hx(s s':ao):Prop where
 au:s'.au=s.au
 P:s'.P=s.P
 dV:s'.dV=s.dV
 ep:s'.ep=s.ep
 e_:s'.e_=s.e_
 dx:s'.dx=s.dx
theorem hx.refl(s:ao):hx s s:=⟨rfl,rfl,rfl,rfl,rfl,rfl⟩
theorem hx.trans{bt cw:ao}(h:hx s bt)(k:hx bt cw):hx s cw:=⟨k.au.trans h.au,k.P.trans h.P,k.dV.trans h.dV,k.ep.trans h.ep,k.e_.trans h.e_,k.dx.trans h.dx⟩
theorem hx.hf(s:ao)(d a x:Nat):hx s (s.hf d a x):=⟨rfl,rfl,rfl,rfl,rfl,rfl⟩
theorem RV(n:Nat)(s:ao)(d:Nat):(s.kt n d=0/\∀a,1<=a->a<n->s.use d a=0->s.dV d a=true)\/(1<=s.kt n d/\s.kt n d<n/\s.use d (s.kt n d)=0/\s.dV d (s.kt n d)=false):=by
 unfold ao.kt
 cases h:(List.range n).find? λa=>decide (1<=a)&&decide (s.use d a=0)&& !s.dV d a with
 |none=>
  grind
 |some a=>
  grind
theorem Kw{d c_:Nat}(h:∀a,1<=a->a<n->s.use d a=s'.use c_ a/\s.dV d a=s'.dV c_ a):s.kt n d=s'.kt n c_:=by
 unfold ao.kt;have:∀l:List Nat,(∀a∈l,a<n)->(l.find? λa=>decide (1<=a)&&decide (s.use d a=0)&& !s.dV d a)=l.find? λa=>decide (1<=a)&&decide (s'.use c_ a=0)&& !s'.dV c_ a:=by
  intro l al
  induction l with
  |nil=>rfl
  |cons a l bG=>
   grind
 grind
theorem aue{U:Nat->Nat}(wx:∀i,i<2->∀a,1<=a->a<n->s.use i a=U a)(r:∀i,i<2->∀a,s.dV i a=false){w:Nat}(bH:w=1\/w=2):
  (∃s' x y,s.u' n w=(s',[x,y,x,y])/\hx s s'/\1<=x/\x<n/\U x=0/\(y=0\/(1<=y/\y<n/\U y=0/\y≠x))/\(w=1->y=0)/\(w=2->y=0->∀a,1<=a->a<n->a≠x->U a≠0)/\
   ∀i,i<2->∀a,1<=a->a<n->s'.use i a=if a=x\/a=y then 1 else U a)\/
  (s.u' n w=(s,[0,0,0,0])/\∀a,1<=a->a<n->U a≠0):=by
 have kO:=r 0 (by omega);have oI:=r 1 (by omega);rcases RV n s 0 with⟨e,h⟩|⟨H,I,af,aU⟩
 ·have aK:s.kt n 1=0:=by
   rw[<-e];exact Kw λa a1 a2=>⟨by grind,by rw[kO,oI]⟩
  have wy:s.alloc n 0=(s,0):=by unfold ao.alloc;rw[if_pos e]
  have Kx:s.alloc n 1=(s,0):=by unfold ao.alloc;rw[if_pos aK]
  refine .inr ⟨?_,λa a1 a2 hz=> ?_⟩
  ·unfold ao.u' ao.ju
   grind
  grind
 ·obtain⟨x,M⟩:=az (s.kt n 0);rw[M]at H I af aU;have iT:¬x=0:=by omega
  rw[wx 0 (by omega) x H I]at af;have wy:s.alloc n 0=(s.hf 0 x 1,x):=by unfold ao.alloc;rw[M,if_neg iT]
  obtain⟨t,bd⟩:=az (s.hf 0 x 1);have Fr:∀i a,t.use i a=if i=0/\a=x then 1 else s.use i a:=λi a=>by rw[<-bd];exact wm _ _ _ _ _ _
  have fJ:t.dV=s.dV:=by rw[<-bd];rfl
  have ZE:hx s t:=bd▸hx.hf _ _ _ _;rw[bd]at wy;rcases bH with rfl|rfl
  ·have aK:t.kt n 1=x:=by
    rw[<-M];exact Kw λa a1 a2=>⟨by grind,by rw[fJ,kO,oI]⟩
   have Kx:t.alloc n 1=(t.hf 1 x 1,x):=by unfold ao.alloc;rw[aK,if_neg iT]
   refine .inl ⟨t.hf 1 x 1,x,0,by unfold ao.u' ao.ju;simp[wy,Kx],ZE.trans (hx.hf _ _ _ _),H,I,af,.inl rfl,λ_=>rfl,λe=>by omega,λi aa a a1 a2=> ?_⟩;rw[wm,Fr]
   grind
  ·
   rcases RV n t 0 with⟨e,h⟩|⟨a',aX,bq,ec⟩
   ·have Ts:t.alloc n 0=(t,0):=by unfold ao.alloc;rw[if_pos e]
    have aK:t.kt n 1=x:=by
     rw[<-M];exact Kw λa a1 a2=>⟨by grind,by rw[fJ,kO,oI]⟩
    have Kx:t.alloc n 1=(t.hf 1 x 1,x):=by unfold ao.alloc;rw[aK,if_neg iT]
    have aW:(t.hf 1 x 1).kt n 1=0:=by
     rw[<-e];exact Kw λa a1 a2=>⟨by
      rw[wm,Fr,Fr,wx 1 (by omega) a a1 a2,wx 0 (by omega) a a1 a2]
      grind,by
      show t.dV 1 a=t.dV 0 a;rw[fJ,kO,oI]⟩
    have ZF:(t.hf 1 x 1).alloc n 1=(t.hf 1 x 1,0):=by unfold ao.alloc;rw[if_pos aW]
    refine .inl ⟨t.hf 1 x 1,x,0,by unfold ao.u' ao.ju;simp[wy,Ts,Kx,ZF],ZE.trans (hx.hf _ _ _ _),H,I,af,.inl rfl,λ_=>rfl,λ_ _ a a1 a2 ZG hz=> ?_,λi aa a a1 a2=> ?_⟩
    ·have:=h a a1 a2 (by grind)
     simp_all
    ·rw[wm,Fr]
     grind
   ·obtain⟨y,ar⟩:=az (t.kt n 0);rw[ar]at a' aX bq ec;have ZH:¬y=0:=by omega
    have xP:y≠x:=λe=>by
     grind
    rw[Fr,if_neg (λe=>xP e.2),wx 0 (by omega) y a' aX]at bq;have Ts:t.alloc n 0=(t.hf 0 y 1,y):=by unfold ao.alloc;rw[ar,if_neg ZH]
    obtain⟨J,ap⟩:=az (t.hf 0 y 1);have ahO:∀i a,J.use i a=if i=0/\a=y then 1 else t.use i a:=λi a=>by rw[<-ap];exact wm _ _ _ _ _ _
    have ho:J.dV=s.dV:=by rw[<-ap,<-fJ];rfl
    have auf:hx s J:=ZE.trans (ap▸hx.hf _ _ _ _);rw[ap]at Ts;have aK:J.kt n 1=x:=by
     rw[<-M];exact Kw λa a1 a2=>⟨by grind,by rw[ho,kO,oI]⟩
    have Kx:J.alloc n 1=(J.hf 1 x 1,x):=by unfold ao.alloc;rw[aK,if_neg iT]
    have aW:(J.hf 1 x 1).kt n 1=y:=by
     rw[<-ar];exact Kw λa a1 a2=>⟨by
      rw[wm,ahO,if_neg (show¬(1=0/\a=y)by omega),Fr,Fr,wx 1 (by omega) a a1 a2,wx 0 (by omega) a a1 a2]
      grind,by
      show J.dV 1 a=t.dV 0 a;rw[ho,fJ,kO,oI]⟩
    have ZF:(J.hf 1 x 1).alloc n 1=((J.hf 1 x 1).hf 1 y 1,y):=by unfold ao.alloc;rw[aW,if_neg ZH]
    refine .inl ⟨(J.hf 1 x 1).hf 1 y 1,x,y,by unfold ao.u' ao.ju;simp[wy,Ts,Kx,ZF],(auf.trans (hx.hf _ _ _ _)).trans (hx.hf _ _ _ _),H,I,af,.inr ⟨a',aX,bq,xP⟩,λe=>by omega,λ_ e=>absurd e ZH,λi aa a a1 a2=> ?_⟩;rw[wm,wm,ahO,Fr]
    grind
theorem EP{f t:Nat}(aug:f≠t):∀(l:List (Nat×Nat)) (s:ao),hx s (l.foldl (ao.jp n f t) s)/\∀i a,(l.foldl (ao.jp n f t) s).use i a=if(i,a)∈l/\1<=a/\a<n/\s.use i a=f then t else s.use i a
 |[],s=>⟨hx.refl s,λi a=>by simp⟩
 |x::l,s=>by
  obtain⟨H,I⟩:=EP aug l (ao.jp n f t s x);have cf:hx s (ao.jp n f t s x):=by
   unfold ao.jp;split
   ·exact hx.refl s
   ·exact hx.hf _ _ _ _
  have an:∀i a,(ao.jp n f t s x).use i a=if(i,a)=x/\1<=a/\a<n/\s.use i a=f then t else s.use i a:=λi a=>by
   unfold ao.jp;by_cases T:x.2=0\/n<=x.2\/s.use x.1 x.2≠f
   ·grind
   ·rw[if_neg T,wm]
    grind
  refine⟨cf.trans H,λi a=> ?_⟩
  grind
end
def pa(p:Pt):List Nat:=[cP p 0,cP p 1].filter λa=>decide (a≠0)
def wz(p:Pt):Prop:=∃x y,p.a=[x,y,x,y]/\x≠0/\x≠y
def k'(p:Pt):List (Nat×Nat):=(dL p.a 4).map λk=>(k / 2,cP p k)
theorem Tt{x y:Nat}(M:x≠0):dL [x,y,x,y] 4=if y=0 then[0,2]else[0,1,2,3]:=by
 unfold dL;by_cases ar:y=0
 ·subst ar;simp[List.range,List.range.loop,M]
 ·simp[List.range,List.range.loop,M,ar]
theorem Fs{p:Pt}{x y:Nat}(e:p.a=[x,y,x,y])(M:x≠0):pa p=if y=0 then[x]else[x,y]:=by
 have bf:cP p 0=x:=by unfold cP;rw[e];rfl
 have H:cP p 1=y:=by unfold cP;rw[e];rfl
 unfold pa
 grind
theorem ahP{p:Pt}{x y:Nat}(e:p.a=[x,y,x,y])(M:x≠0):k' p=if y=0 then[(0,x),(1,x)]else[(0,x),(0,y),(1,x),(1,y)]:=by
 have bf:cP p 0=x:=by unfold cP;rw[e];rfl
 have H:cP p 1=y:=by unfold cP;rw[e];rfl
 have I:cP p 2=x:=by unfold cP;rw[e];rfl
 have af:cP p 3=y:=by unfold cP;rw[e];rfl
 unfold k';rw[e,Tt M]
 grind
theorem Ft{p:Pt}(aw:wz p)(i a:Nat):(i,a)∈k' p↔i<2/\a∈pa p:=by
 obtain⟨x,y,e,M,_⟩:=aw;rw[ahP e M,Fs e M]
 grind
theorem auh:k' ad=[]:=by decide
end Go.Proofs.YtoohkhcpboldjaaGreatDoor
