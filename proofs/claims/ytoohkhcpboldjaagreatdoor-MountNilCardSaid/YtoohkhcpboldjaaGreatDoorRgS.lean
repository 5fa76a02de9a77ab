/- A rig in memory as a source. Conditions: the variables that are listed hold what the text lays; sizes. -/
import Derived.Test.YtoohkhcpboldjaaGreatDoorMcP
set_option maxRecDepth 100000
set_option linter.unusedSimpArgs false
set_option linter.unusedVariables false
namespace Go.Proofs.YtoohkhcpboldjaaGreatDoor
open Go.RowKit Go.Kin
section
variable{c:hT}{t:dy}
end
section
variable{n:Nat}{bS:Nat->Bool}{x:hK}{st:e'}{v:List br}{lf:Nat->Nat->Option (List UInt8)}{c:hT}{dp aD:List Pt}{O:lh}{L:fM}{xs:List em}
theorem axK{p:Pt}(ok:bN p)(h:iX p=true):1<=fm p.k:=by
 obtain⟨a0,a1,a2,a3,am,_⟩:=a4 ok;rw[Kz am rfl]at h
 grind
end
structure hP(b:Nat)(s:ao):Prop where
 ep:∀i,s.ep i=0
 e_:∀i,s.e_ i=0
 dx:s.dx=[]
 bB:∀i,i<2->(s.au i).bB.length<=b
section
variable{b nV:Nat}{s s':ao}{n:Nat}{q:Pt}{B:cX}
theorem hP.mono(h:hP b s)(V:b<=nV):hP nV s:=⟨h.ep,h.e_,h.dx,λi aa=>Nat.le_trans (h.bB i aa) V⟩
theorem hP.same(h:hP b s)(S:hx s s'):hP b s':=⟨by rw[S.ep];exact h.ep,by rw[S.e_];exact h.e_,by rw[S.dx];exact h.dx,by rw[S.au];exact h.bB⟩
theorem hP.mf(h:hP b s)(q:Pt)(B:cX)(k:Nat):hP (b+1) (s.mf n q B k):=by
 unfold ao.mf;have bH:=bR.aiA n (s.au (k / 2)) s.P (cP q k) B;refine⟨h.ep,h.e_,h.dx,λi aa=> ?_⟩;by_cases e:i=k / 2
 ·subst e;simp only[zL];have:=h.bB _ aa;omega
 ·simp only[vp _ _ e];have:=h.bB _ aa;omega
theorem hP.KS(q:Pt)(B:cX):∀(l:List Nat) (b:Nat) (t:ao×Int),hP b t.1->hP (b+l.length) (l.foldl (ao.put n q B) t).1
 |[],_,_,bd=>bd
 |k::l,b,t,bd=>by
  have H:hP (b+1) (ao.put n q B t k).1:=bd.mf q B k;have:=hP.KS q B l (b+1) (ao.put n q B t k) H
  grind
theorem hP.ha(h:hP b s)(q:Pt)(B:cX):hP (b+4) (s.ha n q B).1:=by
 unfold ao.ha;split
 ·exact(hP.KS q B _ b (s,21) h).mono (by have:=aj1 q.a;omega)
 ·exact h.mono (by omega)
theorem hP.d_(h:hP b s):hP b s.d_.1:=by
 have R:=TJ s;refine⟨by rw[R.ep];exact h.ep,by rw[R.e_];exact h.e_,by rw[R.dx];exact h.dx,λi aa=> ?_⟩;rcases R.au i aa with e|⟨_,e⟩
 ·rw[e];exact h.bB i aa
 ·rw[e];exact Nat.zero_le _
theorem hP.kI(h:hP b s)(dZ:s.P=ek.on)(T:∀i,tq (s.au i)):s.g_ b:=by
 refine⟨by rw[dZ];decide,h.bB,λi aa x M=> ?_,λi=>by rw[h.ep];exact Nat.zero_le _,λi=>by rw[h.e_];exact Nat.zero_le _,by rw[h.dx];exact Nat.zero_le _⟩;rw[(T i).fv]at M
 cases M
end
def uz(c:hT)(b:Nat)(t:dy):Prop:=c.ip=false->¬(c.bS 0=true/\c.bS 1=true)->hP (b+4*t.bI.length) t.s
def rK(c:hT)(b:Nat):hp dy:={ms c with ok:=λt=>rD c t/\uz c b t,bL:=λt=>lI c t/\uz c b t}
section
variable{c:hT}{b:Nat}{t:dy}
theorem uz.rd(h:uz c b t)(aB:rD c t){p:Pt}{B:cX}(ah:p∈c.dP++t.bI)(V:ku t.s p B):uz c b (hH c.n t p).1:=λbU bi=>by
 obtain⟨ok,⟨x,y,e,M,vd⟩,aH⟩:=aB.bL.vr p ah;have am:p' t.s:=⟨by rw[aB.bL.on bU];rfl,λe=>bi ⟨by rw[<-aB.bL.bS 0 (by omega)];exact e.1,by rw[<-aB.bL.bS 1 (by omega)];exact e.2⟩⟩;have mD:x∈pa p:=by rw[Fs e M];split<;>simp
 have oS:=(aB.bL.su x (Bz.2 ⟨p,ah,mD⟩)).2;have aD:=Tw (n:=c.n) aH e M aB.bL.wA am.1 am.2 oS V.1 λi aa bi=>V.2 am i aa bi x mD;unfold hH;rw[aD];exact h bU bi
theorem uz.nw(h:uz c b t)(p:Pt)(B:cX):uz c b (hg c.n c.aT t p B).1:=λbU bi=>by
 have H:=(h bU bi).same (XF c.n t.s (fm p.k));unfold hg;simp only;split
 ·exact H
 ·refine(H.ha _ B).mono ?_
  grind
theorem uz.bM(h:uz c b t)(p:Pt):uz c b (kK c.n t p):=λbU bi=>(h bU bi).same (EP (by decide) (k' p) t.s).1
theorem azn(gy:c.aT<18446744073709551616):(rK c b).Laws:=by
 have ae:=ah3 (c:=c) gy;have ext:∀{s s':dy} {m g:List Pt},(ms c).fb s s' m g->uz c b s'->(rK c b).fb s s' m g:=λe k=>⟨⟨e.ok,k⟩,e.has,e.bI,e.fL⟩;have wH:∀{s s':dy} {B:Nat} {e:Int},(ms c).mg s B s' e->uz c b s'->(rK c b).mg s B s' e:=λe k=>⟨e.ne,e.A_,⟨e.bL,k⟩,e.bX⟩;refine⟨λs h=>⟨h.1.bL,h.2⟩,λs p B h V=>ae.Y s p B h.1 V,λs p B h V=> ?_,λs p B h V=>ext (ae.bM s p B h.1 V) (h.2.bM p),λs h=>ext (ae.ZM s h.1) (h.2.bM ad),λs p B h bd al=> ?_⟩
 ·have k:=h.2.rd h.1 V.1 V.2;rcases ae.rd s p B h.1 V with⟨aK,aW⟩|e
  ·exact .inl ⟨ext aK k,aW⟩
  ·exact .inr (wH e k)
 ·have k:=h.2.nw p B;rcases ae.nw s p B h.1 bd al with⟨q,aK,aW,dt⟩|e
  ·exact .inl ⟨q,aK,ext aW k,dt⟩
  ·exact .inr (wH e k)
theorem aa_(kind num:Nat):∀(C:List (Nat×List UInt8)) (t:dy) (b':List (Nat×Pt)),lW (rK c b) kind num C t b'=lW (ms c) kind num C t b'
 |[],_,_=>rfl
 |(o,B)::l,t,b'=>by
  unfold lW;have e:(rK c b).nw=(ms c).nw:=rfl;rw[e,aa_ kind num l,aa_ kind num l]
theorem azo(table:Pt)(own:Option br)(wiped:Bool)(ch:List (Nat×List UInt8))(num:Nat)(t:dy):lV (rK c b) table own wiped ch num t=lV (ms c) table own wiped ch num t:=by
 unfold lV;have aK:(rK c b).nw=(ms c).nw:=rfl;have aW:(rK c b).rd=(ms c).rd:=rfl;have dt:(rK c b).bM=(ms c).bM:=rfl;have cW:∀t J,sg (rK c b) t J=sg (ms c) t J:=λ_ _=>rfl;simp only[aK,aW,dt,cW,aa_]
theorem aj2(table:Pt)(C:no):∀(l:List Nat) (t:dy) (b':List (Nat×br)),qL (rK c b) table C l t b'=qL (ms c) table C l t b'
 |[],_,_=>rfl
 |n::l,t,b'=>by
  unfold qL;rw[azo,aj2 table C l]
theorem azp(gen:Nat)(table top:Pt)(C:no)(nums:List Nat)(t:dy):lD (rK c b) gen table top C nums t=lD (ms c) gen table top C nums t:=by
 unfold lD;have aK:(rK c b).nw=(ms c).nw:=rfl;have aW:(rK c b).rd=(ms c).rd:=rfl;have dt:(rK c b).bM=(ms c).bM:=rfl;simp only[aK,aW,dt,aj2]
theorem aj3:∀(n:Nat) (l:List Nat),l.Nodup->(∀a∈l,a<n)->l.length<=n
 |0,l,_,h=>by
  cases l with
  |nil=>exact Nat.le_refl _
  |cons a l=>exact absurd (h a (by simp)) (by omega)
 |n+1,l,bi,h=>by
  have H:=aj3 n (l.erase n) (bi.erase n) λa am=>by
   grind
  grind
theorem aj4:∀l:List Pt,(∀p∈l,wz p)->l.length<=(bp l).length
 |[],_=>Nat.le_refl _
 |p::l,h=>by
  have H:=aj4 l λq aq=>h q (by simp[aq]);obtain⟨x,M⟩:=ahT (h p (by simp));have I:0<(pa p).length:=List.length_pos_of_mem M;have e:bp (p::l)=pa p++bp l:=rfl
  grind
theorem lI.azq(h:lI c t):t.bI.length<=c.n:=by
 have H:=aj4 (c.dP++t.bI) λp ah=>(h.vr p ah).2.1;have I:=aj3 c.n (bp (c.dP++t.bI)) h.bZ λa am=>(h.su a am).2
 grind
end
section
variable{n:Nat}{bS:Nat->Bool}{x:hK}{st:e'}{v:List br}{lf:Nat->Nat->Option (List UInt8)}{c:hT}{dp aD:List Pt}{O:lh}{L:fM}{xs:List em}{b:Nat}
theorem aj5(n:Nat):∀(l:List Pt) (s:ao),hx s (s.vk n l)
 |[],s=>hx.refl s
 |p::l,s=>(EP (n:=n) (f:=1) (t:=0) (by decide) (k' p) s).1.trans (aj5 n l _)
theorem iV.ax5(h:iV n bS x st v lf c dp aD O)(jS:c.ip=false)(aF:st.gen+1<18446744073709551616)(bi:¬(bS 0=true/\bS 1=true))(aR:ZV (hJ L) v (xs.map (·.val))){aI:hT}(fY:aI={c with aT:=st.gen+1})(Q:hP b x.s):
  hP (b+4*n) (rz aI x st L xs).1.s:=by
 obtain⟨Dx,Df,gg,nX,oC,zR,sw,pB,me⟩:=h;have rE:aI.n=n:=by rw[fY];exact Dx
 have db:aI.aT=st.gen+1:=by rw[fY]
 have wG:aI.dP=c.dP:=by rw[fY]
 have nd:aI.bS=bS:=by rw[fY];exact Df
 have CC:aI.ip=false:=by rw[fY];exact jS
 have HO:rD aI ⟨x.s,[],[]⟩:=by rw[fY];exact gg.aT _
 have ae:=azn (c:=aI) (b:=b) (by rw[db];exact aF);have TH:qQ ((rK aI b).has ⟨x.s,[],[]⟩) st.cO dp aD v O lf:=nX.mono λq b aq=>⟨by grind,aq.2⟩;have ZY:st.top=ad\/∃B,(rK aI b).has ⟨x.s,[],[]⟩ st.top B:=by
  rcases sw with⟨e,_,_⟩|⟨_,_,a',aX,_⟩
  ·exact .inl (by rw[e];rfl)
  ·exact .inr ⟨_,by grind,aX⟩
 have key:∀{t1:dy},lI aI t1->uz aI b t1->hP (b+4*n) t1.s:=λ{t1} a' aX=>(aX CC (by rw[nd];exact bi)).mono (by have:=a'.azq;rw[rE]at this;omega);have nx:∀{t1:dy},hP (b+4*n) t1.s->hP (b+4*n) (sp aI.n t1):=λ{t1} k=>by
  unfold sp;exact(k.same (hx.all _ _ _)).same (aj5 _ _ _)
 have cf:∀g cO top l t,lD (rK aI b) g cO top (hJ L) l t=lD (ms aI) g cO top (hJ L) l t:=λ_ _ _ _ _=>azp _ _ _ _ _ _;have bL:(lI aI (lD (ms aI) aI.aT st.cO st.top (hJ L) (xs.map (·.val)) ⟨x.s,[],[]⟩).1/\uz aI b (lD (ms aI) aI.aT st.cO st.top (hJ L) (xs.map (·.val)) ⟨x.s,[],[]⟩).1):=by
  rcases aio ae aR.ok aR.kd (s:=⟨x.s,[],[]⟩) ⟨HO,λ_ _=>by omega⟩ (top:=st.top) (gen:=aI.aT) (by rw[db];exact aF) TH ZY aR.TG aR.su aR.cA with⟨bt,oU,OC,wF,qn,W,O',m,g,aK,X,_⟩|wH
  ·rw[cf]at aK;rw[aK];exact⟨X.ok.1.bL,X.ok.2⟩
  ·rw[cf]at wH;exact wH.bL
 have aj6:=key bL.1 bL.2;unfold rz;split
 ·exact Q.mono (by omega)
 ·simp only;split
  ·exact nx aj6
  ·have wK:=aj6.d_;split
   ·grind
   ·split
    ·refine nx (t1:={(lD (ms aI) aI.aT st.cO st.top (hJ L) (xs.map (·.val)) ⟨x.s,[],[]⟩).1 with s:=_}) ?_;exact⟨wK.ep,wK.e_,wK.dx,wK.bB⟩
    ·have aX:hP (b+4*n) ({(lD (ms aI) aI.aT st.cO st.top (hJ L) (xs.map (·.val)) ⟨x.s,[],[]⟩).1.s.d_.1 with P:=if aI.aT<=x.cy.1 then(lD (ms aI) aI.aT st.cO st.top (hJ L) (xs.map (·.val)) ⟨x.s,[],[]⟩).1.s.d_.1.P else(lD (ms aI) aI.aT st.cO st.top (hJ L) (xs.map (·.val)) ⟨x.s,[],[]⟩).1.s.d_.1.P.step}:ao):=⟨wK.ep,wK.e_,wK.dx,wK.bB⟩;exact aX.same (hx.all _ _ _)
theorem iV.iF(h:iV n bS x st v lf c dp aD O)(jS:c.ip=false)(Q:hP b x.s){cp:dy->Nat}(ds:jM cp):700000 - b<=f_ cp ⟨x.s,[],[]⟩:=by
 have gJ:=Q.kI (h.ok.bL.on jS) h.ok.bL.wA;have Ps:dy.Fn ⟨x.s,[],[]⟩ b:=⟨gJ,Nat.zero_le _⟩;unfold f_;rcases ds ⟨x.s,[],[]⟩with k|k
 ·have:=k.2 _ Ps;omega
 ·exact absurd Ps (k.1 _)
end
structure ajk where
 d:Nat
 num:em
 off:gP
 i:br
 n:Nat
 c:UInt8
section
variable{a:ajk}
end
section
variable{ay:Type}{rd:Src ay}{s:ay}{has:Pt->List UInt8->Prop}{bu p table:Pt}{top h n dp aD:List Pt}{v:List br}{O:lh}{lf:Nat->Nat->Option (List UInt8)}
theorem pE.u_(ap:∀p b,has p b->rd s p=(s,b,0))(J:pE has p n):cv rd s p=(s,n,0):=by
 unfold cv;rcases J.dn with⟨rfl,rfl⟩|⟨H,I,af,_⟩
 ·rw[if_pos rfl]
 ·rw[if_neg H,ap p _ af];simp only[ne_eq,not_true_eq_false,if_false];rw[aes J.ez J.all];simp
theorem hy.u_(ap:∀p b,has p b->rd s p=(s,b,0))(t:hy has bu top h){off:Nat}(aB:off<64):dl rd s bu off=(s,h.getD off ad,0):=by
 unfold dl;rw[t.BJ,decide_eq_true aB];simp only[Bool.and_self,if_true];unfold oZ;rw[t.ho.u_ ap];simp only[ne_eq,not_true_eq_false,if_false,if_true];unfold oZ;rw[(t.cq (off / 8) (by omega)).u_ ap];simp only[ne_eq,not_true_eq_false,if_false];unfold oZ;rw[if_neg (by omega),Ih (by omega),show 8*(off / 8)+off%8=off by omega]
theorem sH.u_(ap:∀p b,has p b->rd s p=(s,b,0)){ae:List br}(J:sH has p ae):fS rd s p=(s,ae,0):=by
 unfold fS;rcases J.dn with⟨rfl,rfl⟩|⟨H,I,af,_⟩
 ·rw[if_pos rfl]
 ·rw[if_neg H,ap p _ af];simp only[ne_eq,not_true_eq_false,if_false];rw[aey J.ok J.all];simp
theorem lj.u_(ap:∀p b,has p b->rd s p=(s,b,0))(t:lj has bu top h v){k:Nat}(H:1<=k)(I:k<=255):jN rd s bu k=(s,v.getD k bA,0):=by
 unfold jN;rw[if_neg (λe=>e ⟨H,I⟩),t.lK.u_ ap (by omega)];simp only[ne_eq,not_true_eq_false,if_false];rw[(t.lf (k / 4) (by omega)).u_ ap];simp only;rw[KE (by omega),show 4*(k / 4)+k%4=k by omega]
theorem qQ.ayp(ap:∀p b,has p b->rd s p=(s,b,0)){st:e'}(c:qQ has st.cO dp aD v O lf){k:Nat}(H:1<=k)(I:k<=255):zY rd s st k=(s,v.getD k bA,0):=c.kT.u_ ap H I
end
def kU(n:Nat):Src hK:=λx p=>({x with s:=(x.s.mB n p false).1},(x.s.mB n p false).2.1,(x.s.mB n p false).2.2)
section
variable{n:Nat}{bS:Nat->Bool}{x:hK}{st:e'}{v:List br}{lf:Nat->Nat->Option (List UInt8)}{c:hT}{dp aD:List Pt}{O:lh}
theorem iV.aaX(h:iV n bS x st v lf c dp aD O)(jS:c.ip=false)(bi:¬(bS 0=true/\bS 1=true)):p' x.s:=by
 refine⟨by rw[h.ok.bL.on jS];rfl,λe=>bi ⟨?_,?_⟩⟩
 ·rw[<-h.bS,<-h.ok.bL.bS 0 (by omega)];exact e.1
 ·rw[<-h.bS,<-h.ok.bL.bS 1 (by omega)];exact e.2
theorem iV.u_(h:iV n bS x st v lf c dp aD O)(am:p' x.s):∀p b,(p∈c.dP/\ku x.s p b)->kU n x p=(x,b,0):=by
 rintro p b ⟨ah,V⟩;obtain⟨ok,⟨a,ih,e,M,vd⟩,aH⟩:=h.ok.bL.vr p (List.mem_append.2 (.inl ah));have mD:a∈pa p:=by rw[Fs e M];split<;>simp
 have oS:=(h.ok.bL.su a (Bz.2 ⟨p,List.mem_append.2 (.inl ah),mD⟩)).2;rw[h.n]at oS;have:=Tw (n:=n) aH e M h.ok.bL.wA am.1 am.2 oS V.1 λi aa bi=>V.2 am i aa bi a mD;unfold kU
 simp_all
end
def qd(ee:World)(es:Nat->Prop)(m p n bF:Nat)(z:fe)(x:hK):h_:=λw O=>∃fP,lc m p n bF z x w fP/\(∀j,fP j->O j/\¬es j)/\(∀j,es j->O j/\w.1[j]? =ee.1[j]?)/\∀j,O j->j<w.1.size
abbrev BQ(m:Nat):Value:=.iface 36 (.pointer (some ⟨m,0,none⟩))
theorem azr(m:Nat)(x:Value)(w:World):(callMethod (BQ m) "Read" #[x]).run Tryz.prog w=.ok (.enter 99 #[.pointer (some ⟨m,0,none⟩),x]) w:=by kernel_rfl
section
variable{m p n bF v:Nat}{z:fe}{x:hK}{ee w w':World}{es O:Nat->Prop}{cp:dy->Nat}{st:e'}
theorem qd.ok(ee:World)(es:Nat->Prop)(m p n bF:Nat)(z:fe)(x:hK):kk (qd ee es m p n bF z x):=by
 refine⟨?_,?_,?_⟩
 ·rintro w O ⟨fP,H,I,af,aU⟩;exact aU
 ·rintro w w' O S ⟨fP,H,I,af,aU⟩ T cf;refine⟨fP,(lc.ok m p n bF z x).ch H T λj F=>cf j (I j F).1,I,λj F=>⟨(af j F).1,?_⟩,λj F=>Nat.lt_of_lt_of_le (aU j F) T.size⟩;obtain⟨o,aB⟩:∃o,w.1[j]? =some o:=⟨_,Array.getElem?_eq_getElem (aU j (af j F).1)⟩;rw[T.obj aB (cf j (af j F).1),<-(af j F).2,aB]
 ·rintro w O O' ⟨fP,H,I,af,aU⟩ h h';exact⟨fP,H,λj F=>⟨h j (I j F).1,(I j F).2⟩,λj F=>⟨h j (af j F).1,(af j F).2⟩,h'⟩
theorem qd.ck(h:qd ee es m p n bF z x w O)(e:rs ee es):hj w/\ja w/\qs w:=by
 obtain⟨fP,H,I,af,aU⟩:=h;have aw:∀j,jl j->w.1[j]? =ee.1[j]? :=λj F=>(af j (e.dJ j F)).2;refine⟨⟨λi x M=> ?_,?_⟩,λi aa=> ?_,λi x M=> ?_⟩
 ·rw[JM (aw _ (.inl (.inl rfl)))];exact e.ck.qt i x M
 ·obtain⟨cs,bl,fr,ey,cZ,iq⟩:=e.ck.mx;exact⟨cs,bl,fr,(aw _ (.inl (.inr rfl))).trans ey,cZ,iq⟩
 ·rw[JM (aw _ (.inr (.inl rfl)))];exact e.fd i aa
 ·rw[JM (aw _ (.inr (.inr rfl)))];exact e.fo i x M
theorem qd.dJ(e:rs ee es):ik (qd ee es m p n bF z) O:=.inr λ_ _ _ h=>(h.ck e).1
def vu(cp:dy->Nat)(x:hK):Nat:=f_ cp ⟨x.s,[],[]⟩
theorem T_(ds:jM cp)(e:rs ee es):qu (qd ee es m p n bF z) (vu cp) (kU n) (BQ m):=by
 refine⟨λx q=>afJ ds n ⟨x.s,[],[]⟩ q,λx w O q K aH h ok ck aF eS=> ?_⟩;obtain⟨kp,bT,_⟩:=h.ck e;obtain⟨fP,⟨aL,ag,a',aX,bq,ec,ft,iI⟩,I,af,aU⟩:=h;obtain⟨a_,bh,bV⟩:=Nb ds aH;rw[Si (azr m _ _)];have hm:j' w m p n z x.s (fR z m p aL ag):=⟨aL,ag,a',λ_ e=>e,a'.gK⟩;refine(afM hm q ok kp.qt bT a_ (by omega) λy=>(I _ (ec _ y)).2 (e.dJ _ (.inr (.inl rfl)))).mono ?_;rintro _ w' ⟨u,rfl,aD⟩;obtain⟨O',⟨jb,gh,gM,gN,iO⟩,pj,uY⟩:=aD.dn;have gu:=aD.ch.size;have M:∀j,fR z m p jb gh j->fR z m p aL ag j\/(w.1.size<=j/\j<w'.1.size):=λj F=>pj j (gN j F);have ew:=iI bF ft;refine eS u w' aD.dI (Nat.le_trans (afK n x.s q false) (by decide)) ⟨ax fP w w',⟨jb,gh,gM,aD.ch.obj aX bq,λy=> ?_,λj F=>(M j F).imp (ec j) id,.inl ft,ax.lt iI gu⟩,λj F=> ?_,λj F=>⟨.inl (af j F).1,?_⟩,ax.lt aU gu⟩ (aD.ch.mono λj _ y=>(I j (ec j y)).1)
 ·grind
 ·rcases F with F|F
  ·exact⟨.inl (I j F).1,(I j F).2⟩
  ·exact⟨.inr F,λV=>by grind⟩
 ·obtain⟨o,aB⟩:∃o,w.1[j]? =some o:=⟨_,Array.getElem?_eq_getElem (aU j (af j F).1)⟩;rw[aD.ch.obj aB λy=>(I j (ec j y)).2 F,<-(af j F).2,aB]
theorem aas{f:FuncId}{args:Array Value}{R:Value->World->Prop}{iC:hK}(ck:hj w)(fd:ja w)(fo:qs w)(h:lc m p n bF z x w O)(iw:∀j,jl j->¬O j)
  (T:∀{O':Nat->Prop},rs w jl->qd w jl m p n bF z x w O'->(∀j,O' j->O j\/jl j)->aP Tryz.prog f args w λW w'=>R W w'/\qd w jl m p n bF z iC w' (ax O' w w')/\D O' w w'):
  aP Tryz.prog f args w λW w'=>R W w'/\lc m p n bF z iC w' (ax O w w')/\D O w w':=by
 have al:=(lc.ok m p n bF z x).lt h;have aF:=Fh ck fd fo;refine(T (O':=λj=>O j\/jl j) ⟨ck,fd,fo,λ_ h=>h⟩ ⟨O,h,λj F=>⟨.inl F,λe=>iw j e F⟩,λj F=>⟨.inr F,rfl⟩,λj F=>F.elim (al j) (aF j)⟩ λ_ h=>h).mono ?_;rintro W w' ⟨Z,⟨fP,H,I,af,aU⟩,c⟩;have cs:=c.size;refine⟨Z,(lc.ok m p n bF z iC).ex H (λj F=> ?_) (ax.lt al cs),(D.nI (B:=jl) c λj F=>(af j F).2).mono λj _ e=>e.1.resolve_right e.2⟩;obtain⟨a',aX⟩:=I j F;rcases a' with(a'|a')|a'
 ·exact .inl a'
 ·exact absurd a' aX
 ·exact .inr a'
theorem axD(ds:jM cp)(ck:hj w)(fd:ja w)(fo:qs w)(h:lc m p n bF z x w O)(iw:∀j,jl j->¬O j)(aH:48<=vu cp x)(aS:Pl w v (BQ m) st)(ok:gV st)(num:Nat)(Dh:num<65536):
  aP Tryz.prog 52 #[.pointer (some ⟨v,0,none⟩),.int .u16 num] w λW w'=>(W=.tuple #[.agg (bk (zY (kU n) x st num).2.1),.int .i64 (zY (kU n) x st num).2.2]/\gR (zY (kU n) x st num).2.1)/\lc m p n bF z (zY (kU n) x st num).1 w' (ax O w w')/\D O w w':=
 aas ck fd fo h iw λe V _=>(azs (T_ ds e) aH (qd.ok _ _ _ _ _ _ _) V aS ok num Dh ck (qd.dJ e)).mono λW w' ⟨a,b,c,d⟩=>⟨⟨a,b⟩,c,d⟩
theorem axE(ds:jM cp)(ck:hj w)(fd:ja w)(fo:qs w)(h:lc m p n bF z x w O)(iw:∀j,jl j->¬O j)(aH:16<=vu cp x)(a:vm)(ok:uq a):
  aP Tryz.prog 26 #[BQ m,.agg (ol a)] w λW w'=>(W=.tuple #[.agg (cz (uw (kU n) x a).2.1),.int .i64 (uw (kU n) x a).2.2]/\gV (uw (kU n) x a).2.1)/\lc m p n bF z (uw (kU n) x a).1 w' (ax O w w')/\D O w w':=
 aas ck fd fo h iw λe V _=>(auO (T_ ds e) aH (qd.ok _ _ _ _ _ _ _) V a ok ck (qd.dJ e)).mono λW w' ⟨a,b,c,d⟩=>⟨⟨a,b⟩,c,d⟩
end
end Go.Proofs.YtoohkhcpboldjaaGreatDoor
