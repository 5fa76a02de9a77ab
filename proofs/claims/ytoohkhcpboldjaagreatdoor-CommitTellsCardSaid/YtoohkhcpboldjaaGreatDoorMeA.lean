/- Room for eight commits of deeds: what a model takes, what a commit costs. They speak of no memory. No condition. -/
import Derived.Test.YtoohkhcpboldjaaGreatDoorMdF
set_option maxRecDepth 10000
set_option linter.unusedSimpArgs false
set_option linter.unusedVariables false
namespace Go.Proofs.YtoohkhcpboldjaaGreatDoor
open Go.RowKit Go.Kin Tryz
def Kw(n:Nat):jt:=⟨n,0,[],λ_=>[],λ_=>false,false⟩
def Dq:List bF:=List.replicate 256 bp
def UY:nj:=⟨λ_=>bp,λ_=>eE,λ_=>List.replicate 64 ah⟩
theorem aaD(k:Nat):Dq.getD k bp=bp:=by
 unfold Dq
 grind
theorem aFq{n:Nat}(aq:n<=65536):tP (Kw n) ⟨ay.dv,[],[]⟩:=by
 refine⟨⟨λi=>⟨rfl,rfl,λ_=>rfl,λ_=>rfl⟩,λi _=>rfl,λ_=>rfl,λi _ a=>rfl,λi _ a _ _=> ?_,?_,λa ao=>(by cases ao),λp am=>(by cases am),λp am=>(by cases am),λp am=>(by cases am),λi _ a=> ?_,λi _ e aV=>(by cases aV),.inl λp am=>(by cases am),aq⟩,λp am=>(by cases am),λ_=>rfl⟩
 ·rfl
 ·exact List.nodup_nil
 rfl
theorem aFr(has:Pt->List UInt8->Prop):qw has ah eE (List.replicate 64 ah) Dq UY λ_ _=>none:=
 ⟨ob.z,λn _ _=>(aaD n).symm,λn _ _=>qC.z rfl⟩
theorem aFs(y:Pt)(ar:y≠ah):yi ah ah eE (List.replicate 64 ah) UY y=0:=by
 have J:List.count y eE=0:=List.count_eq_zero.2 λe=>ar (IB.1 e).2;have T:List.count y (List.replicate 64 ah)=0:=List.count_eq_zero.2 λe=>ar (IB.1 e).2;have ag:pr ah eE (List.replicate 64 ah) y=0:=by
  unfold pr
  grind
 unfold yi;rw[aQ (Ne.symm ar),ag];have:∀l:List Nat,fP l (UY.eM y)=0:=λl=>by
  induction l with
  |nil=>rfl
  |cons a l bL=>
   have:UY.eM y a=0:=ag;unfold fP at bL⊢
   grind
 rw[this]
theorem jV.start{n:Nat}(aq:n<=65536):jV n (λ_=>false) ⟨ay.dv,qP⟩ dU Dq (λ_ _=>none) (Kw n) eE (List.replicate 64 ah) UY:=
 ⟨rfl,rfl,aFq aq,aFr _,λe=>(by cases e),λy ar=>by rw[show dU.top=ah from rfl,show dU.dd=ah from rfl,aFs y ar];rfl,.inl ⟨rfl,rfl,rfl⟩,ts,agx⟩
theorem iL.start:iL 0 ay.dv:=⟨λ_=>rfl,λ_=>rfl,rfl,λ_ _=>c_ _⟩
theorem vl.start:vl co.dv Dq λ_ _=>none:=
 ⟨⟨λ_=>jy,λ_=>rfl,λ_=>gG _,λ_ _=>Xq _,λ_ _=>by show(-1:Int)<256;decide⟩,λk _ _=>by rw[aaD];rfl,λk _ _ o _=>rfl⟩
section
variable {n:Nat}{bY:Nat->Bool}{x hd:kY}{st cJ:et}{v v':List bF}{lf aR2:Nat->Nat->Option (List UInt8)}{c dA:jt}{dQ aN yj rv:List Pt}{O O':nj}{i:Nat}
theorem jV.aqF(h:jV n bY x st v lf c dQ aN O)(ad:i<2):∀a,1<=a->a<n->x.s.use i a<3:=λa a1 a2=>by
 have:=h.ok.bU.use i ad a a1 (by rw[h.n];exact a2)
 grind
theorem jV.ag4(h:jV n bY x st v lf c dQ aN O)(ad:i<2){a:Nat}(a1:1<=a)(a2:a<n):x.s.use i a=if a∈bx c.eg then 1 else 0:=by
 have:=h.ok.bU.use i ad a a1 (by rw[h.n];exact a2);rw[show({s:=x.s,bX:=[],gN:=[]}:eb).s.use i a=x.s.use i a from rfl]at this;rw[this];simp only[va];rfl
end
def ki(n:Nat)(bY:Nat->Bool)(x:kY)(st:et)(aw:co):Prop:=∃v lf c dQ aN O,jV n bY x st v lf c dQ aN O/\c.js=false/\vl aw v lf
section
variable {n b:Nat}{bY:Nat->Bool}{x:kY}{st:et}{v:List bF}{lf:Nat->Nat->Option (List UInt8)}{c:jt}{dQ aN:List Pt}{O:nj}{aw:co}{D:cV}{xs:List dp}{l:List gR}
theorem ki.start(aq:n<=65536):ki n (λ_=>false) ⟨ay.dv,qP⟩ dU co.dv:=⟨_,_,_,_,_,_,jV.start aq,rfl,vl.start⟩
theorem ob.in(t:ob (λp b=>p∈c.eg/\nh x.s p b) st.dd dQ aN v)(k:Nat):fu (v.getD k bp)/\fc (v.getD k bp)=true:=by
 by_cases r:k<256
 ·have J:=t.lf (k / 4) (by omega);have e:=QF (o:=k / 4) (v:=v) (show k%4<4 by omega);rw[show 4*(k / 4)+k%4=k by omega]at e;rw[<-e];have fo:(jE (k / 4) v).getD (k%4) bp∈jE (k / 4) v\/(jE (k / 4) v).getD (k%4) bp=bp:=by
   rw[lk]
   cases ad:(jE (k / 4) v)[k%4]? with
   |none=>exact .inr rfl
   |some y=>grind
  rcases fo with fo|fo
  ·exact⟨J.ok.all _ fo,vg.1 J.all _ fo⟩
  ·rw[fo];exact⟨jy,by decide⟩
 ·have:v.getD k bp=bp:=by rw[lk,Ed (by have:=t.ak;omega)];rfl
  rw[this];exact⟨jy,by decide⟩
theorem jV.hz(h:jV n bY x st v lf c dQ aN O):∀k,1<=k->k<=255->v.getD k bp=bp->∀o,o<64->lf k o=none:=λk J T hz o av=>by
 have ji:=h.tR.ji k J T;have W:=h.tR.x k J T;have ax:(O.x k).V=ah:=by rw[W,hz];rfl
 have aV:=ji.rU.ag5 ax av;rcases ji.iw o av with⟨_,e⟩|⟨e,_⟩
 ·exact e
 ·exact absurd aV e
theorem ki.reads(h:ki n bY x st aw)(bm:¬(bY 0=true/\bY 1=true)):aqx n x st aw/\yg (lZ n) x x.ea=(x,st,0)/\gi st/\wS x.ea:=by
 obtain⟨v,lf,c,dQ,aN,O,J,T,ag⟩:=h;have ao:=J.aqG T bm;have ax:=J.xT ao;refine⟨⟨λk bn bh=>⟨_,J.tR.ag6 ax bn bh,ag.x k bn bh⟩,λk o bn bh av=> ?_,ag.ok.ad⟩,J.open ao,J.tm,J.AO⟩;rw[<-ag.l k bn bh o av];exact J.tR.aFt ax bn bh av
theorem ki.ok(h:ki n bY x st aw):gi st/\wS x.ea:=by
 obtain⟨v,lf,c,dQ,aN,O,J,T,ag⟩:=h;exact⟨J.tm,J.AO⟩
theorem ki.use(h:ki n bY x st aw){i:Nat}(ad:i<2):∀a,1<=a->a<n->x.s.use i a<3:=by
 obtain⟨v,lf,c,dQ,aN,O,J,T,ag⟩:=h;exact J.aqF ad
theorem ki.eX(h:ki n bY x st aw)(Q:iL b x.s){cL:eb->Nat}(dC:kG cL):700000 - b<=gX cL ⟨x.s,[],[]⟩:=by
 obtain⟨v,lf,c,dQ,aN,O,J,T,ag⟩:=h;exact J.eX T Q dC
end
open Go.Maps
section
variable {D:cV}{a k:dp}{l:List gR}{xs:List dp}
theorem aFu{x:gR}(h:(tV D x).any k):D.any k\/k=x.num:=by
 by_cases r:k=x.num
 ·exact .inr r
 ·left;unfold tV at h;split at h
  ·unfold cV.w_ at h;split at h
   ·rcases h with h|h|h
    ·exact .inl h
    ·simp only[aQ r]at h;exact .inr (.inl h)
    ·exact .inr (.inr h)
   ·exact h
  ·split at h
   ·unfold cV.kq at h;split at h
    ·rcases h with h|h|⟨o,h⟩
     ·exact .inl h
     ·exact .inr (.inl h)
     ·have e:(k,o)≠(x.num,x.off):=λe=>r (yN Prod.fst e);simp only[aQ e]at h;exact .inr (.inr ⟨o,h⟩)
    ·exact h
   ·unfold cV.rm at h;split at h
    ·rcases h with h|h|⟨o,h⟩
     ·simp only[aQ r]at h;exact .inl h
     ·exact .inr (.inl h)
     ·simp only[aQ r]at h;exact .inr (.inr ⟨o,h⟩)
    ·exact h
theorem ag7:∀(l:List gR) {D:cV},(mU D l).any k->D.any k\/k∈l.map (·.num)
 |[],_,h=>.inl h
 |x::l,D,h=>by
  rcases ag7 l (D:=tV D x) h with h|h
  ·rcases aFu h with h|h
   ·exact .inl h
   ·exact .inr (by simp[h])
  grind
theorem UZ{α:Type}[BEq α][LawfulBEq α]:∀(xs L:List α),xs.Nodup->(∀a∈xs,a∈L)->xs.length<=L.length
 |[],_,_,_=>gG _
 |a::xs,L,bm,h=>by
  rw[OH]at bm;have aC:=h a (by simp);have J:=UZ xs (L.erase a) bm.2 λb ab=>(List.mem_erase_of_ne λe=>bm.1 (by rw[<-e];exact ab)).2 (h b (by simp[ab]))
  grind
theorem axS(W:ya (mU cV.dv l) xs):xs.length<=l.length:=by
 have J:xs.Nodup:=W.1.imp λh e=>by grind
 have:=UZ xs (l.map (·.num)) J λa ao=>by
  rcases ag7 l ((W.2 a).1 ao)with h|h
  ·rcases h with h|h|⟨o,h⟩<;>cases h
  ·exact h
 simpa using this
end
section
variable {Y w w':M}{K S:Nat->Prop}{m p n cg:Nat}{z:fV}{X ig:kY}{cL:eb->Nat}{o vE:Nat}{base fZ:N}{D:cV}{aqH bw:Nat->Prop}{Cn:zE}
theorem eJ.SH(dC:kG cL)(h:eJ Y w K m p n cg z X){aY:jt}(Gs:aY.n=n)(aq:n<=65536)(aC:640000<=gX cL ⟨X.s,[],[]⟩){st:et}(ok:gi st)(AO:wS X.ea)(hq:aY.bf=st.gen+1)(iQ:st.gen+1<18446744073709551616)
  (av:jg w o base fZ vE D aqH bw Cn)(I_:∀j,aqH j\/bw j->K j/\¬iK j)(dX:D.fL)(Hb:vE<=30000)(MO:∀a o b,D.lf (a,o)=some b->b=[]\/b.length=512){xs:List dp}(eF:ya D xs)(lj:xs.length<=90)
  {cJ:et}{e:Int}(ax:tL aY X st D xs=(ig,cJ,e)):
  bc prog 21 #[az m,.pointer (some ⟨z.c',0,none⟩),az cg,.agg (bN st),az o] w λv' w'=>(v'=.tuple #[.agg (bN cJ),aa e]/\gi cJ)/\eJ Y w' K m p n cg z ig/\H (λk=>¬K k) w w':=by
 subst Gs;exact h.call λO eZ aH fW cv fT gB=>by
  have:=aCQ dC cv fT gB aq eZ aH st ok AO hq iQ av (λj I=>⟨fW j (I_ j I).1,(I_ j I).2⟩) dX Hb MO xs eF lj aC;rw[ax]at this;exact this.mono λv' w' ⟨a,b,c,d⟩=>⟨⟨a,b⟩,c,d⟩
theorem eJ.count(h:eJ Y w K m p n cg z X){i:Nat}(ad:i<2)(aq:n<=65536)(ap:∀a,1<=a->a<n->X.s.use i a<3):bc prog 19 #[.pointer (some ⟨z.c',0,none⟩),aa i] w λv' w'=>v'=SO X.s i n/\H al w w':=by
 obtain⟨O,⟨a_,A,J,_⟩,_⟩:=h.MZ;exact aCg J ad aq ap
theorem eJ.load(h:eJ Y w K m p n cg z X)(ok:wS X.ea):bc prog 20 #[az cg] w λv' w'=>v'=.agg (wx X.ea)/\H al w w':=by
 obtain⟨O,⟨a_,A,J,T,_⟩,_⟩:=h.MZ;exact aqI cg p X.ea.1 X.ea.2.1 X.ea.2.2 w ok T
theorem eJ.Cq(dC:kG cL)(h:eJ Y w K m p n cg z X)(aC:96<=za cL X)(ok:wS X.ea){st:et}(ax:yg (lZ n) X X.ea=(X,st,0)):
  bc prog 26 #[up m,.agg (wx X.ea)] w λv' w'=>(v'=.tuple #[.agg (bN st),aa 0]/\gi st)/\eJ Y w' K m p n cg z X/\H (λk=>¬K k) w w':=
 h.call λO eZ aH fW e fT gB=>by
  have:=aFv dC e fT gB eZ aH (by omega) X.ea ok;rw[ax]at this;exact this
end
end Go.Proofs.YtoohkhcpboldjaaGreatDoor
namespace Go.Proofs.YtoohkhcpboldjaaGreatDoor
open Go.RowKit Go.Kin Tryz
section
variable {n:Nat}{bY:Nat->Bool}{x:kY}{st:et}{v:List bF}{lf:Nat->Nat->Option (List UInt8)}{c:jt}{dQ aN:List Pt}{O:nj}{t:eb}{p:Pt}
theorem aFw(ok:cc p)(aA:Fl p)(aC:jY p=true):(pa p).length<=fE p.k:=by
 obtain⟨a,b,e,ao,gE⟩:=aA;have bM:=aEt ok aC;rw[MU e ao];rw[Qn e rfl]at aC;simp only[ot,acY,Fp,Bool.or_eq_false_iff,Bool.and_eq_false_iff]at aC
 grind
theorem aqJ:∀l:List Pt,(∀p∈l,cc p/\Fl p/\jY p=true)->(bx l).length<=gz l
 |[],_=>c_ _
 |p::l,h=>by
  have J:=aqJ l λq au=>h q (by simp[au]);obtain⟨o,s,m⟩:=h p (by simp);have T:=aFw o s m;have e:bx (p::l)=pa p++bx l:=rfl;have aR:gz (p::l)=fE p.k+gz l:=by unfold gz;rfl
  grind
theorem ag8:∀l:List Pt,(∀p∈l,(pa p).length=fE p.k)->(bx l).length=gz l
 |[],_=>rfl
 |p::l,h=>by
  have J:=ag8 l λq au=>h q (by simp[au]);have T:=h p (by simp);have e:bx (p::l)=pa p++bx l:=rfl;have aR:gz (p::l)=fE p.k+gz l:=by unfold gz;rfl
  grind
theorem mK.Nc(h:mK c t){b:Nat}(bM:gz t.bX<=b)(ax:(bx c.eg).length+b+1<c.n):¬aag c t:=λbP=>by
 have J:=UZ (List.range' 1 (c.n - 1)) (bx (c.eg++t.bX)) List.nodup_range' λa ao=>by
  rw[List.mem_range'_1]at ao;exact bP a ao.1 (by omega)
 have T:=aqJ t.bX λp am=>h.Bz p (hP.2 (.inr am));rw[Fm,kR,List.length_range']at J;omega
theorem jV.hL(h:jV n bY x st v lf c dQ aN O){i:Nat}(ad:i<2):x.s.eM i 1 n=(bx c.eg).length:=by
 have kz:(bx c.eg).Nodup:=by have:=h.ok.bU.cn;rwa[va]at this
 have aFx:∀a∈bx c.eg,1<=a/\a<n:=λa ao=>by have:=h.ok.bU.Di a (by grind);rw[h.n]at this;exact this
 unfold ay.eM;rw[List.countP_eq_length_filter];have aC:∀a,a∈(List.range n).filter (λa=>decide (1<=a)&&decide (x.s.use i a=1))↔a∈bx c.eg:=λa=>by
  rw[vh,wl,ot,qf,qf];constructor
  ·rintro⟨J,T,ag⟩;rw[h.ag4 ad T J]at ag
   grind
  ·intro e;have ax:=aFx a e;exact⟨ax.2,ax.1,by rw[h.ag4 ad ax.1 ax.2,be e]⟩
 exact Nat.le_antisymm (UZ _ _ (List.nodup_range.filter _) λa ao=>(aC a).1 ao) (UZ _ _ kz λa ao=>(aC a).2 ao)
end
def yo:bF:=⟨2,1,0,ah⟩
theorem aqK:fu yo:=⟨by decide,by decide,by decide,cH⟩
theorem aqL:fc yo=true:=by decide
def rV:cV:=cV.dv.w_ 1 yo
theorem aqM(k:Nat)(r:k<=255):rV.aZ (Fin.ofNat _ k)=if k=1 then some yo else none:=by
 have e:rV={cV.dv with aZ:=λa=>if a=1 then some yo else cV.dv.aZ a}:=by
  unfold rV cV.w_;rfl
 rw[e];simp only;by_cases h:k=1
 ·subst h;rfl
 ·rw[aQ h,aQ λe=>h (by have:=yN Fin.val e;grind)];rfl
theorem aaE:rV={cV.dv with aZ:=λa=>if a=1 then some yo else none}:=by
 rfl
theorem aFy:rV.fL:=by
 rw[aaE];refine⟨λa x h=> ?_,λa o x h=>(by cases h),λa h=>(by cases h)⟩;simp only at h;split at h
 ·rename_i e;rw[e];decide
 ·cases h
theorem aFz:ya rV [1]:=by
 refine⟨by simp,λa=> ?_⟩;rw[aaE,sc];unfold cV.any;simp only[cV.dv]
 grind
theorem aaF(k:Nat):(fk rV).ch k=[]:=by
 rfl
theorem aqN:aam (fk rV) Dq ([(1:dp)].map (·.val)):=by
 have own:∀k x,(fk rV).own k=some x->x=yo:=λk x h=>by
  have h:rV.aZ _=some x:=h;rw[aaE]at h
  grind
 refine⟨⟨λk x h=>by rw[own k x h];exact⟨aqK,aqL⟩,λk gJ h=>(by rw[aaF]at h;cases h),λk=>(by rw[aaF];exact IJ)⟩,λk bM hz ax=>absurd (by rw[aaD];rfl) ax,by simp,λk r=> ?_,λk J T r=>⟨?_,?_,aaF k⟩⟩
 ·grind
 ·show rV.aZ (Fin.ofNat _ k)=none;rw[aqM k T,aQ λe=>r (by rw[e];simp)]
 rfl
theorem aFA:∃aY:jt,aY.n=40/\aY.bf=1/\∃hd cJ i,tL aY ⟨ay.dv,qP⟩ dU rV [1]=(hd,cJ,0)/\cJ.gen=1/\hd.ea.1=1/\yg (lZ 40) hd hd.ea=(hd,cJ,0)/\gi cJ/\wS hd.ea/\qB (lZ 40) hd cJ 1=(hd,i,0)/\fu i/\i.k=2/\(∀j,j<2->hd.s.eM j 1 40=8/\∀a,1<=a->a<40->hd.s.use j a<3)/\iL 160 hd.s/\hd.s.P=eL.on/\∀i,vQ (hd.s.aB i):=by
 have bi:=jV.start (n:=40) (by decide);refine⟨{Kw 40 with bf:=dU.gen+1},rfl,rfl,?_⟩;have au:=bi.ap9 rfl (by decide) (by decide) aqN rfl iL.start;have ag9:fP ([(1:dp)].map (·.val)) ((fk rV).uM Dq)+2*(([(1:dp)].map (·.val)).length+10)=22:=by
  have:∀k,(fk rV).uM Dq k=0:=λk=>by unfold nW.uM;rw[aaF];simp
  simp[fP,this]
 rcases bi.SH rfl (by decide) (by decide) aqN (by simp) rfl with⟨hd,cJ,v',yj,rv,O',dA,aL,aR,dB,dl,gL,je,hX,t1,aW,bg,bR⟩|⟨hd,e,t1,aL,aR,dB,dl,gL,je,hX,bg⟩
 ·rw[ag9]at bg;have U_:=aW.Nc bg (by show 0+22+1<40;decide);have ao:=dl.aqG dB (by decide);have ax:=dl.xT ao;have SJ:=dl.open ao;rw[aL]at au;have lr:=hX 1 (by simp);have aFB:(fk rV).i' Dq 1=yo:=by
   show(rV.aZ (Fin.ofNat _ 1)).getD _=yo;rw[aqM 1 (by decide),be rfl];rfl
  rw[aFB,aQ (by decide)]at lr;have IY:0<cJ.gen:=by rw[aR];exact Nat.succ_pos _
  have yk:0<cJ.gen/\cJ.top.k=5/\cJ.top∈dA.eg/\nh hd.s cJ.top (po (cJ.gen,cJ.dd))/\cJ.top=rk hd.ea/\hd.ea.1=cJ.gen:=by
   rcases dl.top with⟨k,_,_⟩|k
   ·grind
   ·exact k
  refine⟨hd,cJ,v'.getD 1 bp,aL,by rw[aR];rfl,by rw[yk.2.2.2.2.2,aR];rfl,SJ,dl.tm,dl.AO,dl.tR.ag6 ax (by decide) (by decide),(dl.tR.kp.in 1).1,by rw[lr];rfl,λj I=>⟨?_,dl.aqF I⟩,au,dl.ok.bU.on dB,dl.ok.bU.By⟩;have bM:∀p∈dA.eg,(pa p).length=fE p.k:=λp am=>by
   rcases bR p am with k|k
   ·cases k
   ·exact(aW.wide.resolve_right U_) p k
  rw[dl.hL I,ag8 _ bM,dl.tR.Nd (λe=>by have:=yk.2.1;rw[e]at this;cases this) yk.2.1 dl.qM dl.eM];have bP:ke.filter (λk=>decide (v'.getD k bp≠bp))=ke.filter (λk=>decide (k=1)):=by
   refine acZ λk r=> ?_;have r:=Fs.1 r;by_cases J:k=1
   ·subst J;rw[lr];rfl
   ·have:=je k r.1 r.2 (by simpa using J);rw[this,aaD];simp[J]
  have aFC:xc v' (UM (fk rV) Dq (λ_ _=>none) ([(1:dp)].map (·.val)))=[(1,2,List.replicate 64 false)]:=by
   unfold xc;rw[bP,show ke.filter (λk=>decide (k=1))=[1]from by decide];simp only[oq,OF];rw[lr];have ak:∀o,UM (fk rV) Dq (λ_ _=>none) [(1:dp).val] 1 o=none:=λo=>by
    rfl
   simp only[ak];rfl
  rw[aFC];decide
 ·exfalso;rw[ag9]at bg;have U_:=gL.Nc bg (by show 0+22+1<40;decide)
  grind
theorem aFD(l:List Bool)(i j:Nat):oc l (i+j)=oc l i+((l.drop i).take j).count true:=by
 unfold oc
 grind
theorem aFE(l:List Bool)(k:Nat):k_ l k<=oc l (8*k):=by
 induction k with
 |zero=>simp[k_]
 |succ k bL=>
  unfold k_;rw[BY,Sc,aFD];split
  ·rename_i h;have:0<((l.drop (8*k)).take 8).count true:=by
    rw[XA];unfold Dr at h;rw[Xu]at h;obtain⟨x,W,hid⟩:=h;simp at hid;subst hid;exact W
   omega
  ·omega
theorem U'{f g:Nat->Nat}{k0:Nat}:∀{l:List Nat},l.Nodup->(∀k∈l,k≠k0->f k<=g k)->f k0<=g k0+1->fP l f<=fP l g+1
 |[],_,_,_=>gG _
 |a::l,bm,h,bi=>by
  rw[OH]at bm;rw[pY,pY];by_cases ao:a=k0
  ·have:fP l f<=fP l g:=Kx λn aq=>h n (by simp[aq]) λe=>bm.1 (by rw[ao,<-e];exact aq);rw[ao];omega
  ·have J:=U' (l:=l) bm.2 (λk r=>h k (by simp[r])) bi
   grind
theorem aqO(l:List Nat)(f:Nat->Nat)(k:Nat):fP l (λn=>k*f n)=k*fP l f:=by
 induction l with
 |nil=>rfl
 |cons a l bL=>rw[pY,pY,bL,BY]
theorem aqP:ke.Nodup:=ag_.imp λh e=>by omega
def Nf(z:Int):Nat:=if 0<=z then 1 else 0
def Va(x:bF):Nat:=if x=bp then 0 else 1
theorem aFF(z:Int):Nf z<=1:=by unfold Nf;split<;>omega
theorem aFG(x:bF):Va x<=1:=by unfold Va;split<;>omega
theorem aFH:Nf (-1)=0:=rfl
def co.hB(aw:co)(k:Nat):Nat:=fP (List.range 64) λo=>Nf (aw.l k o)
def co.hD(aw:co)(k:Nat):Nat:=Va (aw.x k)
def co.tY(aw:co):Nat:=fP ke λk=>aw.hD k+aw.hB k
theorem aaG{f:Nat->Nat}:∀{l:List Nat},(∀n∈l,f n=0)->fP l f=0
 |[],_=>rfl
 |a::l,h=>by rw[pY,aaG λn aq=>h n (by simp[aq]),h a (by simp)]
section
variable {aw:co}{a:gR}{l:List gR}{k o:Nat}
theorem aFI:co.dv.tY=0:=aaG λk _=>by
 have T:co.dv.hB k=0:=aaG λo _=>aFH;have J:co.dv.hD k=0:=by unfold co.hD Va;exact be rfl
 rw[J,T]
theorem aFJ(aw:co){k n:Nat}(x:bF)(h:k≠n):(aw.sK n x).x k=aw.x k:=aQ h
theorem aqQ(aw:co){k o n f:Nat}(z:Int)(h:¬(k=n/\o=f)):(aw.kq n f z).l k o=aw.l k o:=aQ h
theorem aFK(aw:co)(n k o:Nat):(aw.rm n).l k o=if k=n/\o<64 then -1 else aw.l k o:=rfl
theorem aFL(aw:co)(k o:Nat):aw.uO.l k o=if k<256/\o<64/\aw.x k=bp then -1 else aw.l k o:=rfl
theorem aqR(c:Prop)[Decidable c](z:Int):Nf (if c then -1 else z)<=Nf z:=by
 split
 ·exact gG _
 ·exact c_ _
theorem aFM(aw:co)(a:gR):(mL aw a).tY<=aw.tY+1:=by
 have Ky:aw.tY<=aw.tY+1:=by omega
 unfold mL;split
 ·split
  ·refine U' (k0:=a.num.val) aqP (λk _ r=> ?_) ?_
   ·have aL:(aw.sK a.num.val (sM a.i)).hD k=aw.hD k:=by unfold co.hD;rw[aFJ aw _ r]
    have aR:(aw.sK a.num.val (sM a.i)).hB k=aw.hB k:=rfl;omega
   ·have aL:(aw.sK a.num.val (sM a.i)).hD a.num.val<=1:=aFG _;have aR:(aw.sK a.num.val (sM a.i)).hB a.num.val=aw.hB a.num.val:=rfl;omega
  ·exact Ky
 ·split
  ·split
   ·refine U' (k0:=a.num.val) aqP (λk _ r=> ?_) ?_
    ·have aL:(aw.kq a.num.val a.off.val (vR a)).hD k=aw.hD k:=rfl;have aR:(aw.kq a.num.val a.off.val (vR a)).hB k=aw.hB k:=Ng λo _=>by rw[aqQ aw _ λe=>r e.1]
     omega
    ·have aL:(aw.kq a.num.val a.off.val (vR a)).hD a.num.val=aw.hD a.num.val:=rfl;have aR:(aw.kq a.num.val a.off.val (vR a)).hB a.num.val<=aw.hB a.num.val+1:=by
      refine U' (k0:=a.off.val) List.nodup_range (λo _ av=> ?_) ?_
      ·rw[aqQ aw _ λe=>av e.2];exact c_ _
      ·have:=aFF ((aw.kq a.num.val a.off.val (vR a)).l a.num.val a.off.val);omega
     omega
   ·exact Ky
  ·split
   ·have:(aw.rm a.num.val).tY<=aw.tY:=Kx λk _=>by
     have aL:(aw.rm a.num.val).hD k=aw.hD k:=rfl;have aR:(aw.rm a.num.val).hB k<=aw.hB k:=Kx λo _=>by rw[aFK];exact aqR _ _
     omega
    omega
   ·exact Ky
theorem aFN(aw:co):aw.uO.tY<=aw.tY:=Kx λk _=>by
 have aL:aw.uO.hD k=aw.hD k:=rfl;have aR:aw.uO.hB k<=aw.hB k:=Kx λo _=>by rw[aFL];exact aqR _ _
 omega
theorem aFO(l:List gR):∀aw:co,(l.foldl mL aw).tY<=aw.tY+l.length:=by
 induction l with
 |nil=>grind
 |cons a l bL=>
  intro aw;have J:=bL (mL aw a);have T:=aFM aw a
  grind
theorem aFP(aw:co)(l:List gR):(vo aw l).tY<=aw.tY+l.length:=dK (aFN _) (aFO l aw)
def co.iw(aw:co)(k:Nat):List Nat:=(List.range 64).filter λo=>decide (0<=aw.l k o)
def co.jh(aw:co):List Nat:=ke.filter λk=>decide (aw.x k≠bp)
def co.Gy(aw:co):List nk:=aw.jh.map λk=>(k,(aw.x k).k,aw.iw k)
def co.iN(aw:co):List mM:=aw.jh.map λk=>(k,(aw.x k).k,(List.range 64).map λo=>decide (0<=aw.l k o))
theorem aqS:k∈aw.jh↔(1<=k/\k<=255)/\aw.x k≠bp:=by
 unfold co.jh;rw[vh,Fs,qf]
theorem aFQ(aw:co)(k:Nat):lB (aw.iw k)=(List.range 64).map λo=>decide (0<=aw.l k o):=by
 unfold lB co.iw
 simp_all
theorem aqT:∀(l:List nk) (s:List mM) (b:List Bool),b.length=256->(l.map (·.1)).Nodup->(∀x∈l,1<=x.1/\x.1<=255/\1<=x.2.1/\x.2.1<=3/\b.getD x.1 false=false)->(l.foldl q' (s,b)).1=s++l.map λx=>(x.1,x.2.1,lB x.2.2)
 |[],s,b,_,_,_=>by simp
 |x::l,s,b,ab,bm,h=>by
  rw[oq,OH]at bm;obtain⟨J,T,ag,aP,bH⟩:=h x (by simp);have JQ:dN b x=false:=by
   unfold dN;rw[vi (by omega),vi (by omega),vi (by omega),vi (by omega),bH];rfl
  rw[yO];have e:q' (s,b) x=(s++[(x.1,x.2.1,lB x.2.2)],b.set x.1 true):=by
   unfold q';rw[JQ];rfl
  rw[e,aqT l _ _ (by grind) bm.2 λy ar=> ?_,oq,nv]
  ·rfl
  grind
theorem aya(r:∀k,1<=k->k<=255->aw.x k≠bp->1<=(aw.x k).k/\(aw.x k).k<=3):(kK aw.Gy).1=aw.iN:=by
 have e:aw.Gy.map (·.1)=aw.jh:=by unfold co.Gy;rw[OG];exact OL _
 unfold kK M_;rw[aqT aw.Gy [] _ (aaH 256) (by rw[e];exact(ag_.filter _).imp λh e=>by omega) λx W=> ?_]
 ·unfold co.Gy co.iN;rw[xu,OG];exact xE λk _=>by
   show(k,(aw.x k).k,lB (aw.iw k))=_;rw[aFQ]
 ·obtain⟨k,sn,rfl⟩:=lF.1 W;obtain⟨⟨J,T⟩,ag⟩:=aqS.1 sn;have:=r k J T ag;refine⟨J,T,this.1,this.2,?_⟩;unfold qD
  grind
theorem aqU(P:Nat->Bool):∀l:List Nat,(l.map P).count true=fP l λo=>if P o=true then 1 else 0
 |[]=>rfl
 |a::l=>by
  rw[oq,OM,aqU P l,pY]
  cases P a<;>simp<;>omega
theorem aFR(r:∀k,1<=k->k<=255->aw.x k≠bp->(aw.x k).k=1):9*Gz aw.iN<=26*aw.tY+1332:=by
 have ir:9*mu aw.iN<=26*aw.tY:=by
  unfold co.iN;rw[ag',<-aqO];have e:aw.tY=fP aw.jh (λk=>aw.hD k+aw.hB k)+fP (ke.filter λn=> !decide (aw.x n≠bp)) λk=>aw.hD k+aw.hB k:=aha _ _ _;have J:fP aw.jh (λn=>9*Fy (n,(aw.x n).k,(List.range 64).map λo=>decide (0<=aw.l n o)))<=fP aw.jh λk=>26*(aw.hD k+aw.hB k):=Kx λk kZ=>by
   obtain⟨⟨bn,bh⟩,bA⟩:=aqS.1 kZ;have aq:aw.hD k=1:=by unfold co.hD Va;rw[aQ bA]
   have Z:oc ((List.range 64).map λo=>decide (0<=aw.l k o)) 64=aw.hB k:=by
    have ak:((List.range 64).map λo=>decide (0<=aw.l k o)).length=64:=by simp
    rw[show oc ((List.range 64).map λo=>decide (0<=aw.l k o)) 64=((List.range 64).map λo=>decide (0<=aw.l k o)).count true from by rfl];rw[aqU];exact Ng λo _=>by unfold Nf;simp
   have aH:=QG ((List.range 64).map λo=>decide (0<=aw.l k o)) 8;have aau:=aFE ((List.range 64).map λo=>decide (0<=aw.l k o)) 8;unfold Fy;simp only;rw[r k bn bh bA,Z,aq];rw[Z]at aau;rw[show(if Fz 1=1 then 1 else 2)=1 from rfl];split<;>omega
  rw[aqO aw.jh (λk=>aw.hD k+aw.hB k)]at J;omega
 have cC:=QG (od aw.iN) 8;have cj:=Vb (od aw.iN) 64;unfold Gz;split<;>omega
end
def sN(l:List gR)(k:dp):Nat:=l.countP λa=>decide (a.num=k)
def FA(b:Option cW):Nat:=if b.isSome=true then 1 else 0
theorem aFS(b:Option cW):FA b<=1:=by unfold FA;split<;>omega
theorem aFT(b c:Option cW):FA b<=FA c+1:=by have:=aFS b;omega
def yp(D:cV)(k:dp):Nat:=fP (List.range 64) λo=>FA (D.lf (k,Fin.ofNat _ o))
section
variable {D:cV}{a:gR}{k:dp}{l:List gR}{xs:List dp}
theorem aFU{D D':cV}{k:dp}(f:gn)(h:∀o,o≠f->D'.lf (k,o)=D.lf (k,o)):yp D' k<=yp D k+1:=by
 have bi:FA (D'.lf (k,Fin.ofNat _ f.val))<=FA (D.lf (k,Fin.ofNat _ f.val))+1:=aFT _ _;unfold yp;refine U' (k0:=f.val) List.nodup_range (λo aC av=> ?_) bi
 grind
theorem aFV:yp (tV D a) k<=yp D k+(if a.num=k then 1 else 0):=by
 have Ky:yp D k<=yp D k+(if a.num=k then 1 else 0):=Cd _ _;unfold tV;split
 ·unfold cV.w_;split
  ·exact Ky
  ·exact Ky
 ·split
  ·unfold cV.kq;split
   ·by_cases r:a.num=k
    ·rw[be r];refine aFU a.off λo av=> ?_
     grind
    ·rw[aQ r,Ec];refine Kx λo _=> ?_
     grind
   ·exact Ky
  ·unfold cV.rm;split
   ·refine dK (m:=yp D k) (Kx λo _=> ?_) (Cd _ _);dsimp only;by_cases e:k=a.num
    ·rw[be e];exact gG _
    grind
   ·exact Ky
theorem aFW(l:List gR):∀D:cV,yp (mU D l) k<=yp D k+sN l k:=by
 induction l with
 |nil=>exact λD=>Cd _ _
 |cons a l bL=>
  intro D;have J:=bL (tV D a);have T:=aFV (D:=D) (a:=a) (k:=k);have e:sN (a::l) k=sN l k+(if a.num=k then 1 else 0):=by unfold sN;rw[List.countP_cons];simp
  show yp (mU (tV D a) l) k<=_;rw[e];omega
theorem aFX(D:cV)(k:dp):(qu D k).length=yp D k:=by
 unfold qu yp;have key:∀l:List Nat,(l.filterMap λo=>(D.lf (k,Fin.ofNat _ o)).map λb=>(o,b)).length=fP l λo=>FA (D.lf (k,Fin.ofNat _ o)):=λl=>by
  induction l with
  |nil=>rfl
  |cons o l bL=>
   rw[ac0,pY]
   cases D.lf (k,Fin.ofNat _ o)with
   |none=>simp[bL,FA]
   |some b=>simp[bL,FA];omega
 exact key _
theorem aqV:∀(l:List gR) {xs:List dp},xs.Nodup->(xs.map (sN l)).sum<=l.length
 |[],xs,_=>by
  have:∀xs:List dp,(xs.map (sN [])).sum=0:=λxs=>by
   induction xs with
   |nil=>rfl
   |cons a xs bL=>rw[oq,XB,bL];rfl
  grind
 |a::l,xs,bm=>by
  have J:=aqV l bm;have key:∀xs:List dp,xs.Nodup->(xs.map (sN (a::l))).sum<=(xs.map (sN l)).sum+1/\(a.num∉xs->(xs.map (sN (a::l))).sum=(xs.map (sN l)).sum):=λxs=>by
   induction xs with
   |nil=>grind
   |cons x xs bL=>
    intro bm;rw[OH]at bm;obtain⟨si,cf⟩:=bL bm.2;have e:sN (a::l) x=sN l x+(if a.num=x then 1 else 0):=by unfold sN;rw[List.countP_cons];simp
    grind
  grind
theorem aFY{v:List bF}(W:ya (mU cV.dv l) xs)(r:∀k∈xs.map (·.val),((fk (mU cV.dv l)).i' v k).k<=1):fP (xs.map (·.val)) ((fk (mU cV.dv l)).uM v)+2*((xs.map (·.val)).length+10)<=7*l.length+20:=by
 have kz:xs.Nodup:=W.1.imp λh e=>by grind
 have aA:=aqV l kz;have sC:∀a∈xs,(fk (mU cV.dv l)).uM v a.val+2<=7*sN l a:=λa ao=>by
  have aqE:1<=sN l a:=by
   rcases ag7 l ((W.2 a).1 ao)with h|h
   ·rcases h with h|h|⟨o,h⟩<;>cases h
   ·unfold sN
    grind
  have cu:((fk (mU cV.dv l)).ch a.val).length<=sN l a:=by
   show(qu _ (Fin.ofNat _ a.val)).length<=_;rw[aoA,aFX];have J:=aFW (k:=a) l cV.dv;have bi:yp cV.dv a=0:=aaG λo _=>rfl;omega
  have bM:fE (jQ ((fk (mU cV.dv l)).i' v a.val).k)<=1:=by
   have:=r a.val (List.mem_map_of_mem ao);have aFZ:((fk (mU cV.dv l)).i' v a.val).k=0\/((fk (mU cV.dv l)).i' v a.val).k=1:=by omega
   rcases aFZ with e|e<;>rw[e]<;>decide
  unfold nW.uM;generalize((fk (mU cV.dv l)).ch a.val)=C at*;have aC:C.length*fE (jQ ((fk (mU cV.dv l)).i' v a.val).k)<=C.length*1:=Nat.mul_le_mul_left _ bM;split<;>omega
 have all:∀ys:List dp,(∀a∈ys,(fk (mU cV.dv l)).uM v a.val+2<=7*sN l a)->fP (ys.map (·.val)) ((fk (mU cV.dv l)).uM v)+2*ys.length<=7*(ys.map (sN l)).sum:=λys=>by
  induction ys with
  |nil=>exact λ_=>c_ _
  |cons a ys bL=>
   intro h;have J:=bL λb ab=>h b (by simp[ab]);have T:=h a (by simp);rw[oq,pY,oq,XB,qK];omega
 grind
end
end Go.Proofs.YtoohkhcpboldjaaGreatDoor
