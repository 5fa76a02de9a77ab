/- Format, of disks on which nothing is. Conditions: the variables that are listed hold what the text lays; sizes. -/
import Derived.Scope
import Derived.ControlIn
import Derived.Test.YtoohkhcpboldjaaGreatDoorMtD
set_option maxRecDepth 100000
set_option maxHeartbeats 1000000
set_option linter.unusedSimpArgs false
set_option linter.unusedVariables false
namespace Go.Kin
open Go
section
variable{aR:Fence}{n:Nat}{P:Program}{Q:Exit->Act->World->Prop}{a:Act}{w:World}{b:Frame}{k:List Item}{cs:List Frame}
theorem KY{c:Code}:step P (lone (b.atR a (.code (.scope c)::k)) cs w)=.next (lone (b.atR a (.code c::.inScope c::k)) cs w):=
 step_lone_go (by simp[stepG,stepG.exec,Frame.atR])
theorem awz{c:Code}:step P (lone (b.atR a (.inScope c::k)) cs w)=.next (lone (b.atR a k) cs w):=
 step_lone_go (by simp[stepG,stepG.exec,Frame.atR])
theorem awA{c:Code}(h:c.wpIn aR n P (Exit.noGoto Q) a w):(Code.scope c).wpIn aR n P Q a w:=by
 intro b k cs awB V ap;have bf:(lone (b.atR a (.code (.scope c)::k)) cs w).fenced P aR:=fenced_calm V ap rfl;obtain⟨e,Pc,Pd,aq,rc⟩:=h b (.inScope c::k) cs awB V ap
 cases e with
 |normal=>exact⟨.normal,Pc,Pd,aq,.head bf KY (StepsIn.trans rc (.one (fenced_calm V ap rfl) awz))⟩
 |exit id=>
  have M:exitTo id (.inScope c::k)=exitTo id k:=by simp[exitTo]
  exact⟨.exit id,Pc,Pd,aq,λlo r=>.head bf KY (rc.1 lo (by rw[M];exact r)),
   λai5 r=>let⟨awC,H,I⟩:=rc.2 ai5 (by rw[M];exact r);⟨awC,H,.head bf KY I⟩⟩
 |goto l=>exact aq.elim
 |ret=>exact⟨_,Pc,Pd,aq,.of_steps (.one bf KY) rc⟩
 |panic ch=>exact⟨_,Pc,Pd,aq,.of_steps (.one bf KY) rc⟩
 |outgrown=>exact⟨_,Pc,Pd,aq,.of_steps (.one bf KY) rc⟩
end
def Uc(Q:gr):gr
 |.goto _,_,_,_=>False
 |e,ms,f,w=>Q e ms f w
section
variable{P:Program}{n:Nat}{Q:gr}{ms:List Nat}{f:Nat->Value}{w:World}
@[simp] theorem aIh:Uc Q .normal=Q .normal:=rfl
@[simp] theorem aIi:Uc Q .ret=Q .ret:=rfl
@[simp] theorem aIj(i:Nat):Uc Q (.exit i)=Q (.exit i):=rfl
theorem awD{K:Value->World->Prop}(f:FuncId)(b args:List Value)(h:(callFunc f (b++args).toArray).run P w=.ok (.enter f (b++args).toArray) w):tx P (.func (.func f) b.toArray #[]) args w K=aP P f (b++args).toArray w K:=by
 unfold tx;simp[Deferred.ofValue,invoke,h]
theorem awE(c:Code):dH P n Q (.scope c) ms f w=vU P n Q (.scope c) ms f w:=by kernel_rfl
theorem awF(l:Nat):dH P n Q (.label l) ms f w=vU P n Q (.label l) ms f w:=by kernel_rfl
theorem awG{c:Code}(h:dH P n (Uc Q) c ms f w):dH P n Q (.scope c) ms f w:=by
 rw[awE];unfold vU;intro cx ap;refine awA (wpIn_mono (dH.kj c _ ms f w (.inl ap) h) λe a w an=> ?_);obtain⟨ms,f,rfl,bU⟩:=an
 cases e with
 |goto l=>exact bU
 |_=>exact⟨ms,f,rfl,bU⟩
theorem awH{l:Nat}(h:Q .normal ms f w):dH P n Q (.label l) ms f w:=by
 rw[awF];unfold vU;exact λ_ _=>wpIn_label ⟨ms,f,rfl,h⟩
end
end Go.Kin
namespace Go.Proofs.YtoohkhcpboldjaaGreatDoor
open Go.RowKit Go.Kin
section
variable{N w w':World}{K S:Nat->Prop}{m p n bF:Nat}{z:fe}{X:hK}{cp:dy->Nat}
abbrev qe(z:fe)(m:Nat)(st:e')(o:Int):Obj:=.cells (iW st (.pointer (some ⟨z.b_,0,none⟩)) (.pointer (some ⟨m,0,none⟩)) 0 0 o (.slice none 0 0)) 206
theorem eI.awI(ds:jM cp)(h:eI N w K m p n bF z X)(aH:1200<=vu cp X){x:Nat}(eS:K x)(fu:N.1.size<=x)(KT:¬jl x)(V:w.1[x]? =some (qe z m dO 0))(me:uq X.cy)
  {st:e'}(ns:gV st)(aaw:uw (kU n) X X.cy=(X,st,0)){iY:Nat×br}{ps:List Pt}(fq:vv (kU n) X st.cO=(X,[iY],ps,0))(vw:kM iY)(ap:iY.2.J=ad)(av:iY.2.n≠0)
  (ji:∀q∈ps,bN q)(wu:ps.length<=1000)(hz:tv n X.s (st.top::ps))(sb:144<=vu cp ⟨X.s.iJ n (st.top::ps),X.cy⟩):
  aP Tryz.prog 87 #[.pointer (some ⟨x,0,none⟩),.agg (ol X.cy)] w λW w'=>W=.bool true/\w'.1[x]? =some (qe z m st 1)/\eI N w' K m p n bF z ⟨X.s.iJ n (st.top::ps),X.cy⟩/\D (λk=>¬K k\/k=x) w w':=by
 refine bn Tryz.func87 Tryz.ntmps87 λaZ Z=> ?_;have has:=rT (n:=X.cy.1) me.aD me.am;have ya:=Em (n:=X.cy.1) me.aD me.am;have lr:=lt_of_block V;have mE:=iQ ns;have lw:=zr ns;have dN:=iQ kR;have aav:=(aG V 84).trans (KW kR);simp[go_sem,has,ya];refine awG ?_;simp only[Ud,awJ];have aI:=(D.refl ak w).alloc (.cells (ol X.cy) 61);have ba:=cl w (.cells (ol X.cy) 61);obtain⟨g,aF⟩:=az (w.1.size);obtain⟨ab,de⟩:=az (w.alloc (.cells (ol X.cy) 61));have bt:ab.1.size=g+1:=by rw[<-de,<-aF];simp
 rw[de]at aI ba⊢;rw[aF]at ba⊢;clear de;have Fq:=(h.li aI).li (D.refl ak ab).drew;have aax:=aI.cell aav id;have Pa:ab.drew.cell? ⟨x,84,none⟩=some (.pointer (some ⟨m,0,none⟩)):=aax;have pX:ab.drew.1[g]? =some (.cells (ol X.cy) 61 (0,0)):=ba;have Ay:ab.drew.1[x]? =some (qe z m dO 0):=aI.obj V id;have Pe:∀{fz:World} {K:Nat->Prop},eI N fz K m p n bF z X->aP Tryz.prog 26 #[BQ m,.agg (ol X.cy)] fz λW w'=>(W=.tuple #[.agg (cz st),.int .i64 0]/\gV st)/\eI N w' K m p n bF z X/\D (λk=>¬K k) fz w':=λ{fz K} r=>r.Pe ds (by omega) me aaw;obtain⟨Ue,Uf⟩:∃Ue:(Nat->Value)->World->Prop,Ue=λf' cS=>f' 0=.pointer (some ⟨x,0,none⟩)/\f' 6=.int .i64 0/\∃cu,f' 5=.pointer (some ⟨cu,0,none⟩)/\g<=cu/\cS.1[cu]? =some (.cells (cz st) 46 (0,0))/\cS.1[x]? =some (qe z m dO 0)/\eI N cS (λk=>K k\/k=cu) m p n bF z X/\D (λk=>¬K k) w cS:=⟨_,rfl⟩;have oS:∀{u:World},¬HW w u x:=λ{u} e=>by have:=e.1;omega
 refine SR Ue [[A 0,A 1,A 2,A 3,A 4,A 5,(6,some []),A 7,A 8,A 9,(10,some [7,8,9]),(11,some [9]),A 12],
  [A 0,A 1,A 2,A 3,A 4,A 5,(10,some [0,1,2,3,4,5]),(6,some []),A 7,A 8,A 9,(11,some [9]),A 12]] (by kernel_rfl) (by kernel_rfl) ?_ ?_
 ·intro nn th;simp only[List.mem_cons,List.not_mem_nil,or_false]at th;rcases th with rfl|rfl
  ·simp[go_sem,aax,Pa,ba,pX,has,ya];refine(Pe Fq).mono ?_;rintro _ ai ⟨⟨rfl,_⟩,I,aA⟩;have cm:=cl ai (.cells (cz st) 46);have aE:=(D.refl ak ai).alloc (.cells (cz st) 46);have cw:ab.1.size<=ai.1.size:=aA.size;simp[go_sem,CV,Hx,Hy,dN,mE,lw,qK,bQ];rw[Uf];refine⟨by simp,by simp,_,by simp,by omega,cm,aE.obj (aA.obj Ay λe=>e (.inl (.inl eS))) id,(I.li aE).nI (λk r=>r.elim (λe=>.inl (.inl (.inl e))) λe=>.inr ?_) (λk r=>.inl (h.dJ k r)),?_⟩
   ·rw[e];exact⟨Nat.le_refl _,lt_of_block cm⟩
   ·exact((aI.mono λ_ _ e=>e.elim).trans (D.iy (aA.mono λk _ e tw=>e (.inl (.inl tw))))).trans (aE.mono λ_ _ e=>e.elim)
  ·simp[go_sem,aax,Pa,ba,pX,has,ya];rw[CV (hz:=Hx) (h:=by simp[go_sem]),Hy];have fV:=cl ab.drew (.cells (cz dO) 46);have aY:=(D.refl ak ab.drew).alloc (.cells (cz dO) 46);obtain⟨cu,Hi⟩:=az (ab.drew.1.size);have aIk:ab.1.size=cu:=Hi;rw[Hi]at fV⊢;obtain⟨HX,rF⟩:=az (ab.drew.alloc (.cells (cz dO) 46));rw[rF]at fV aY⊢;clear rF;have awK:=aY.cell Pa id;have awL:=aY.obj pX id;have awM:=lt_of_block fV;simp[go_sem,awK,awL,has,ya];refine(Pe (Fq.li aY)).mono ?_;rintro _ ai ⟨⟨rfl,_⟩,I,aA⟩;have nb:HW ab.drew HX cu:=⟨by omega,awM⟩;have cC:=aA.obj fV λe=>e (.inr nb);have aE:=(D.refl (aj cu) ai).setRow (g:=cu) (.inl rfl) (cz st);simp[go_sem,cC,dN,mE,lw,qK,bQ];rw[Uf];refine⟨by simp,by simp,cu,by simp,by omega,by rw[gk,cC];rfl,aE.obj (aA.obj (aY.obj Ay id) λe=>e (.inl (.inl (.inl eS)))) λe=>by simp only[aj]at e;omega,(I.own aE λk r=> ?_).nI (λk r=>.inl (r.elim (λe=>.inl (.inl (.inl e))) λe=>by rw[e];exact .inr nb)) (λk r=>.inl (h.dJ k r)),?_⟩
   ·simp only[aj]at r;rw[r];exact⟨.inr nb,by have:=h.ch.size;omega⟩
   ·have zc:D (λk=>¬K k) w ai:=((aI.mono λ_ _ e=>e.elim).trans (D.iy (aY.mono λ_ _ e=>e.elim))).trans (aA.mono λk _ e tw=>e (.inl (.inl (.inl tw))));exact zc.bJ aE λj F e=>by simp only[aj]at e;omega
 rw[Uf];rintro f u ⟨f0,f6,cu,cN,Hi,dj,pt,an,aJ⟩;clear Uf Ue Pe;have ph:=O_ (a:=.pointer (some ⟨z.b_,0,none⟩)) (b:=.pointer (some ⟨m,0,none⟩)) (l:=.slice none 0 0) (f:=0) (m:=0) (o:=0) kR;have ia:=awp (a:=.pointer (some ⟨z.b_,0,none⟩)) (b:=.pointer (some ⟨m,0,none⟩)) (l:=.slice none 0 0) (f:=0) (m:=0) (o:=0) kR ns;have qr:=(D.refl (aj x) u).setRow (g:=x) (.inl rfl) (iW st (.pointer (some ⟨z.b_,0,none⟩)) (.pointer (some ⟨m,0,none⟩)) 0 0 0 (.slice none 0 0));have Ug:(u.setRow x (iW st (.pointer (some ⟨z.b_,0,none⟩)) (.pointer (some ⟨m,0,none⟩)) 0 0 0 (.slice none 0 0))).1[x]? =some (qe z m st 0):=by rw[gk,pt];rfl
 have aay:=qr.obj dj λe=>by simp only[aj]at e;omega
 have H:=(an.own qr λk r=>⟨.inl (by simp only[aj]at r;rw[r];exact eS),by simp only[aj]at r;omega⟩).nI (K':=λk=>K k\/k=cu) (λk r=>.inl r) λk r=>.inl (h.dJ k r);have vx:D (λk=>¬K k\/k=x) w (u.setRow x (iW st (.pointer (some ⟨z.b_,0,none⟩)) (.pointer (some ⟨m,0,none⟩)) 0 0 0 (.slice none 0 0))):=(aJ.mono λ_ _ e=>.inl e).trans (qr.mono λk _ e=>.inr e);have eU:¬x=cu:=by omega
 simp[go_sem,f6,cN,f0,dj,pt,mE,lw,ph,ia,qK,eU];obtain⟨fz,sZ⟩:=az (u.setRow x (iW st (.pointer (some ⟨z.b_,0,none⟩)) (.pointer (some ⟨m,0,none⟩)) 0 0 0 (.slice none 0 0)));rw[sZ]at qr Ug aay H vx⊢;clear sZ ia ph;have ai6:=(aG Ug 84).trans (KW ns);have awN:fz.drew.cell? ⟨x,84,none⟩=some (.pointer (some ⟨m,0,none⟩)):=ai6;have ai7:fz.drew.1[cu]? =some (.cells (cz st) 46 (0,0)):=aay;have el:=Sp ns;have pc:=YX ns;refine cD [A 0,A 1,A 2,A 3,A 4,A 5,A 6,(7,some []),A 8,A 9,A 10,A 11,A 12,A 13,A 14] ?_;simp[go_sem,f0,cN,ai6,awN,aay,ai7,mE,el];have Fq:=(H.li (D.refl ak fz).drew).nI (K':=λk=>K k\/k=cu) (λk r=>.inl r) λk r=>.inl (h.dJ k r);refine(Fq.awi ds aH st.cO ns.cO).mono ?_;rw[fq];rintro _ fw ⟨nr,hb,rfl,awO,awP,I,awQ,aA⟩;obtain⟨BR,zV⟩:=az ((λk=>(K k\/k=cu)\/nr.ownBlock=some k\/hb.ownBlock=some k));rw[zV]at I;have nO:BR x:=by rw[<-zV];exact .inl (.inl eS)
 have oA:BR cu:=by rw[<-zV];exact .inl (.inr rfl)
 have KN:fw.1[x]? =some (qe z m st 0):=aA.obj Ug λe=>e (.inl eS);have awR:fw.1[cu]? =some (.cells (cz st) 46 (0,0)):=aA.obj ai7 λe=>e (.inr rfl);have awS:D (λk=>¬K k\/k=x) w fw:=vx.trans (D.iy (aA.mono λk _ e=>.inl λtw=>e (.inl tw)));have n':∀(y:List Value) (w:World),(callFunc 142 y.toArray).run Tryz.prog w=.ok (.enter 142 y.toArray) w:=λy w=>by simp[go_sem]
 have hh:=hz.left (l:=[st.top]) (l':=ps);simp[go_sem,cN,awR,mE,pc];have mk:∀{f:Nat->Value} {u:World} {zW:Value->World->Prop} {Pf:Nat->Prop} {ow:hK} {q:Pt},eI N u Pf m p n bF z ow->Pf x->u.1[x]? =some (qe z m st 0)->bN q->tv n ow.s [q]->
   (∀cS,eI N cS Pf m p n bF z ⟨ow.s.iJ n [q],ow.cy⟩->D (λk=>¬Pf k) u cS->zW (.bool true) cS)->tx Tryz.prog (.func (.func 142) #[.pointer (some ⟨x,0,none⟩)] #[]) [.agg (Y q)] u zW:=λ{f u zW Pf ow q} r M V ok aH T=>by
  rw[awD _ [.pointer (some ⟨x,0,none⟩)] _ (n' _ _)];refine(r.awm ((aG V 83).trans (aat ns)) M q ok aH).mono ?_;rintro _ cS ⟨rfl,a,b⟩;exact T cS a b
 refine mk (f:=f) I nO KN ns.top hh λio af aE=> ?_;have OL:io.1[x]? =some (qe z m st 0):=aE.obj KN λe=>e nO;have Oh:D (λk=>¬K k\/k=x) w io:=awS.trans (aE.mono λk _ e=>.inl λtw=>e (by rw[<-zV];exact .inl (.inl tw)));have awT:=ej awO aE λk r e=>e (by rw[<-zV];exact .inr (.inl r));have awU:=ej awP aE λk r e=>e (by rw[<-zV];exact .inr (.inr r));simp[go_sem];refine awH ?_;have Ng:fA io hb (λx=>(Y x).toList) 41 ps:=fA.fp awU λx M=>bW (ji x M);have ai8:fA io nr (λx=>(dF x).toList) 45 [iY]:=fA.fp awT λx M=>by rw[List.mem_singleton.1 M];exact nG vw
 have XZ:=Ng.len Tryz.underlying87 3;have awV:=ai8.len Tryz.underlying220 3;have pn:∀k,hb.ownBlock=some k->BR k:=λk r=>by rw[<-zV];exact .inr (.inr r)
 have Kv:∀k,nr.ownBlock=some k->BR k:=λk r=>by rw[<-zV];exact .inr (.inl r)
 have dN:=bW cE;have KZ:=Oh.size;simp[go_sem,XZ];refine du (λJ f u=>∃i,J=ps.length - i/\i<=ps.length/\f 0=.pointer (some ⟨x,0,none⟩)/\f 7=.func (.func 142) #[.pointer (some ⟨x,0,none⟩)] #[]/\f 8=nr/\f 10=.bool true/\f 53=hb/\f 54=.int .i64 ps.length/\f 55=.int .i64 (i:Nat)/\
   eI N u BR m p n bF z ⟨X.s.iJ n (st.top::ps.take i),X.cy⟩/\u.1[x]? =some (qe z m st 0)/\D (λk=>¬BR k) io u) ps.length
  ⟨0,rfl,Nat.zero_le _,by simp[f0],by simp,by simp,by simp,by simp,by simp,by simp,af,OL,D.refl _ _⟩ ?_
 rintro cJ bK _ f u ⟨i,rfl,aa,f0,cg,bz,eE,BO,OJ,aaz,an,yi,aJ⟩;by_cases aO:i<ps.length
 case pos=>
  have jm:(i:Int)<ps.length:=by omega
  obtain⟨q,aq⟩:∃q,ps[i]? =some q:=⟨_,List.getElem?_eq_getElem aO⟩;have kV:=ji q (List.mem_of_getElem? aq);obtain⟨fF,nF,iZ,JQ,JR,JS,CT,ia,ug,ew⟩:=(Ng.Nh aJ λb V e=>e (pn b V)).CU (by decide) (λa am=>bW (ji a am)) aq;have eU:=bW kV;have gs:=dW kV;have gO:IntKind.i64.wrap ((i:Int)+1)=((i+1:Nat):Int):=by rw[IntKind.wrap_i64];omega
  have bv:=(D.refl ak u).alloc (.cells (Y q) 44);have ci:=cl u (.cells (Y q) 44);obtain⟨be,mb⟩:=az (u.alloc (.cells (Y q) 44));rw[mb]at bv ci;have aU:=(an.li bv).nI (K':=BR) (λk r=>.inl r) an.dJ;have ai9:=BO;rw[CT]at ai9;have awW:tv n (X.s.iJ n (st.top::ps.take i)) [q]:=by
   have e:st.top::ps=(st.top::ps.take i)++([q]++ps.drop (i+1)):=by
    have cR:=List.take_append_drop i ps;rw[List.drop_eq_getElem_cons aO,(List.getElem?_eq_some_iff.1 aq).2]at cR;rw[List.cons_append,List.singleton_append,cR]
   rw[e]at hz;exact hz.right.left
  simp[go_sem,ai9,OJ,aaz,eE,cg,aO,jm,ia,ug,ew,gm,gn,dN,eU,gs,bQ,mb,ci];refine mk (f:=f) aU nO (bv.obj yi id) kV awW λxt bC bx=> ?_;simp[go_sem,aaz,gO];refine cH.intro (ps.length -(i+1)) (by omega) (bK _ _ _ ⟨i+1,rfl,by omega,by simp[f0],by simp[cg],by simp[bz],by simp,by simp[BO],by simp[OJ],by simp,?_,bx.obj (bv.obj yi id) λe=>e nO,(aJ.trans (bv.mono λ_ _ e=>e.elim)).trans bx⟩);have e:st.top::ps.take (i+1)=(st.top::ps.take i)++[q]:=by rw[List.take_add_one,aq];simp
  rw[e,awX];exact bC
 have jm:¬(i:Int)<ps.length:=by omega
 obtain rfl:i=ps.length:=by omega
 rw[List.take_length]at an;simp[go_sem,OJ,aaz,bz,awV];clear bK mk;have awY:=ai8.Nh aJ λb V e=>e (Kv b V);have awZ:D (λk=>¬K k\/k=x) w u:=Oh.trans (aJ.mono λk _ e=>.inl λtw=>e (by rw[<-zV];exact .inl (.inl tw)));have Db:=nG vw;have aw0:=zu vw;have CX:=nG vc;have qG:=xJ (x:=iY);refine du (λJ f v=>∃i:Nat,J=1 - i/\i<=1/\f 0=.pointer (some ⟨x,0,none⟩)/\f 7=.func (.func 142) #[.pointer (some ⟨x,0,none⟩)] #[]/\f 10=.bool true/\f 65=nr/\f 66=.int .i64 1/\f 67=.int .i64 (i:Nat)/\
   eI N v BR m p n bF z ⟨X.s.iJ n (st.top::ps),X.cy⟩/\v.1[x]? =some (qe z m st i)/\D (λk=>¬BR k\/k=x) u v) 1
  ⟨0,rfl,Nat.zero_le _,by simp[f0],by simp[cg],by simp[eE],by simp[bz],by simp,by simp,an,yi,D.refl _ _⟩ ?_
 rintro cJ bK _ f v ⟨i,rfl,aa,f0,cg,eE,zA,aaA,C_,aS,vf,dr⟩;by_cases aO:i<1
 case pos=>
  obtain rfl:i=0:=by omega
  obtain⟨fF,nF,iZ,JQ,JR,JS,CT,ia,ug,ew⟩:=(awY.Nh dr λb V e=>e.elim (λe=>e (Kv b V)) λe=>by have a':fz.1.size<=b:=awQ b (.inl V);have:=lt_of_block Ug;omega).CU (by decide) (λa am=>by rw[List.mem_singleton.1 am];exact Db) (i:=0) (a:=iY) rfl;have bv:=(D.refl ak v).alloc (.cells (dF iY) 227);have ci:=cl v (.cells (dF iY) 227);obtain⟨be,mb⟩:=az (v.alloc (.cells (dF iY) 227));rw[mb]at bv ci;have aU:=(aS.li bv).nI (K':=BR) (λk r=>.inl r) aS.dJ;have ai_:=zA;rw[CT]at ai_;simp at ug ew;simp[go_sem,ai_,aaA,C_,eE,cg,f0,ia,ug,ew,wd,we,qG,CX,Db,aw0,bQ,mb,ci];refine(aU.awu ds sb nO fu KT ns (bv.obj vf id) iY vw ap av _).mono ?_;rintro _ v5 ⟨rfl,pb,bC,bx⟩;simp[go_sem,C_];refine cH.intro 0 (by omega) (bK _ _ _ ⟨1,rfl,Nat.le_refl _,by simp[f0],by simp[cg],by simp,by simp[zA],by simp[aaA],by simp[IntKind.wrap_i64],bC,pb,(dr.trans (bv.mono λ_ _ e=>e.elim)).trans bx⟩)
 obtain rfl:i=1:=by omega
 simp[go_sem,aaA,C_,eE];exact Z _ _ ⟨rfl,vf,aS.nI (λk r=>by rw[<-zV];exact .inl (.inl r)) h.dJ,awZ.trans (dr.mono λk _ e=>e.imp (λe tw=>e (by rw[<-zV];exact .inl (.inl tw))) id)⟩
end
theorem ai'(a b c:Option Addr)(h:a=none\/b=none\/c=none)(w:World):aP Tryz.prog 30 #[.pointer a,.pointer b,.pointer c] w λW w'=>W=.tuple #[.pointer none,.int .i64 2]/\w'=w:=by
 refine bn Tryz.func30 Tryz.ntmps30 λaZ Z=> ?_;simp[go_sem];refine(aiZ a b c h w).mono ?_;rintro _ w' ⟨rfl,rfl⟩;simp[go_sem];exact Z _ _ ⟨rfl,rfl⟩
theorem aw1(a b c:Option Addr)(h:a=none\/b=none\/c=none)(w:World):aP Tryz.prog 31 #[.pointer a,.pointer b,.pointer c] w λW w'=>W=.int .i64 2/\w'=w:=by
 refine bn Tryz.func31 Tryz.ntmps31 λaZ Z=> ?_;simp[go_sem];refine(aiZ a b c h w).mono ?_;rintro _ w' ⟨rfl,rfl⟩;simp[go_sem];exact Z _ _ ⟨rfl,rfl⟩
theorem aja(ce:Nat->Nat)(kG:∀i,i<2->1<=ce i/\ce i<=4096)(a b c:Addr)(w:World)
  (bf:∀w',D ak w w'->aP Tryz.prog 88 #[.pointer (some a)] w' λW DD=>W=.int .i64 (ce 0)/\DD=w')(H:∀w',D ak w w'->aP Tryz.prog 88 #[.pointer (some b)] w' λW DD=>W=.int .i64 (ce 1)/\DD=w')(aw:ce 0<512\/ce 1<512):
  aP Tryz.prog 31 #[.pointer (some a),.pointer (some b),.pointer (some c)] w λW w'=>W=.int .i64 1/\D ak w w':=by
 refine bn Tryz.func31 Tryz.ntmps31 λaZ Z=> ?_;simp[go_sem];refine(ai0 ce kG a b c w (bf w (D.refl _ _)) (H w (D.refl _ _))).mono ?_;rintro _ ab ⟨b_,g,m,rfl,_,_,_,_,aI⟩;simp[go_sem];refine(bf ab aI).mono ?_;rintro _ ai ⟨rfl,rfl⟩;by_cases r:ce 0<512
 ·have eH:(ce 0:Int)<512:=by omega
  simp[go_sem,r,eH];exact Z _ _ ⟨rfl,aI⟩
 ·have eH:¬(ce 0:Int)<512:=by omega
  have F:ce 1<512:=by omega
  have jt:(ce 1:Int)<512:=by omega
  simp[go_sem,r,eH];refine(H ai aI).mono ?_;rintro _ aC ⟨rfl,rfl⟩;simp[go_sem,F,jt];exact Z _ _ ⟨rfl,aI⟩
section
variable{N w w':World}{K S:Nat->Prop}{m p n bF:Nat}{z:fe}{X:hK}{cp:dy->Nat}
theorem eI.FH(h:eI N w K m p n bF z X){i:Nat}(aa:i<2):∀w',D ak w w'->aP Tryz.prog 88 #[.pointer (some ⟨z.d i,0,none⟩)] w' λW DD=>W=.int .i64 n/\DD=w':=λw' T=>by
 obtain⟨O,⟨aL,ag,a',_⟩,_⟩:=h.FF;exact((a'.jv i aa).ch T (λ_ _ e=>e) id).ZB
theorem eI.ajb(ds:jM cp)(h:eI N w K m p n bF z X)(H:1<=n)(I:n<=4096)(me:uq X.cy):
  (X.cy=oT->aP Tryz.prog 30 #[.pointer (some ⟨z.d 0,0,none⟩),.pointer (some ⟨z.d 1,0,none⟩),.pointer (some ⟨bF,0,none⟩)] w λW w'=>W=.tuple #[.pointer none,.int .i64 5]/\D ak w w')/\
  (X.cy≠oT->∀{st:e'} {iY:Nat×br} {ps:List Pt},gV st->uw (kU n) X.iE X.cy=(X.iE,st,0)->vv (kU n) X.iE st.cO=(X.iE,[iY],ps,0)->kM iY->iY.2.J=ad->iY.2.n≠0->(∀q∈ps,bN q)->ps.length<=1000->tv n X.iE.s (st.top::ps)->
   1200<=vu cp X.iE->144<=vu cp ⟨X.iE.s.iJ n (st.top::ps),X.cy⟩->aP Tryz.prog 30 #[.pointer (some ⟨z.d 0,0,none⟩),.pointer (some ⟨z.d 1,0,none⟩),.pointer (some ⟨bF,0,none⟩)] w λW w'=>∃m' z',W=.tuple #[.pointer (some ⟨m'+1,0,none⟩),.int .i64 0]/\w.1.size<=m'/\z'.d=z.d/\
    w'.1[m'+1]? =some (qe z' m' st 1)/\eI N w' (λk=>K k\/k=m'+1) m' p n bF z' ⟨X.iE.s.iJ n (st.top::ps),X.cy⟩/\D (λk=>¬K k) w w'):=by
 have has:=rT (n:=X.cy.1) me.aD me.am;have ya:=Em (n:=X.cy.1) me.aD me.am;have gI:=λw=>TE w me Dv;have ua:=rT (n:=0) (lM 32) (yD 4);have iw:∀k,jl k->k<N.1.size:=Fh h.ck h.fd h.fo;have ai2:=h.ch.size;constructor
 ·intro hz;refine bn Tryz.func30 Tryz.ntmps30 λaZ Z=> ?_;simp[go_sem];refine(h.T' H I).mono ?_;rintro _ ab ⟨m',z',rfl,pt,a',zd,yj,aI⟩;simp[go_sem];refine(a'.load me).mono ?_;rw[show X.iE.cy=X.cy from rfl];rintro _ ai ⟨rfl,aA⟩;have cm:=cl ai (.cells (ol X.cy) 61);have aE:=(D.refl ak ai).alloc (.cells (ol X.cy) 61);have qb:=λw=>(gI w).trans (by rw[decide_eq_true hz]);simp[go_sem,has,ya,ua,Cr,Cq,bQ,KF,qb,cm];exact Z _ _ ⟨rfl,(aI.trans aA).trans aE⟩
 ·intro hz st iY ps ns aaw fq vw ap av ji wu hh aH sb;refine bn Tryz.func30 Tryz.ntmps30 λaZ Z=> ?_;simp[go_sem];refine(h.T' H I).mono ?_;rintro _ ab ⟨m',z',rfl,pt,a',zd,yj,aI⟩;simp[go_sem];refine(a'.load me).mono ?_;rw[show X.iE.cy=X.cy from rfl];rintro _ ai ⟨rfl,aA⟩;have cm:=cl ai (.cells (ol X.cy) 61);have aE:=(D.refl ak ai).alloc (.cells (ol X.cy) 61);obtain⟨aC,hk⟩:=az (ai.alloc (.cells (ol X.cy) 61));rw[hk]at cm aE;have bq:=((a'.li aA).li aE).nI (K':=λk=>K k\/k=m'+1) (λk r=>.inl (.inl r)) λk r=>.inl (h.dJ k r);have qb:=λw=>(gI w).trans (by rw[decide_eq_false hz]);simp[go_sem,has,ya,ua,Cr,Cq,bQ,KF,qb,hk,cm];have rd:=bq.awI (X:=X.iE) ds aH (x:=m'+1) (.inr rfl) (by omega) (λe=>by have:=iw _ e;omega) (aE.obj (aA.obj pt id) id) me ns aaw fq vw ap av ji wu hh sb;rw[show X.iE.cy=X.cy from rfl]at rd;refine rd.mono ?_;rintro _ be ⟨rfl,ci,ec,bv⟩;simp[go_sem];refine Z _ _ ⟨m',z',rfl,yj,zd,ci,ec,?_⟩;refine(((aI.trans aA).trans aE).mono λ_ _ e=>e.elim).bJ bv λj F e r=> ?_;rcases e with e|e
  ·exact e (.inl r)
  ·omega
end
open Go.Maps
theorem ajc{w:World}{K:Value->World->Prop}:hX Tryz.prog 113 [(0,.int .u8 2),(1,.int .u16 2)] w K=K (.agg (bk jx)) w:=by
 refine lp Tryz.underlying113 tP (places:=#[(0,1),(1,1),(2,1),(3,41)]) (by simp[go_sem]) ?_;have hz:=jr ls;have:=aoN 2 2;simp[iH,tQ,Value.cells,hz,tI,jx]at this⊢;exact this
section
variable{N w w':World}{K S:Nat->Prop}{m p n bF:Nat}{z:fe}{X:hK}{cp:dy->Nat}
theorem eI.aw2(h:eI N w K m p n bF z X)(H:512<=n)(I:n<=4096)(me:uq X.cy)(hz:X.cy≠oT):aP Tryz.prog 31 #[.pointer (some ⟨z.d 0,0,none⟩),.pointer (some ⟨z.d 1,0,none⟩),.pointer (some ⟨bF,0,none⟩)] w λW w'=>W=.int .i64 1/\D ak w w':=by
 have gI:=λw=>TE w me Dv;have qb:=λw=>(gI w).trans (by rw[decide_eq_false hz]);refine bn Tryz.func31 Tryz.ntmps31 λaZ Z=> ?_;simp[go_sem];refine(h.T' (by omega) I).mono ?_;rintro _ ab ⟨m',z',rfl,pt,a',zd,yj,aI⟩;have hY:¬(n:Int)<512:=by omega
 have HY:¬n<512:=by omega
 simp[go_sem];refine(h.FH (i:=0) (by omega) ab aI).mono ?_;rintro _ ai ⟨rfl,e⟩;subst e;simp[go_sem,hY,HY];refine(h.FH (i:=1) (by omega) ai aI).mono ?_;rintro _ aC ⟨rfl,e⟩;subst e;simp[go_sem,hY,HY];refine(a'.load me).mono ?_;rw[show X.iE.cy=X.cy from rfl];rintro _ be ⟨rfl,bv⟩;simp[go_sem,KF,qb];exact Z _ _ ⟨rfl,aI.trans bv⟩
theorem eI.aw3(ds:jM cp)(h:eI N w K m p n bF z X)(H:512<=n)(I:n<=4096)(pU:X.iE=⟨ao.fh,oT⟩){aI:hT}(Dx:aI.n=n)(aaB:aI.aT=1){ow:hK}{fT:e'}(nX:rz aI ⟨ao.fh,oT⟩ dO oX [1]=(ow,fT,0)):
  aP Tryz.prog 31 #[.pointer (some ⟨z.d 0,0,none⟩),.pointer (some ⟨z.d 1,0,none⟩),.pointer (some ⟨bF,0,none⟩)] w λW w'=>W=.int .i64 0/\∃m' z',z'.d=z.d/\eI N w' K m' p n bF z' ow/\D (λk=>¬K k) w w':=by
 have gI:=λw=>TE w Dv Dv;have qb:=λw=>(gI w).trans (by rw[decide_eq_true rfl]);have iw:∀k,jl k->k<N.1.size:=Fh h.ck h.fd h.fo;have ai2:=h.ch.size;refine bn Tryz.func31 Tryz.ntmps31 λaZ Z=> ?_;simp[go_sem];refine(h.T' (by omega) I).mono ?_;rintro _ ab ⟨m',z',rfl,pt,a',zd,yj,Uh⟩;rw[pU]at a';have hY:¬(n:Int)<512:=by omega
 have HY:¬n<512:=by omega
 simp[go_sem];refine(h.FH (i:=0) (by omega) ab Uh).mono ?_;rintro _ ai ⟨rfl,e⟩;subst e;simp[go_sem,hY,HY];refine(h.FH (i:=1) (by omega) ai Uh).mono ?_;rintro _ aC ⟨rfl,e⟩;subst e;simp[go_sem,hY,HY];refine(a'.load Dv).mono ?_;rintro _ be ⟨rfl,AT⟩;have Pg:be.1[m'+1]? =some (qe z' m' dO 0):=AT.obj pt id;have eQ:=(aG Pg 84).trans (KW kR);have aw4:be.drew.1[m'+1]? =some (qe z' m' dO 0):=Pg;have aw5:be.drew.cell? ⟨m'+1,84,none⟩=some (.pointer (some ⟨m',0,none⟩)):=eQ;have ph:=O_ (a:=.pointer (some ⟨z'.b_,0,none⟩)) (b:=.pointer (some ⟨m',0,none⟩)) (l:=.slice none 0 0) (f:=0) (m:=0) (o:=0) kR;have el:=aiY (a:=.pointer (some ⟨z'.b_,0,none⟩)) (b:=.pointer (some ⟨m',0,none⟩)) (l:=.slice none 0 0) (f:=0) (m:=0) (o:=0) kR;simp[go_sem,KF,qb];refine cD [A 0,A 1,A 2,A 3,A 4,A 5,A 6,A 7,A 8,(9,some []),A 10,(11,some []),A 12,A 13,A 14,A 15,A 16] ?_;simp[go_sem,eQ,aw5,Pg,aw4,ph,el];refine(Ui _ _ dO kR _ rfl).mono ?_;rintro _ bw ⟨v,rfl,sF,rv,aS,bx⟩;simp[go_sem];refine(aw6 53 (.pointer (some ⟨v,0,none⟩)) bw).mono ?_;rintro _ cd ⟨o,Ba,rfl,aB,co⟩;simp[go_sem,ajc];have qy:D ak be cd:=D.iy bx|>.trans co;have iI:=(a'.li AT).li qy;have aw7:lN cd:=iI.aiV.qt;refine(aw8 aB 1 jx HZ aw7 (by decide)).mono ?_;rintro _ cF ⟨rfl,eD,dz⟩;have za:fM.fh.BS 1 jx=oX:=rfl;rw[za]at eD;have aV:(oP 1 0&&fI jx)=true:=by rw[ajd];decide
 rw[aV];have aw9:be.1.size<=bw.1.size:=bx.size;have gE:=a'.ch.size;have BT:=AT.size;have lP:=iI.own dz λk r=>⟨.inr ⟨by omega,r.2⟩,by omega⟩;simp[go_sem];have Uj:cF.1[m'+1]? =some (qe z' m' dO 0):=dz.obj (qy.obj Pg id) λe=>by have:=lt_of_block Pg;omega
 have aje:=(aG Uj 83).trans (aat kR);have FI:=(aG Uj 84).trans (KW kR);have aw_:cF.drew.1[m'+1]? =some (qe z' m' dO 0):=Uj;have aw':cF.drew.cell? ⟨m'+1,83,none⟩=some (.pointer (some ⟨z'.b_,0,none⟩)):=aje;have Ph:cF.drew.cell? ⟨m'+1,84,none⟩=some (.pointer (some ⟨m',0,none⟩)):=FI;refine cD [A 0,A 1,A 2,A 3,A 4,A 5,A 6,A 7,A 8,A 9,A 10,A 11,A 12,A 13,(14,some []),A 15,A 16,A 17,A 18] ?_;simp[go_sem,aje,aw',FI,Ph,Uj,aw_,ph,el];have tn:640000<=f_ cp ⟨ao.fh,[],[]⟩:=by
  have:=(iV.start (n:=n) (by omega)).iF rfl hP.start ds;exact Nat.le_trans (by decide) this
 have Hz:∀a o b,oX.lf (a,o)=some b->b=[]\/b.length=512:=λa o b h=>by rw[Uk]at h;cases h
 have axa:=(lP.li (D.refl ak cF).drew).nI (λ_ e=>.inl e) lP.dJ;refine(axa.ZX ds Dx (by omega) tn kR Dv aaB (by decide) (eD.ch (D.refl ak cF).drew (λ_ _ e=>e) λ_ _ e=>e) (λj F=> ?_) axb (by decide) Hz axc (by decide) nX).mono ?_
 ·rcases F with F|F
  ·exact⟨.inl (.inr ⟨by omega,F.2⟩),λe=>by have:=iw j e;omega⟩
  ·exact F.elim
 rintro _ eA ⟨⟨rfl,_⟩,np,ev⟩;simp[go_sem];refine Z _ _ ⟨rfl,m',z',zd,np.nI (λk r=>.inl (.inl (.inl (.inl r)))) h.dJ,?_⟩;have axd:D ak w cd:=(Uh.trans AT).trans qy;refine((axd.bJ dz λj F e=>by have:=Uh.size;omega).mono λ_ _ e=>e.elim).trans (D.iy (ev.mono λk _ e r=>e (.inl (.inl (.inl (.inl r))))))
end
end Go.Proofs.YtoohkhcpboldjaaGreatDoor
