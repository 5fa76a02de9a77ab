/- What a disk's address tells: Look, Read. No condition. -/
import Derived.Test.YtoohkhcpboldjaaGreatDoorDkA
set_option linter.unusedSimpArgs false
set_option linter.unusedVariables false
namespace Go.Proofs.YtoohkhcpboldjaaGreatDoor
open Go.RowKit Go.Kin
section
variable{w:World}{d p n:Nat}{L:bR}{O bo:Nat->Prop}{z:oH}{cn:List (Nat×Value)}
theorem MJ(a:Nat)(am:a<65536)(h:fQ w d p n L O z cn bo):aP Tryz.prog 155 #[.pointer (some ⟨d,0,none⟩),.int .u16 a] w λW w'=>W=.bool (decide (a<n))/\w'=w:=by
 refine bn Tryz.func155 Tryz.ntmps155 λaZ Z=> ?_;have fG:w.cell? ⟨d,0,none⟩=some (.int .i64 n):=aG h.blk 0;have bH:IntKind.i64.wrap (a:Int)=a:=by rw[IntKind.wrap_i64];omega
 simp[go_sem,fG,bH];exact Z _ _ ⟨rfl,rfl⟩
theorem aeH(h:fQ w d p n L O z cn bo):aP Tryz.prog 92 #[.pointer (some ⟨d,0,none⟩)] w λW w'=>W=.bool L.bS/\w'=w:=by
 refine bn Tryz.func92 Tryz.ntmps92 λaZ Z=> ?_;have co:w.cell? ⟨d,6,none⟩=some (.bool L.bS):=aG h.blk 6;simp[go_sem,co];exact Z _ _ ⟨rfl,rfl⟩
theorem apj(h:fQ w d p n L O z cn bo):aP Tryz.prog 88 #[.pointer (some ⟨d,0,none⟩)] w λW w'=>W=.int .i64 n/\w'=w:=by
 refine bn Tryz.func88 Tryz.ntmps88 λaZ Z=> ?_;have fG:w.cell? ⟨d,0,none⟩=some (.int .i64 n):=aG h.blk 0;simp[go_sem,fG];exact Z _ _ ⟨rfl,rfl⟩
theorem apk{w:World}{e s n:Nat}{v:Value}{xs:List Value}(h:w.ownsRow 0 e s v n xs){t dM:TypeId}(bd:Tryz.prog.underlying t=some (.slice dM))(bO:TypeId)(w':World):(Builtin.len_ #[t] bO #[v]).run Tryz.prog w'=.ok (.int .i64 n) w':=by
 rcases h.2 with⟨rfl,rfl⟩|⟨g,cap,di,rfl,_⟩<;>simp[Builtin.len_,run_underlying bd,goInt]
def sW(L:bR)(P:ek):Int:=if L.fk P then 0 else 3
theorem Xa(P:ek)(h:fQ w d p n L O z cn bo)(ah:rl w p P):aP Tryz.prog 186 #[.pointer (some ⟨d,0,none⟩)] w λW w'=>W=.int .i64 (sW L P)/\w'=w:=by
 refine bn Tryz.func186 Tryz.ntmps186 λaZ Z=> ?_;have aI:w.cell? ⟨d,1,none⟩=some (.pointer (some ⟨p,0,none⟩)):=aG h.blk 1;have co:w.cell? ⟨d,6,none⟩=some (.bool L.bS):=aG h.blk 6
 cases bi:L.bS with
 |true=>
  rw[bi]at co;simp[go_sem,aI,co];exact Z _ _ ⟨by simp[sW,bR.fk,bi],rfl⟩
 |false=>
  rw[bi]at co;simp[go_sem,aI,co];refine(aeF p P.off P.dq w ah).mono ?_;rintro _ w' ⟨rfl,bH⟩;subst w'
  cases aB:P.off
  ·simp[go_sem];exact Z _ _ ⟨by simp[sW,bR.fk,bi,aB],rfl⟩
  ·simp[go_sem];exact Z _ _ ⟨by simp[sW,bR.fk,bi,aB],rfl⟩
theorem fQ.own(h:fQ w d p n L O z cn bo){w':World}{D':bR}{z':oH}(V:w'.1[d]? =some (.cells (yW n p z' D') 138 (0,0)))(T:D (λk=>k=d\/z.dr.ownBlock=some k) w w')
  (aH:D'.m=L.m)(sX:D'.dT=L.dT)(el:D'.stuck=L.stuck)(hz:z'.hG=z.hG/\z'.bb=z.bb/\z'.na=z.na){aeI:List (Nat×Value)}{Y' O':Nat->Prop}(CF:vY w' z'.dr D'.bB Y' aeI)(has:CD w' z'.yV D'.fv Y')(gg:D'.nB n)
  (iB:∀k,z'.dr.ownBlock=some k->O' k/\¬Y' k/\k≠d)(eV:∀k,O k->O' k)(hu:∀k,bo k->Y' k)(GV:∀k,Y' k->O' k/\k≠d/\k≠z.hG/\k≠z.bb/\k≠z.na)(xq:∀k,O' k->k<w'.1.size):fQ w' d p n D' O' z' aeI Y':=by
 obtain⟨aK,aW,dt⟩:=hz;obtain⟨hY,kA,jE⟩:=h.MI;have tZ:∀k,bo k->¬(k=d\/z.dr.ownBlock=some k):=λk r e=>e.elim (GV k (hu k r)).2.1 λe=>h.sV k r (.inr (.inr (.inr (.inr e))));have aF:∀g,g≠d->(g=z.hG\/g=z.bb\/g=z.na)->¬(g=d\/z.dr.ownBlock=some g):=λg H I e=>e.elim H λe=>by
  obtain⟨_,cB,cb,cj⟩:=h.EA g e;omega
 refine⟨V,?_,?_,?_,CF,has,?_,λk r=>(GV k r).1,?_,?_,gg,xq⟩
 ·rw[aK,aH];exact(h.nA.ch T (aF _ hY (.inl rfl)) tZ).mono hu
 ·rw[aW,sX];exact h.dT.ch T (aF _ kA (.inr (.inl rfl)))
 ·rw[dt,el];exact h.stuck.ch T (aF _ jE (.inr (.inr rfl)))
 ·rintro k (r|r|r|r|r)
  ·exact eV k (h.kX k (.inl r))
  ·exact eV k (h.kX k (.inr (.inl (by rw[<-aK];exact r))))
  ·exact eV k (h.kX k (.inr (.inr (.inl (by rw[<-aW];exact r)))))
  ·exact eV k (h.kX k (.inr (.inr (.inr (.inl (by rw[<-dt];exact r))))))
  ·exact(iB k r).1
 ·rintro k r (M|M|M|M|M)
  ·exact(GV k r).2.1 M
  ·grind
  ·grind
  ·grind
  ·exact(iB k M).2.1 r
 ·rw[aK,aW,dt];exact⟨h.ne.1,h.ne.2.1,h.ne.2.2.1,λe=>(iB d e).2.2 rfl⟩
theorem fQ.xr(h:fQ w d p n L O z cn bo):∀k,bo k->O k/\k≠d/\k≠z.hG/\k≠z.bb/\k≠z.na:=λk r=>
 ⟨h.CE k r,λe=>h.sV k r (.inl e),λe=>h.sV k r (.inr (.inl e)),λe=>h.sV k r (.inr (.inr (.inl e))),λe=>h.sV k r (.inr (.inr (.inr (.inl e))))⟩
theorem fQ.EB(h:fQ w d p n L O z cn bo):∀k,z.dr.ownBlock=some k->O k/\¬bo k/\k≠d:=λk r=>⟨h.kX k (.inr (.inr (.inr (.inr r)))),λar=>h.sV k ar (.inr (.inr (.inr (.inr r)))),(h.EA k r).1⟩
theorem fQ.apl(h:fQ w d p n L O z cn bo){i:Nat}{u:Value}{D':bR}(aw:(yW n p z L).setIfInBounds i u=yW n p z D')(aH:D'.m=L.m)(T:D'.bB=L.bB)(V:D'.dT=L.dT)(el:D'.stuck=L.stuck)(am:D'.fv=L.fv):
  fQ (w.setCell ⟨d,i,none⟩ u) d p n D' O z cn bo:=by
 have yX:D (aj d) w (w.setCell ⟨d,i,none⟩ u):=(D.refl (aj d) w).setCell (p:=⟨d,i,none⟩) (.inl rfl) _;have tZ:∀k,bo k->¬aj d k:=λk r e=>by simp only[aj]at e;exact(h.xr k r).2.1 e
 refine h.own ?_ (yX.mono λ_ _ e=>.inl e) aH V el ⟨rfl,rfl,rfl⟩ ?_ ?_ ⟨by rw[aH];exact h.ok.m,by rw[T];exact h.ok.bB⟩ h.EB (λ_=>id) (λ_=>id) h.xr (λk r=>Nat.lt_of_lt_of_le (h.gK k r) yX.size)
 ·rw[eY,h.blk,gp,<-aw]
 ·rw[T];exact h.bB.ch yX (λk r e=>by simp only[aj]at e;exact(h.EA k r).1 e) tZ
 ·rw[am];exact h.fv.ch yX tZ
end
end Go.Proofs.YtoohkhcpboldjaaGreatDoor
namespace Go.Kin
open Go Go.RowKit
theorem apm{P:Program}{w:World}{t e bO:TypeId}{z:Value}{bytes:Nat}{K:Value->World->Prop}(bl:tM P t e z bytes){v y:Value}{n m:Nat}{xs ys:List Value}(eT:w.ownsRow 0 e 1 v n xs)(av:0<n)(ar:bD w y m ys)(aH:ys.length=m)(Xb:m<=n)(H:∀u∈ys,u.oneCell'=true)
  (h:∀w',w'.ownsRow 0 e 1 v n (ys++xs.drop m)->D (λk=>v.ownBlock=some k) w w'->K (.int .i64 m) w'):pQ P .copy #[t,t] bO #[v,y] w K:=by
 obtain⟨i,aa,hz,cL,xh⟩:=info_parts bl.vR;have aw:(P.info? e).map (·.size)=some 1:=by rw[aa];simp[cL]
 have go:∀w',(Builtin.copy_ #[t,t] bO #[v,y]).run P w=.ok (.int .i64 m) w'->K (.int .i64 m) w'->pQ P .copy #[t,t] bO #[v,y] w K:=λw' ap r=>by
  unfold pQ fN;simp only[ap];exact r
 obtain⟨al,bi⟩:=eT;rcases bi with⟨_,bf⟩|⟨g,cap,di,rfl,CG,aF,GC,nX,gu,EC⟩
 ·omega
 obtain⟨ag,c,rfl,dR,aG0,ap⟩:=ar;by_cases Mq:m=0
 ·subst Mq;obtain rfl:ys=[]:=List.eq_nil_of_length_eq_zero aH;refine go w (run_copy_none (P:=P) w t t bO e (some ⟨g,0,none⟩) ag n cap 0 c bl.nx aw (by simp[Nat.min])) (h w ⟨by simpa using al,.inr ⟨g,cap,di,rfl,CG,aF,GC,nX,gu,by simpa using EC⟩⟩ (D.refl _ _))
 ·obtain⟨bp,rfl,Xc⟩:=ap (by omega);have yY:0+ys.length<=di.size:=by omega
  have yZ:=run_copy_row (P:=P) w t t bO e g 0 n cap bp m c di e ys bl.nx aw aF (by grind) Xc yY H;rw[aH]at yZ;have iw:=lt_of_block aF;refine go _ yZ (h _ ⟨by simp;omega,.inr ⟨g,cap,_,rfl,CG,by rw[gk,aF];rfl,GC,nX,by simp;omega,?_⟩⟩ (D.setRow (S:=λk=>(Value.slice (some ⟨g,0,none⟩) n cap).ownBlock=some k) (D.refl _ w) (.inl rfl) _));rw[Nat.mul_one]at EC⊢;simp only[List.take_zero,List.nil_append,Nat.zero_add];rw[List.take_append,List.take_of_length_le (by omega),<-EC,List.drop_take,aH]
theorem apn{P:Program}{w w':World}{fJ:Array TypeId}{bO:TypeId}{args:Array Value}{v:Value}{K:Value->World->Prop}(h:(Builtin.delete_ fJ bO args).run P w=.ok v w')(r:K v w'):pQ P .delete fJ bO args w K:=by
 unfold pQ fN;simp only[h];exact r
end Go.Kin
namespace Go.Proofs.YtoohkhcpboldjaaGreatDoor
open Go.RowKit Go.Kin
theorem apo(w:World):(Instr.makeSlice 101 (.int .i64 512) (.int .i64 512)).run Tryz.prog w=.ok (.slice (some ⟨w.1.size,0,none⟩) 512 512) (w.alloc (.cells (bm Go.Kin.cV).toArray 5)):=app 512 w (by decide)
theorem apq(w:World):bD (w.alloc (.cells (bm Go.Kin.cV).toArray 5)) (.slice (some ⟨w.1.size,0,none⟩) 512 512) 512 (bm Go.Kin.cV):=bD.fp (bD.lit w 5 Go.Kin.cV 512 aeJ (by decide))
section
variable{w:World}{d p n:Nat}{L:bR}{O bo:Nat->Prop}{z:oH}{cn:List (Nat×Value)}
theorem aeK(a:Nat)(h:fQ w d p n L O z cn bo):aP Tryz.prog 130 #[.pointer (some ⟨d,0,none⟩),.int .u16 a] w λW w'=>bD w' W 512 (bm (jJ L.m a))/\(jJ L.m a).length=512/\D ak w w':=by
 refine bn Tryz.func130 Tryz.ntmps130 λaZ Z=> ?_;have aA:w.cell? ⟨d,2,none⟩=some (.map (some z.hG)):=aG h.blk 2;obtain⟨aR,aH,gJ⟩:=h.nA;have iM:=aH.look_ok Tryz.underlying133 Tryz.underlying39 (apr w) a;have cI:=h.ok.block a
 cases MK:L.m a with
 |none=>
  have Xd:=(gJ a).1 MK;rw[Xd]at iM;have kl:jJ L.m a=Go.Kin.cV:=by simp[jJ,MK]
  have sY:=apo w;simp at iM;simp[go_sem,aA,iM,sY];exact Z _ _ ⟨by rw[kl];exact apq w,cI,(D.refl ak w).alloc _⟩
 |some b=>
  obtain⟨v,Xd,aS⟩:=(gJ a).2 b MK;rw[Xd]at iM;have kl:jJ L.m a=b:=by simp[jJ,MK]
  have V:=h.ok.m a b MK;simp at iM;simp[go_sem,aA,iM];exact Z _ _ ⟨by rw[kl,<-V];exact aS.1,cI,D.refl _ _⟩
theorem fQ.Xe(h:fQ w d p n L O z cn bo){w':World}{D':bR}{S Y' O':Nat->Prop}(T:D S w w')(cf:∀k,S k->k=z.hG\/k=z.bb\/k=z.na)(aH:yU w' z.hG D'.m Y')(V:GU w' z.bb D'.dT)(el:GU w' z.na D'.stuck)
  (e:D'.bB=L.bB/\D'.bS=L.bS/\D'.tY=L.tY/\D'.fv=L.fv)(gg:D'.nB n)(hu:∀k,bo k->Y' k)(eV:∀k,O k->O' k)(GV:∀k,Y' k->bo k\/w.1.size<=k)(aps:∀k,Y' k->O' k)(xq:∀k,O' k->k<w'.1.size):fQ w' d p n D' O' z cn Y':=by
 obtain⟨aK,aW,dt,cW⟩:=e;obtain⟨hY,kA,jE⟩:=h.MI;have M:∀k,z.X d k->k<w.1.size:=by
  obtain⟨aR,gv,_⟩:=h.nA;obtain⟨RL,fl,_⟩:=h.dT;obtain⟨aeG,iN,_⟩:=h.stuck;rintro k (rfl|rfl|rfl|rfl|r)
  ·exact h.lt
  ·exact gv.lt
  ·exact fl.lt
  ·exact iN.lt
  ·rcases h.bB.own.2 with⟨aS,_⟩|⟨g,cap,di,aS,_,aF,_⟩
   ·rw[aS]at r;simp[Value.ownBlock]at r
   ·rw[aS]at r;simp[Value.ownBlock]at r
    grind
 have ML:∀k,bo k->¬S k:=λk r aw=>by
  rcases cf k aw with e|e|e
  ·exact(h.xr k r).2.2.1 e
  ·exact(h.xr k r).2.2.2.1 e
  ·exact(h.xr k r).2.2.2.2 e
 refine⟨?_,aH,V,el,?_,?_,λk r=>eV k (h.kX k r),aps,?_,h.ne,gg,xq⟩
 ·have:=T.ah h.blk (λaw=>by
   grind)
  rw[this];unfold yW;rw[aW,dt]
 ·rw[aK];exact(h.bB.ch T (λk r aw=>by
   obtain⟨_,cB,cb,cj⟩:=h.EA k r
   grind) ML).mono hu
 ·rw[cW];exact(h.fv.ch T ML).mono hu
 ·intro k r aeL;rcases GV k r with ar|ar
  ·exact h.sV k ar aeL
  ·have:=M k aeL;omega
theorem apt(a:Nat)(v:Value)(b:cX)(k:Nat)(V:b.length=512)(r:k<=512)(h:fQ w d p n L O z cn bo)(aS:bD w v 512 (bm b))(aO:∀j,v.ownBlock=some j->j<w.1.size):
  aP Tryz.prog 76 #[.pointer (some ⟨d,0,none⟩),.agg #[.int .u16 a,v],.int .i64 k] w λW w'=>W=.tuple #[]/\(∃Y',fQ w' d p n (L.ob (a,b) k) (ax O w w') z cn Y'/\(∀j,bo j->Y' j)/\∀j,Y' j->bo j\/w.1.size<=j)/\D (λj=>j=z.hG\/j=z.bb) w w':=by
 refine bn Tryz.func76 Tryz.ntmps76 λaZ Z=> ?_;have aq:=(D.refl ak w).alloc (.cells #[.int .u16 a,v] 178);have db:=cl w (.cells #[.int .u16 a,v] 178);have H:=h.ch aq λ_ _ e=>e;have qx:=λi=>aG db i;simp[go_sem,qx];revert aq db H qx;generalize w.alloc (.cells #[.int .u16 a,v] 178)=ab;generalize aF:w.1.size=g;intro aq db H qx;refine(aeK a H).mono ?_;rintro jf ai ⟨cw,jD,aA⟩;simp[go_sem];refine(ED jf 512 (jJ L.m a) ai (by omega) jD cw).mono ?_;rintro v3 aC ⟨kC,aE,bV⟩;have Xf:=aA.trans aE;have apu:=λi=>aG (Xf.ah db id) i;have aeM:=aq.trans Xf;obtain⟨v4,hv,ci,hQ⟩:=(aS.ch aeM λ_ _ e=>e).ad5 kB (by rw[eB];exact V) k r;simp[go_sem,apu,hQ];refine apm kB kC (by decide) hv (by rw[List.length_take,eB];omega) r (λu an=>xf _ u (List.mem_of_mem_take an)) λbe mv bv=> ?_;have CH:∀j,v3.ownBlock=some j->w.1.size<=j:=λj F=>Nat.le_trans (Nat.le_trans aq.size aA.size) (bV j F)|>λe=>by have:=aF;omega
 have Xg:D ak w be:=aeM.bJ bv λj F e=>absurd (CH j e) (by omega);have y_:D ak ab be:=Xf.bJ bv λj F e=>by have:=bV j e;have:=aA.size;omega
 have aU:=H.ch y_.drew λ_ _ e=>e;have hr:be.drew.cell? ⟨d,2,none⟩=some (.map (some z.hG)):=aG aU.blk 2;have dw:be.drew.1[g]? =some (.cells #[.int .u16 a,v] 178 (0,0)):=y_.ah db id;have apv:=λi=>aG dw i;obtain⟨aR,aH,gJ⟩:=aU.nA;obtain⟨bw,an,AP,aJ,aG1⟩:=aH.gT Tryz.underlying133 Tryz.underlying39 a v3;simp[go_sem];refine cD [A 0,A 1,A 2,A 3,A 4,A 5,A 6,(7,some [])] ?_;simp[go_sem,hr,apv,an];have apw:d≠z.hG/\d≠z.bb/\d≠z.na:=⟨h.MI.1.symm,h.MI.2.1.symm,h.MI.2.2.symm⟩;have aG2:=aH.lt;have apx:g≠z.hG/\g≠z.bb:=by
  obtain⟨apy,y',_⟩:=h.nA;obtain⟨GW,gv,_⟩:=h.dT;have:=y'.lt;have:=gv.lt;omega
 have dj:=aJ.drew.ah aU.blk apw.1;have hs:bw.drew.cell? ⟨d,4,none⟩=some (.map (some z.bb)):=aG dj 4;have apz:=λi=>aG (aJ.drew.ah dw apx.1) i;obtain⟨RL,sb,apA⟩:=aU.dT.ch aJ.drew h.ne.1.symm;obtain⟨cd,MM,apB,dU,zd⟩:=sb.del Tryz.underlying135 Tryz.underlying39 a 0;refine cD [A 0,A 1,A 2,A 3,A 4,A 5,(6,some [])] ?_;simp[go_sem,hs,apz];refine apn MM ?_;simp[go_sem];have Jy:D (λj=>j=z.hG\/j=z.bb) w cd:=((Xg.drew.mono λ_ _ e=>e.elim).bJ aJ λj _ e=>.inl e).drew.bJ dU λj _ e=>.inr e;have Ep:∀j,bo j->j≠z.hG/\j≠z.bb:=λj F=>⟨(h.xr j F).2.2.1,(h.xr j F).2.2.2.1⟩;have qy:D (λj=>j=z.hG\/j=z.bb) be.drew cd:=((aJ.mono λj _ e=>.inl e).drew.bJ dU λj _ e=>.inr e);have aG3:z.hG<w.1.size/\z.bb<w.1.size:=by
  obtain⟨apy,y',_⟩:=h.nA;obtain⟨GW,gv,_⟩:=h.dT;exact⟨y'.lt,gv.lt⟩
 have apC:∀j,v3.ownBlock=some j->¬(j=z.hG\/j=z.bb):=λj F e=>by have:=CH j F;omega
 have aeN:∀j,v3.ownBlock=some j->j<cd.1.size:=λj F=>by
  have:j<be.1.size:=by
   rcases mv.2 with⟨_,bf⟩|⟨g,cap,di,aS,_,aF,_⟩
   ·omega
   ·rw[aS]at F;simp[Value.ownBlock]at F
    grind
  simp_all
 have za:bD cd v3 512 (bm (b.take k++(jJ L.m a).drop k)):=by
  have e:bm (b.take k++(jJ L.m a).drop k)=(bm b).take k++(bm (jJ L.m a)).drop k:=by rw[Cs];simp[bm,List.map_take,List.map_drop]
  rw[e];exact(bD.fp (ej (ej mv (D.refl ak be).drew λ_ _ e=>e) qy apC))
 have cI:(b.take k++(jJ L.m a).drop k).length=512:=by simp;omega
 refine Z _ _ ⟨rfl,⟨λj=>bo j\/v3.ownBlock=some j,?_,λj=>.inl,?_⟩,Jy⟩
 ·refine h.Xe Jy (λj e=>e.imp id .inl) ⟨_,AP.ch (D.refl ak bw).drew id|>.ch dU h.ne.1,λx=> ?_⟩ ⟨_,apB,λx=> ?_⟩ (h.stuck.ch Jy ?_) ⟨rfl,rfl,rfl,rfl⟩ (h.ok.ob (e:=(a,b)) V k r) (λj=>.inl) (λj=>.inl) ?_ ?_ (ax.lt h.gK Jy.size)
  ·by_cases M:x=a
   ·subst M;simp only[bR.ob,if_true];refine⟨λe=>by simp at e,λc T=>⟨v3,rfl,?_⟩⟩;simp only[Option.some.injEq]at T;subst T;exact⟨by rw[cI];exact za,λj F=>⟨.inr F,aeN j F⟩⟩
   ·simp only[bR.ob,if_neg M];refine⟨(gJ x).1,λc T=> ?_⟩;obtain⟨u,sZ,uX⟩:=(gJ x).2 c T;exact⟨u,sZ,(uX.ch qy λj F e=>by have:=Ep j F;omega).mono λj=>.inl⟩
  ·show((if x=a then none else RL x).getD (.bool false))=.bool ((L.ob (a,b) k).dT x);by_cases M:x=a
   ·simp[M,bR.ob]
   ·simp only[bR.ob,if_neg M];exact apA x
  ·intro e;rcases e with e|e
   ·exact h.ne.2.1 e.symm
   ·exact h.ne.2.2.1 e.symm
  ·grind
  ·rintro j (F|F)
   ·exact .inl (h.CE j F)
   ·exact .inr ⟨CH j F,aeN j F⟩
 grind
end
end Go.Proofs.YtoohkhcpboldjaaGreatDoor
namespace Go.Kin
open Go Go.RowKit
theorem kE.cell{B:Nat}{N bs:World}(h:kE B N bs){p:Addr}{v:Value}(T:N.cell? p=some v):bs.cell? p=some v:=by
 have aO:=World.block_lt_of_cell? N p T;have V:N.1[p.block]? =some (N.1[p.block]'aO):=Array.getElem?_eq_getElem aO
 cases aB:N.1[p.block]'aO with
 |cells cs bl fr=>
  rw[aB]at V;exact(World.cell?_of_block ((h.blk V).trans V.symm)).trans T
 |_=>
  rw[aB]at V;simp[World.cell?,V]at T
theorem aeO{N:World}{L:Nat}{x:Option (List Deferred)}{o:Obj}(bi:N.1[L]? =some (.deferred x)){p:Addr}{v:Value}(T:N.cell? p=some v):(N.putObj L o).cell? p=some v:=by
 by_cases ah:p.block=L
 ·simp[World.cell?,ah,bi]at T
 ·exact(World.cell?_of_block (uU ah)).trans T
theorem kE.dI{B:Nat}{N bs:World}(h:kE B N bs){v:Value}{n:Nat}{xs:List Value}(aw:bD N v n xs):bD bs v n xs:=aw.fH λ_ _ T=>h.cell T
end Go.Kin
namespace Go.Proofs.YtoohkhcpboldjaaGreatDoor
open Go.RowKit Go.Kin
theorem EE{w:World}{v:Value}{m:Nat}{cn:List (Nat×Value)}(h:w.ownsRow 0 178 2 v m (dv pP cn)){i a:Nat}{u:Value}(M:cn[i]? =some (a,u)):
  ∃g cap,v=.slice (some ⟨g,0,none⟩) m cap/\m<=cap/\cap<=maxLen/\g<w.1.size/\i<m/\w.cell? ⟨g,i*2,none⟩=some (.int .u16 a)/\w.cell? ⟨g,i*2+1,none⟩=some u:=by
 have al:=h.1;rw[Rl cn (W' cn)]at al;have aa:=(List.getElem?_eq_some_iff.1 M).1;obtain⟨g,cap,di,rfl,H,I,af,aU,bC⟩:=zb h (by omega);have nC:=Jo (i:=0) (u:=.int .u16 a) (W' cn) M rfl;have mT:=Jo (i:=1) (u:=u) (W' cn) M rfl;simp only[jF,List.getElem?_toArray,Nat.add_zero]at nC mT
 grind
def CI(m:Nat):List Nat:=(List.range m).reverse
theorem MN(m:Nat):(CI m).length=m:=by simp[CI]
theorem Xh{m j:Nat}(h:j<m):(CI m)[j]? =some (m - 1 - j):=by
 unfold CI
 grind
theorem aeP{m k:Nat}(h:k<m):(CI m).take (m -(k+1))++[k]=(CI m).take (m - k):=by
 rw[show m - k=(m -(k+1))+1 by omega,List.take_add_one,Xh (by omega)];simp;omega
def EF(cn:List (Nat×Value))(i:Nat):Nat×Value:=cn.getD i (65536,.slice none 0 0)
def Xi(cn:List (Nat×Value))(i:Nat):List Value:=[.int .i64 i,.agg (pP (EF cn i))]
theorem apD(q m:Nat)(v:Value)(cn:List (Nat×Value))(w:World)(S:Nat->Prop)(aS:w.ownsRow 0 178 2 v m (dv pP cn))(al:cn.length=m)(aq:w.1[q]? =some (.cells #[v] 134 (0,0)))(apE:¬S q)(apF:∀k,v.ownBlock=some k->¬S k):
  GK Tryz.prog 202 [.pointer (some ⟨q,0,none⟩)] 2 (Xi cn) (CI m) S w:=by
 refine⟨λx=>rfl,λargs w=>by simp[go_sem],?_⟩;intro l cJ ri N fu bK Et hu bf;refine bn Tryz.func202 Tryz.ntmps202 λaZ Z=> ?_;have aG4:=lt_of_block aq;have cI:=apk aS Tryz.underlying134 3;have MO:=fu.obj aq id;have pR:=aG MO 0;have apG:∃ag c,v=.slice ag m c/\m<=maxLen:=by
  rcases aS.2 with⟨rfl,rfl⟩|⟨g,cap,di,rfl,_,_,H,I,_⟩
  ·grind
  ·grind
 obtain⟨ag,c,rfl,aH⟩:=apG;have GX:(m:Int)<=9223372036854775807:=by unfold maxLen at aH;omega
 have pf:IntKind.i64.wrap ((m:Int) - 1)=(m:Int) - 1:=by rw[IntKind.wrap_i64];omega
 simp[go_sem,pR,pf];refine du (λJ f bE=>∃k,J=k/\k<=m/\f 0=.func (.yield l) #[] #[]/\f 1=.pointer (some ⟨q,0,none⟩)/\f 3=.int .i64 ((k:Int) - 1)/\cJ ((CI m).take (m - k)) bE/\D (λk=>S k\/w.1.size<=k) w bE) m
  ⟨m,rfl,Nat.le_refl _,by simp,by simp,by simp,by simpa using bf,fu.mono λ_ _ e=>e.elim⟩ ?_
 rintro bg bP k f bE ⟨_,rfl,r,cR,aK,dt,F,T⟩
 cases k with
 |zero=>
  simp[go_sem,dt];refine Z _ _ (.inl ?_);rwa[Nat.sub_zero,List.take_of_length_le (by rw[MN];exact Nat.le_refl _)]at F
 |succ k=>
  have oI:((k+1:Nat):Int) - 1=k:=by omega
  rw[oI]at dt;obtain⟨x,M⟩:∃x,cn[k]? =some x:=⟨_,List.getElem?_eq_getElem (by omega)⟩;obtain⟨a,u⟩:=x;obtain⟨g,cap,Xj,H,I,af,aU,nC,mT⟩:=EE aS M
  cases Xj
  have apH:=T.obj aq (λe=>e.elim apE (by omega));have apI:=aG apH 0;have nb:¬(S g\/w.1.size<=g):=λe=>e.elim (apF g rfl) (by omega);have fG:=T.cell nC nb;have aI:=T.cell mT nb;have MP:(k:Int)<m:=by omega
  have Xk:k<m:=by omega
  have eo:IntKind.i64.wrap ((k:Int) - 1)=(k:Int) - 1:=by rw[IntKind.wrap_i64];omega
  have ar:=hu _ k bE F (by rw[List.length_take,MN];omega);have apJ:EF cn k=(a,u):=by simp[EF,List.getD,M]
  simp only[Xi,apJ,pP]at ar;simp[go_sem,cR,aK,dt,apI,MP,Xk,fG,aI];refine MQ _ _ _ ar ?_;rintro _ w' (⟨rfl,jt,eH⟩|⟨rfl,AQ⟩)
  ·simp[go_sem,dt,eo];refine cH.intro k (by omega) (bP _ _ _ ⟨k,rfl,by omega,by simp[cR],by simp[aK],by simp,?_,T.bJ eH λj _ e=>e⟩);rw[aeP Xk]at jt;exact jt
  ·simp[go_sem];refine Z _ _ (.inr ⟨m - k,by rw[MN];omega,?_⟩);rw[aeP Xk]at AQ;exact AQ
theorem apK(v:Value)(w:World)(aS:∃ag n c,v=.slice ag n c):aP Tryz.prog 158 #[v] w λW w'=>W=.func (.func 202) #[] #[.pointer (some ⟨w.1.size,0,none⟩)]/\w'=w.alloc (.cells #[v] 134):=by
 refine bn Tryz.func158 Tryz.ntmps158 λaZ Z=> ?_;obtain⟨ag,n,c,rfl⟩:=aS;simp[go_sem];exact Z _ _ ⟨rfl,rfl⟩
section
variable{w:World}{d p n:Nat}{L:bR}{O bo:Nat->Prop}{z:oH}{cn:List (Nat×Value)}
def MR(w:World)(J:Option cX)(W:Value)(w':World):Prop:=match J with
 |none=>W=.tuple #[.slice none 0 0,.bool false]
 |some b=>∃u,W=.tuple #[u,.bool true]/\b.length=512/\bD w' u 512 (bm b)/\fZ w.1.size u/\∀k,u.ownBlock=some k->k<w'.1.size
theorem aeQ{w:World}{v:Value}{c:List (Nat×cX)}{bo:Nat->Prop}{cn:List (Nat×Value)}(h:vY w v c bo cn)(x:Nat):∃a ag m k,EF cn x=(a,.slice ag m k)/\((c[x]? =none/\a=65536)\/∃b,c[x]? =some (a,b)/\xp w bo (.slice ag m k) b):=by
 cases M:c[x]? with
 |none=>
  have:cn[x]? =none:=by
   rw[List.getElem?_eq_none_iff]at M⊢;rw[h.len];exact M
  exact⟨65536,none,0,0,by simp[EF,List.getD,this],.inl ⟨rfl,rfl⟩⟩
 |some e=>
  obtain⟨a,b⟩:=e;obtain⟨u,aK,aW⟩:=h.Jx x a b M;obtain⟨ag,k,rfl,_⟩:=aW.1;exact⟨a,ag,_,k,by simp[EF,List.getD,aK],.inr ⟨b,rfl,aW⟩⟩
structure apL(w:World)(L:bR)(q a:Nat)(pre:List Nat)(N:World):Prop where
 EG:∀i∈pre,∀e,L.bB[i]? =some e->e.1≠a
 cm:N.1[q]? =some (.cells #[.int .u16 a] 39 (0,0))
 ci:N.1[q+1]? =some (.cells #[.slice none 0 0] 101 (0,0))
 dj:N.1[q+1+1]? =some (.cells #[.bool false] 4 (0,0))
 ch:D ak w N
structure apM(w:World)(L:bR)(q a:Nat)(c:Code)(pre:List Nat)(N:World):Prop where
 ret:c=.ret
 pM:∃CJ x b u,pre=CJ++[x]/\(∀i∈CJ,∀e,L.bB[i]? =some e->e.1≠a)/\L.bB[x]? =some (a,b)/\b.length=512/\N.1[q+1]? =some (.cells #[u] 101 (0,0))/\N.1[q+1+1]? =some (.cells #[.bool true] 4 (0,0))/\bD N u 512 (bm b)/\fZ q u/\(∀k,u.ownBlock=some k->k<N.1.size)
 ch:D ak w N
structure apN(cn:List (Nat×Value))(q:Nat)(x:Nat)(f':Nat->Value)(N:World):Prop where
 bV:f' 3=.pointer (some ⟨q,0,none⟩)
 cr:f' 4=.pointer (some ⟨q+1,0,none⟩)
 cN:f' 5=.pointer (some ⟨q+1+1,0,none⟩)
 cg:∃G,f' 7=.pointer (some ⟨G,0,none⟩)/\N.1[G]? =some (.cells (pP (EF cn x)) 178 (0,0))
theorem apO(a:Nat)(am:a<65536)(h:fQ w d p n L O z cn bo):aP Tryz.prog 105 #[.pointer (some ⟨d,0,none⟩),.int .u16 a] w λW w'=>MR w (L.m_ n a) W w'/\D ak w w':=by
 refine bn Tryz.func105 Tryz.ntmps105 λaZ Z=> ?_;simp[go_sem];have T:=((((D.refl ak w).alloc (.cells #[.int .u16 a] 39)).alloc (.cells #[.slice none 0 0] 101)).alloc (.cells #[.bool false] 4));have cm:=aeb w (.cells #[.int .u16 a] 39) (.cells #[.slice none 0 0] 101) (.cells #[.bool false] 4);have ci:=WB w (.cells #[.int .u16 a] 39) (.cells #[.slice none 0 0] 101) (.cells #[.bool false] 4);have dj:=aec w (.cells #[.int .u16 a] 39) (.cells #[.slice none 0 0] 101) (.cells #[.bool false] 4);have H:=h.ch T.drew λ_ _ e=>e;have cL:(((w.alloc (.cells #[.int .u16 a] 39)).alloc (.cells #[.slice none 0 0] 101)).alloc (.cells #[.bool false] 4)).1.size=w.1.size+3:=by simp
 revert T cm ci dj H cL;generalize((w.alloc (.cells #[.int .u16 a] 39)).alloc (.cells #[.slice none 0 0] 101)).alloc (.cells #[.bool false] 4)=ab;generalize aq:w.1.size=q;intro T cm ci dj H cL;have dt:=λi=>aG cm i;have cW:=λi=>aG ci i;have fD:=λi=>aG dj i;have z4:=λi=>dD ci i;have z5:=λi=>dD dj i;have aeR:ab.cell? ⟨d,5,none⟩=some (.map (some z.na)):=aG H.blk 5;have aeS:ab.cell? ⟨d,3,none⟩=some z.dr:=aG H.blk 3;have apP:∃ag c,z.dr=.slice ag L.bB.length c:=by
  rcases h.bB.own.2 with⟨aS,bf⟩|⟨g,cap,di,aS,_⟩
  ·grind
  ·exact⟨_,_,aS⟩
 have pg:∀(x y:Value),D ak w (((ab.setCell ⟨q+1,0,none⟩ x).setCell ⟨q+1+1,0,none⟩ y).drew):=λx y=>((T.setCell (p:=⟨q+1,0,none⟩) (.inr (by simp only;omega)) x).setCell (p:=⟨q+1+1,0,none⟩) (.inr (by simp only;omega)) y).drew;obtain⟨aG5,ph,RM⟩:=H.stuck;have iM:=ph.m_ Tryz.underlying135 Tryz.underlying39 (Xl ab.drew) a;rw[RM a]at iM;refine cD [A 0,(1,some []),A 2,A 3,A 4,(5,some []),A 6,A 7,A 8,A 9,A 10,A 11,A 12,A 13,A 14,A 15] ?_;simp[go_sem];refine(aeH H).mono ?_;rintro _ ai ⟨rfl,bH⟩;subst ai
 cases bi:L.bS with
 |true=>
  simp[go_sem,cW,fD,z4,z5];exact Z _ _ ⟨by simp[bR.m_,bi,MR],pg _ _⟩
 |false=>
  simp[go_sem,dt];refine(MJ a am H).mono ?_;rintro _ ai ⟨rfl,bH⟩;subst ai;by_cases jZ:a<n
  ·simp[go_sem,jZ,aeR,dt,iM]
   cases aw:L.stuck a with
   |true=>
    simp[go_sem,cW,fD,z4,z5];exact Z _ _ ⟨by simp[bR.m_,aw,MR],pg _ _⟩
   |false=>
    obtain⟨ag,gl,iB⟩:=apP;have Xm:=aeS;rw[iB]at Xm;simp[go_sem,Xm];refine(apK _ _ ⟨ag,_,gl,rfl⟩).mono ?_;rintro _ ai ⟨rfl,hd⟩;subst hd;simp[go_sem];have nc:=((D.refl ak ab).alloc (.cells #[.slice ag L.bB.length gl] 134)).drew;have MS:(ab.alloc (.cells #[.slice ag L.bB.length gl] 134)).drew.1[ab.1.size]? =_:=cl ab (.cells #[.slice ag L.bB.length gl] 134);have Xn:(ab.alloc (.cells #[.slice ag L.bB.length gl] 134)).drew.1.size=q+4:=by simp[cL]
    rw[cL]at MS;rw[show ab.1.size=q+3 from cL];have cm:=nc.ah cm id;have ci:=nc.ah ci id;have dj:=nc.ah dj id;have zc:=T.trans nc;have I:=h.ch zc λ_ _ e=>e;revert cm ci dj zc I MS Xn;generalize(ab.alloc (.cells #[.slice ag L.bB.length gl] 134)).drew=ai;intro MS Xn cm ci dj zc I;clear nc dt cW fD z4 z5 aeR aeS Xm iM ph pg H;have aeT:=I.bB.own;rw[iB]at aeT;have AR:∀k,z.dr.ownBlock=some k->k<q:=λk r=>by have:=oJ h.bB.own k r;omega
    rw[iB]at AR;obtain⟨fd,iM⟩:∃J,J=L.m_ n a:=⟨_,rfl⟩;rw[<-iM]at Z;have Xo:fd=L.Jz a:=by
     rw[iM];unfold bR.m_
     grind
    clear iM;refine Mv (apD (q+3) L.bB.length _ cn ai (λk=>k=q+1\/k=q+1+1) aeT I.bB.len MS (by omega) (λk r e=>by have:=AR k r;omega)) (D.refl _ _) rfl rfl (by kernel_rfl) (λk r=>by omega)
     (apL w L q a) (apM w L q a) (apN cn q) ?_ ?_ ?_ ?_ ?_ ?_ ?_ ?_
    ·exact λpre N bs g ap=>⟨g.EG,ap.blk g.cm,ap.blk g.ci,ap.blk g.dj,ap.tS g.ch zc.size⟩
    ·rintro c pre N bs ⟨cB,⟨CJ,x,b,u,cb,cj,dw,dJ,cu,cM,kY,pi,EH⟩,MT⟩ ap;exact⟨cB,⟨CJ,x,b,u,cb,cj,dw,dJ,ap.blk cu,ap.blk cM,ap.dI kY,pi,λk r=>Nat.lt_of_lt_of_le (EH k r) ap.ch.size⟩,ap.tS MT zc.size⟩
    ·rintro x f' N bs ⟨cB,cb,cj,G,dw,cu⟩ ap;exact⟨cB,cb,cj,G,dw,ap.blk cu⟩
    ·exact⟨by simp,cm,ci,dj,zc⟩
    ·intro pre x N g;have aY:=(D.refl ak N).alloc (.cells (pP (EF cn x)) 178);obtain⟨ih,gh,m',lo,bH,_⟩:=aeQ h.bB x;rw[bH]at aY;simp[go_sem,Xi,pP,bH];exact⟨aY,⟨g.EG,aY.ah g.cm id,aY.ah g.ci id,aY.ah g.dj id,g.ch.trans aY⟩,by simp,by simp,by simp,_,by simp;rfl,by rw[bH];exact cl _ _⟩
    ·rintro pre x f' N g ⟨GY,aeU,Xp,G,AS,apQ⟩;have aX:=λi=>aG g.cm i;have Xq:=λi=>aG apQ i;obtain⟨ih,gh,m',lo,bH,MU⟩:=aeQ h.bB x;rw[bH]at Xq;by_cases apR:ih=a
     ·subst apR;rcases MU with⟨_,bf⟩|⟨b,aeV,apS⟩
      ·omega
      have Xr:b.length=512:=(h.ok.bB _ (List.mem_of_getElem? aeV)).1;have apT:=apS.ch g.ch λ_ _ e=>e;simp[go_sem,GY,AS,aX,Xq,pP];refine(ED _ 512 b N (by omega) Xr (by rw[<-Xr];exact apT.1)).mono ?_;rintro v3 aC ⟨kC,aE,bV⟩;have hQ:=λi=>aG (aE.ah g.ci id) i;have tJ:=λi=>aG (aE.ah g.dj id) i;have pj:=λi=>dD (aE.ah g.ci id) i;have uY:=λi=>dD (aE.ah g.dj id) i;obtain⟨Xs,Xt,CH⟩:∃ag c,v3=.slice ag 512 c:=by
       obtain⟨ag,c,e,_⟩:=bD.fp kC;exact⟨ag,c,e⟩
      subst CH;simp[go_sem,aeU,Xp,hQ,tJ,pj,uY];have pS:D (λk=>k=q+1\/k=q+1+1) aC ((aC.setCell ⟨q+1,0,none⟩ (.slice Xs 512 Xt)).setCell ⟨q+1+1,0,none⟩ (.bool true)):=((D.refl _ aC).setCell (p:=⟨q+1,0,none⟩) (.inl (.inl rfl)) _).setCell (p:=⟨q+1+1,0,none⟩) (.inl (.inr rfl)) _;have apU:=(lt_of_block g.dj:q+1+1<N.1.size);refine⟨(aE.mono λ_ _ e=>e.elim).trans pS,rfl,⟨pre,x,b,.slice Xs 512 Xt,rfl,g.EG,aeV,Xr,?_,?_,?_,?_,?_⟩,?_⟩
      ·rw[t_ _ _ _ _ (by simp),eY,aE.ah g.ci id];rfl
      ·rw[eY,t_ _ _ _ _ (by simp),aE.ah g.dj id];rfl
      ·exact(bD.fp kC).ch pS λk r e=>by have:=bV k r;omega
      ·exact bV.mono (by omega)
      ·exact λk r=>Nat.lt_of_lt_of_le (oJ kC k r) pS.size
      ·exact(g.ch.trans aE).bJ pS λj F e=>by omega
     ·have da:((ih:Int)==(a:Int))=false:=beq_false_of_ne (by omega);simp[go_sem,GY,AS,aX,Xq,pP,da];refine⟨D.refl _ _,?_,g.cm,g.ci,g.dj,g.ch⟩;intro i aa e aV;rw[List.mem_append,List.mem_singleton]at aa;rcases aa with aa|aa
      ·exact g.EG i aa e aV
      grind
    ·intro oK N dS g nd;have my:oL L.bB a=none:=RN λe aV=>by
      obtain⟨i,aa⟩:=List.mem_iff_getElem?.1 aV;refine g.EG i ?_ e aa;have:=(List.getElem?_eq_some_iff.1 aa).1;simp[CI,this]
     have fu:=h.ch g.ch λ_ _ e=>e;have apV:N.cell? ⟨d,4,none⟩=some (.map (some z.bb)):=aG fu.blk 4;have uQ:=λi=>aG g.cm i;have hQ:=λi=>aG g.ci i;have tJ:=λi=>aG g.dj i;have pj:=λi=>dD g.ci i;have uY:=λi=>dD g.dj i;obtain⟨aG6,Xu,apW⟩:=(fu.ch (D.refl ak N).drew λ_ _ e=>e).dT;have MV:=Xu.m_ Tryz.underlying135 Tryz.underlying39 (Xl N.drew) a;rw[apW a]at MV;simp[go_sem];refine cD [A 0,A 1,A 2,A 3,A 4,A 5] ?_;simp[go_sem,apV,uQ,MV];have da:oK≠q+1/\oK≠q+1+1:=⟨(λe=>by rw[e,g.ci]at nd;cases nd),(λe=>by omega)⟩
     cases uZ:L.dT a with
     |true=>
      have vZ:fd=none:=by rw[Xo,bR.Jz,my];simp[uZ]
      rw[vZ]at Z;have ec:((((N.setCell ⟨q+1,0,none⟩ (.slice none 0 0)).setCell ⟨q+1+1,0,none⟩ (.bool false)).drew).putObj oK (.deferred none)).1[q+1]? =some (.cells #[.slice none 0 0] 101 (0,0)):=by
       rw[uU da.1.symm];show((N.setCell ⟨q+1,0,none⟩ (.slice none 0 0)).setCell ⟨q+1+1,0,none⟩ (.bool false)).1[q+1]? =_;rw[t_ _ _ _ _ (by simp),eY,g.ci];rfl
      have ft:((((N.setCell ⟨q+1,0,none⟩ (.slice none 0 0)).setCell ⟨q+1+1,0,none⟩ (.bool false)).drew).putObj oK (.deferred none)).1[q+1+1]? =some (.cells #[.bool false] 4 (0,0)):=by
       rw[uU da.2.symm];show((N.setCell ⟨q+1,0,none⟩ (.slice none 0 0)).setCell ⟨q+1+1,0,none⟩ (.bool false)).1[q+1+1]? =_;rw[eY,t_ _ _ _ _ (by simp),g.dj];rfl
      have ix:=λi=>aG ec i;have xb:=λi=>aG ft i;simp[go_sem,hQ,tJ,pj,uY,ze,da,nd,ix,xb];exact Z _ _ ⟨rfl,((((g.ch.setCell (p:=⟨q+1,0,none⟩) (.inr (by show w.1.size<=q+1;omega)) _).setCell (p:=⟨q+1+1,0,none⟩) (.inr (by grind)) _).drew).putObj (.inr (by have:=zc.size;omega)) _)⟩
     |false=>
      have vZ:fd=some (jJ L.m a):=by rw[Xo,bR.Jz,my];simp[uZ]
      rw[vZ]at Z;simp[go_sem,uQ];refine(aeK a (fu.ch (D.refl ak N).drew λ_ _ e=>e)).mono ?_;rintro v3 aC ⟨gL,nT,aE⟩;simp[go_sem];refine(ED v3 512 (jJ L.m a) aC (by omega) nT gL).mono ?_;rintro v4 be ⟨mv,bv,cr⟩;have pS:D ak N be:=(D.iy aE).trans bv;have apU:=(lt_of_block g.dj:q+1+1<N.1.size);have dw:=pS.ah g.ci id;have cu:=pS.ah g.dj id;have JA:=pS.obj nd id;have CK:=λi=>aG dw i;have apX:=λi=>aG cu i;have EI:=λi=>dD dw i;have xt:=λi=>dD cu i;obtain⟨xu,AT,MW⟩:∃ag c,v4=.slice ag 512 c:=by
       obtain⟨ag,c,e,_⟩:=bD.fp mv;exact⟨ag,c,e⟩
      subst MW;have ec:(((be.setCell ⟨q+1,0,none⟩ (.slice xu 512 AT)).setCell ⟨q+1+1,0,none⟩ (.bool true)).putObj oK (.deferred none)).1[q+1]? =some (.cells #[.slice xu 512 AT] 101 (0,0)):=by
       rw[uU da.1.symm,t_ _ _ _ _ (by simp),eY,dw];rfl
      have ft:(((be.setCell ⟨q+1,0,none⟩ (.slice xu 512 AT)).setCell ⟨q+1+1,0,none⟩ (.bool true)).putObj oK (.deferred none)).1[q+1+1]? =some (.cells #[.bool true] 4 (0,0)):=by
       rw[uU da.2.symm,eY,t_ _ _ _ _ (by simp),cu];rfl
      have ix:=λi=>aG ec i;have xb:=λi=>aG ft i;have RO:D (λk=>k=q+1\/k=q+1+1) be ((be.setCell ⟨q+1,0,none⟩ (.slice xu 512 AT)).setCell ⟨q+1+1,0,none⟩ (.bool true)):=((D.refl _ be).setCell (p:=⟨q+1,0,none⟩) (.inl (.inl rfl)) _).setCell (p:=⟨q+1+1,0,none⟩) (.inl (.inr rfl)) _;have zf:((be.setCell ⟨q+1,0,none⟩ (.slice xu 512 AT)).setCell ⟨q+1+1,0,none⟩ (.bool true)).1[oK]? =some (.deferred (some [])):=RO.obj JA λe=>e.elim da.1 da.2;have aG7:aC.1.size<=be.1.size:=bv.size;have aG8:N.1.size<=aC.1.size:=(D.iy aE).size;simp[go_sem,CK,apX,EI,xt,ze,da,JA,ix,xb];refine Z _ _ ⟨⟨_,rfl,nT,((bD.fp mv).ch RO λk r e=>by have:=cr k r;omega).fH λ_ _ T=>aeO zf T,cr.mono (by omega),λk r=>Nat.lt_of_lt_of_le (oJ mv k r) (Nat.le_trans RO.size ((D.refl (aj oK) _).putObj (.inl rfl) _).size)⟩,((g.ch.trans pS).bJ RO λj F e=>by omega).putObj (.inr (by have:=zc.size;omega)) _⟩
    ·rintro oK c k N dS r ⟨rfl,⟨CJ,x,b,u,cb,cj,dw,dJ,cu,cM,kY,pi,EH⟩,MT⟩ nd;have hQ:=λi=>aG cu i;have tJ:=λi=>aG cM i;have da:oK≠q+1/\oK≠q+1+1:=⟨(λe=>by rw[e,cu]at nd;cases nd),(λe=>by rw[e,cM]at nd;cases nd)⟩;have apY:(N.putObj oK (.deferred none)).1[q+1]? =_:=(uU da.1.symm).trans cu;have apZ:(N.putObj oK (.deferred none)).1[q+1+1]? =_:=(uU da.2.symm).trans cM;have hv:=λi=>aG apY i;have j_:=λi=>aG apZ i;obtain⟨Xs,Xt,CH,_⟩:=id kY;subst CH;simp[go_sem,ze,nd,hv,j_];rw[MN]at r;have al:=congrArg List.length cb;simp only[List.length_take,MN,List.length_append,List.length_cons,List.length_nil]at al;have AG:k=CJ.length+1:=by omega
     have M:x=L.bB.length - 1 - CJ.length:=by
      have:=congrArg (λl:List Nat=>l[CJ.length]?) cb;simp only[List.getElem?_take,if_pos (show CJ.length<k by omega)]at this;rw[Xh (by omega)]at this;simpa using this.symm
     have ap0:oL L.bB a=some b:=ap1 dw λj e F aV=>by
      have i':=(List.getElem?_eq_some_iff.1 aV).1;refine cj j ?_ e aV;have:=congrArg (λl:List Nat=>l[L.bB.length - 1 - j]?) cb;simp only[List.getElem?_take,if_pos (show L.bB.length - 1 - j<k by omega)]at this;rw[Xh (by omega),List.getElem?_append_left (by omega)]at this
      grind
     have vZ:fd=some b:=by rw[Xo,bR.Jz,ap0]
     rw[vZ]at Z;exact Z _ _ ⟨⟨_,rfl,dJ,kY.fH λ_ _ T=>aeO nd T,by rw[aq];exact pi,λk r=>Nat.lt_of_lt_of_le (EH k r) ((D.refl (aj oK) N).putObj (.inl rfl) _).size⟩,MT.putObj (.inr (by have:=zc.size;omega)) _⟩
  ·simp[go_sem,jZ,cW,fD,z4,z5];exact Z _ _ ⟨by simp[bR.m_,show n<=a by omega,MR],pg _ _⟩
def v_(n:Nat)(L:bR)(P:ek)(a:Nat):Int:=if !L.fk P then 3 else if n<=a then 1 else match L.m_ n a with|none=>6|some _=>0
def aeW(w:World)(n:Nat)(L:bR)(P:ek)(a:Nat)(W:Value)(w':World):Prop:=
 (v_ n L P a=0/\∃b u,L.m_ n a=some b/\W=.tuple #[u,.int .i64 0]/\b.length=512/\bD w' u 512 (bm b)/\fZ w.1.size u/\∀k,u.ownBlock=some k->k<w'.1.size)\/(v_ n L P a≠0/\W=.tuple #[.slice none 0 0,.int .i64 (v_ n L P a)])
theorem ap2(a:Nat)(am:a<65536)(P:ek)(h:fQ w d p n L O z cn bo)(ah:rl w p P):aP Tryz.prog 257 #[.pointer (some ⟨d,0,none⟩),.int .u16 a] w λW w'=>aeW w n L P a W w'/\D ak w w':=by
 refine bn Tryz.func257 Tryz.ntmps257 λaZ Z=> ?_;simp[go_sem];refine(Xa P h ah).mono ?_;rintro _ ab ⟨rfl,bH⟩;subst ab
 cases fE:L.fk P with
 |false=>
  rw[show sW L P=3 by simp[sW,fE]];simp[go_sem];exact Z _ _ ⟨.inr ⟨by simp[v_,fE],by simp[v_,fE]⟩,D.refl _ _⟩
 |true=>
  rw[show sW L P=0 by simp[sW,fE]];simp[go_sem];refine(MJ a am h).mono ?_;rintro _ ab ⟨rfl,bH⟩;subst ab;by_cases jZ:a<n
  ·simp[go_sem,jZ];refine(apO a am h).mono ?_;rintro gw ab ⟨al,aI⟩
   cases iM:L.m_ n a with
   |none=>
    rw[iM]at al;simp only[MR]at al;subst al;simp[go_sem];exact Z _ _ ⟨.inr ⟨by simp[v_,fE,iM];omega,by simp[v_,fE,iM,show¬n<=a by omega]⟩,aI⟩
   |some b=>
    rw[iM]at al;obtain⟨u,rfl,lm,jD,nT,EJ⟩:=al;simp[go_sem];exact Z _ _ ⟨.inl ⟨by simp[v_,fE,iM];omega,b,u,iM,rfl,lm,jD,nT,EJ⟩,aI⟩
  ·simp[go_sem,jZ];exact Z _ _ ⟨.inr ⟨by simp[v_,fE,show n<=a by omega],by simp[v_,fE,show n<=a by omega]⟩,D.refl _ _⟩
end
end Go.Proofs.YtoohkhcpboldjaaGreatDoor
