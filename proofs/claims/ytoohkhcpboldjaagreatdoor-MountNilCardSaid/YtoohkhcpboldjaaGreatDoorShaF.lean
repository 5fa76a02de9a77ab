/- A hash: Sum, as a contract on the call. Conditions: the variable sha.constants holds what the text lays; sizes. -/
import Derived.ArgAppend
import Derived.Deep.Upon
import Derived.Test.YtoohkhcpboldjaaGreatDoorShaC
set_option linter.unusedSimpArgs false
set_option linter.unusedVariables false
namespace Go.Kin
open Go Go.RowKit
variable{P:Program}{w:World}{t e:TypeId}{z:Value}{bytes:Nat}
theorem bD.akt{v:Value}{n:Nat}{xs:List Value}(h:bD w v n xs)(bl:tM P t e z bytes):
  ∃ag,bD w (.slice ag n n) n xs/\(Value.slice ag n n).ownBlock=v.ownBlock/\∀w',(Instr.sliceAt t v none (some (.int .i64 n)) (some (.int .i64 n))).run P w'=.ok (.slice ag n n) w':=by
 obtain⟨ag,c,rfl,H,I,af⟩:=h;obtain⟨i,aa,_,cL,_⟩:=info_parts bl.vR;have Jl:¬c<n:=by omega
 have hm:(if n=0 then ag else ag.map (·.add (0*1)))=ag:=by
  cases ag with
  |none=>simp
  |some bp=>split<;>simp[Addr.add]
 refine⟨ag,⟨ag,n,rfl,Nat.le_refl _,by omega,af⟩,by cases ag<;>rfl,λw'=> ?_⟩;have:(Instr.sliceAt t (.slice ag n c) none (some (.int .i64 n)) (some (.int .i64 n))).run P w'=.ok (.slice (if n=0 then ag else ag.map (·.add (0*1))) n n) w':=by
  simp[Instr.sliceAt,Instr.slice,Instr.sliceBounds,Instr.sliceBound,asIntOf,run_underlying bl.nx,sizeOf,typeInfo,aa,Jl]
 rw[hm]at this;exact this
theorem azO(bl:tM P t e z bytes){ag:Option Addr}{n m:Nat}{xs ys:List Value}{y:Value}{bO:TypeId}{K:Value->World->Prop}(M:bD w (.slice ag n n) n xs)(lr:xs.length=n)(ar:bD w y m ys)(HJ:ys.length=m)(H:∀u∈ys,u.oneCell'=true)(rU:n+m<=maxLen)(rV:(n+m)*bytes<=140737488355328)
  (h:∀W w',bD w' W (n+m) (xs++ys)->D ak w w'->(W.ownBlock=(Value.slice ag n n).ownBlock\/fZ w.1.size W)->K W w'):pQ P .append #[t,t] bO #[.slice ag n n,y] w K:=by
 obtain⟨i,aa,hz,cL,xh⟩:=info_parts bl.vR;by_cases aH:m=0
 ·subst aH;obtain rfl:ys=[]:=List.eq_nil_of_length_eq_zero HJ;have aw:Src P i.size t y 0 [] w:=by
   obtain⟨vh,aA,rfl,_⟩:=ar
   cases vh with
   |none=>exact Src.ofNil w bl.nx aA
   |some bp=>exact Src.ofSlice w bl.nx bp 0 aA [] (by simp) (by simp) (by simp)
  refine FW (run_append_nothing (P:=P) w t t bO e i bl.nx aa ag n n (Nat.le_refl _) y aw) (h _ _ (by simpa using M) (D.refl _ _) (.inl rfl))
 ·cases ag with
  |none=>
   obtain⟨gh,dg,aS,_,_,af⟩:=id M;have pe:n=0:=by
    apply Classical.byContradiction;intro av;obtain⟨bp,BA,_⟩:=af (by omega);injection aS with aK;rw[<-aK]at BA
    cases BA
   subst pe;obtain rfl:xs=[]:=List.eq_nil_of_length_eq_zero lr;obtain⟨W,w',ap,a',aX,bq⟩:=Wu bl bO (World.ownsRow_nil _ _ _ _) ar HJ H rU rV;exact FW ap (h _ _ (bD.fp a') (aX.mono λk _ e=>by simp[Value.ownBlock]at e) bq)
  |some b=>
   obtain⟨vh,aA,rfl,_,_,T⟩:=ar;obtain⟨bp,rfl,oV⟩:=T (by omega);have abi:∀j u,xs[j]? =some u->w.cell? (b.add j)=some u:=λj u an=>by
    obtain⟨gh,dg,aS,_,_,af⟩:=id M
    grind
   obtain⟨W,w',ap,a',aX⟩:=run_append_arg_grows (P:=P) w t bO e i z 1 bytes bl.nx aa hz cL xh bl.one (by decide) b n n xs (by omega) abi bp m aA ys (by omega) oV (by omega) rU rV;refine FW ap (h _ _ (bD.fp a') (D.vQ aX|>.mono λk _ e=>by cases e) (.inr λk r=> ?_));rcases a'.2 with⟨aS,_⟩|⟨g,cap,di,aS,aF,_⟩
   ·omega
   ·rw[aS]at r;simp[Value.ownBlock]at r;omega
theorem azP(bl:tM P t e z bytes){ag:Option Addr}{n m:Nat}{xs ys:List Value}{y:Value}{bO:TypeId}{K:Value->World->Prop}(M:bD w (.slice ag n n) n xs)(lr:xs.length=n)(ar:bD w y m ys)(HJ:ys.length=m)(bf:0<m)(H:∀u∈ys,u.oneCell'=true)(rU:n+m<=maxLen)(rV:(n+m)*bytes<=140737488355328)
  (h:∀W w',w'.ownsRow 0 e 1 W (n+m) (xs++ys)->D ak w w'->fZ w.1.size W->K W w'):pQ P .append #[t,t] bO #[.slice ag n n,y] w K:=by
 obtain⟨i,aa,hz,cL,xh⟩:=info_parts bl.vR
 cases ag with
 |none=>
  obtain⟨gh,dg,aS,_,_,af⟩:=id M;have pe:n=0:=by
   apply Classical.byContradiction;intro av;obtain⟨bp,BA,_⟩:=af (by omega);injection aS with aK;rw[<-aK]at BA
   cases BA
  subst pe;obtain rfl:xs=[]:=List.eq_nil_of_length_eq_zero lr;obtain⟨W,w',ap,a',aX,bq⟩:=Wu bl bO (World.ownsRow_nil _ _ _ _) ar HJ H rU rV;exact FW ap (h _ _ a' (aX.mono λk _ e=>by simp[Value.ownBlock]at e) (by
   rcases bq with bq|bq
   ·intro k r;rw[bq]at r;simp[Value.ownBlock]at r
   ·exact bq))
 |some b=>
  obtain⟨vh,aA,rfl,_,_,T⟩:=ar;obtain⟨bp,rfl,oV⟩:=T (by omega);have abi:∀j u,xs[j]? =some u->w.cell? (b.add j)=some u:=λj u an=>by
   obtain⟨gh,dg,aS,_,_,af⟩:=id M
   grind
  obtain⟨W,w',ap,a',aX⟩:=run_append_arg_grows (P:=P) w t bO e i z 1 bytes bl.nx aa hz cL xh bl.one (by decide) b n n xs (by omega) abi bp m aA ys (by omega) oV (by omega) rU rV;refine FW ap (h _ _ ⟨a'.1,a'.2.imp id λ⟨g,cap,di,aS,aF,J⟩=>⟨g,cap,di,aS,Nat.zero_le _,J⟩⟩ (D.vQ aX|>.mono λk _ e=>by cases e) λk r=> ?_);rcases a'.2 with⟨aS,_⟩|⟨g,cap,di,aS,aF,_⟩
  ·omega
  ·rw[aS]at r;simp[Value.ownBlock]at r;omega
end Go.Kin
namespace Go.Proofs.YtoohkhcpboldjaaGreatDoor
open Go.RowKit Go.Kin
def first:gj:=⟨1779033703,3144134277,1013904242,2773480762,1359893119,2600822924,528734635,1541459225⟩
theorem aku:vA first:=⟨by decide,by decide,by decide,by decide,by decide,by decide,by decide,by decide⟩
def UG:gj:=⟨0,0,0,0,0,0,0,0⟩
theorem azQ:vA UG:=⟨by decide,by decide,by decide,by decide,by decide,by decide,by decide,by decide⟩
def FX:Nat->gj->List UInt8->gj×List UInt8
 |0,s,l=>(s,l)
 |n+1,s,l=>if 64<=l.length then FX n (yo s (l.take 64)) (l.drop 64)else(s,l)
def ke(s:gj)(l:List UInt8):gj×List UInt8:=FX l.length s l
theorem akv:∀(n m:Nat) (s:gj) (l:List UInt8),l.length<=n->l.length<=m->FX n s l=FX m s l
 |0,0,_,_,_,_=>rfl
 |0,m+1,s,l,h,_=>by simp[FX,List.length_eq_zero_iff.1 (Nat.le_zero.1 h)]
 |n+1,0,s,l,_,h=>by simp[FX,List.length_eq_zero_iff.1 (Nat.le_zero.1 h)]
 |n+1,m+1,s,l,H,I=>by
  simp only[FX];split
  ·exact akv n m _ _ (by rw[List.length_drop];omega) (by rw[List.length_drop];omega)
  ·rfl
theorem Ln{s:gj}{l:List UInt8}(h:64<=l.length):ke s l=ke (yo s (l.take 64)) (l.drop 64):=by
 unfold ke;obtain⟨n,av⟩:∃n,l.length=n+1:=⟨l.length - 1,by omega⟩;rw[av];show(if 64<=l.length then _ else _)=_;rw[if_pos h];exact akv _ _ _ _ (by rw[List.length_drop];omega) (Nat.le_refl _)
theorem FY{s:gj}{l:List UInt8}(h:l.length<64):ke s l=(s,l):=by
 unfold ke
 cases av:l.length with
 |zero=>simp[FX]
 |succ n=>
  show(if 64<=l.length then _ else _)=_;rw[if_neg (by omega)]
theorem azR:∀(n:Nat) (s:gj) (l:List UInt8),l.length<=n->(ke s l).2.length<64:=by
 intro n
 induction n with
 |zero=>intro s l h;rw[FY (by omega)];show l.length<64;omega
 |succ n bG=>
  intro s l h;by_cases kq:64<=l.length
  ·rw[Ln kq]
   grind
  ·rw[FY (by omega)];show l.length<64;omega
theorem akw:∀(n:Nat) (s:gj) (l J:List UInt8),l.length<=n->ke s (l++J)=ke (ke s l).1 ((ke s l).2++J):=by
 intro n
 induction n with
 |zero=>
  intro s l J h;have:l=[]:=List.length_eq_zero_iff.1 (by omega);subst this;rfl
 |succ n bG=>
  intro s l J h;by_cases kq:64<=l.length
  ·rw[Ln kq,Ln (l:=l++J) (by grind),List.take_append_of_le_length kq,List.drop_append_of_le_length kq]
   grind
  ·rw[FY (s:=s) (l:=l) (by omega)]
attribute [irreducible] ke
theorem azS(w:World):aP Tryz.prog 260 #[] w λW w'=>W=.agg (lL first)/\D ak w w':=by
 refine bn Tryz.func260 Tryz.ntmps260 λaZ Z=> ?_;simp[go_sem];exact Z _ _ ⟨rfl,(D.refl ak w).alloc _⟩
def gu(s:gj)(v:Value)(n:Nat)(on:Bool):Array Value:=#[.int .u32 s.a,.int .u32 s.b,.int .u32 s.c,.int .u32 s.d,.int .u32 s.e,.int .u32 s.f,.int .u32 s.g,.int .u32 s.h,v,.int .u64 n,.bool on]
def Io(w:World)(g:Nat)(m:List UInt8):Prop:=
 ∃s v on,w.1[g]? =some (.cells (gu s v m.length on) 389 (0,0))/\bD w v (ke first m).2.length (bm (ke first m).2)/\v.ownBlock≠some g/\(if on=true then s else first)=(ke first m).1/\vA s
def FZ(w:World)(g:Nat)(s:gj):World:=(((((((w.setCell ⟨g,0,none⟩ (.int .u32 s.a)).setCell ⟨g,1,none⟩ (.int .u32 s.b)).setCell ⟨g,2,none⟩ (.int .u32 s.c)).setCell ⟨g,3,none⟩ (.int .u32 s.d)).setCell ⟨g,4,none⟩ (.int .u32 s.e)).setCell ⟨g,5,none⟩ (.int .u32 s.f)).setCell ⟨g,6,none⟩ (.int .u32 s.g)).setCell ⟨g,7,none⟩ (.int .u32 s.h)
theorem abj{S:Nat->Prop}{w0 w:World}{g:Nat}{s:gj}(T:D S w0 w)(aF:S g\/w0.1.size<=g):D S w0 (FZ w g s):=
 (((((((T.setCell (p:=⟨g,0,none⟩) aF _).setCell (p:=⟨g,1,none⟩) aF _).setCell (p:=⟨g,2,none⟩) aF _).setCell (p:=⟨g,3,none⟩) aF _).setCell (p:=⟨g,4,none⟩) aF _).setCell (p:=⟨g,5,none⟩) aF _).setCell (p:=⟨g,6,none⟩) aF _).setCell (p:=⟨g,7,none⟩) aF _
def Lo(cs:Array Value)(s:gj):Array Value:=(((((((cs.setIfInBounds 0 (.int .u32 s.a)).setIfInBounds 1 (.int .u32 s.b)).setIfInBounds 2 (.int .u32 s.c)).setIfInBounds 3 (.int .u32 s.d)).setIfInBounds 4 (.int .u32 s.e)).setIfInBounds 5 (.int .u32 s.f)).setIfInBounds 6 (.int .u32 s.g)).setIfInBounds 7 (.int .u32 s.h)
theorem akx{w:World}{g:Nat}{s':gj}{cs:Array Value}{bl:TypeId}(V:w.1[g]? =some (.cells cs bl (0,0))):(FZ w g s').1[g]? =some (.cells (Lo cs s') bl (0,0)):=by
 unfold FZ Lo
 simp_all
theorem azT(s s':gj)(v:Value)(n:Nat)(on:Bool):Lo (gu s v n on) s'=gu s' v n on:=by simp[Lo,gu]
theorem azU(s s':gj):Lo (lL s) s'=lL s':=by simp[Lo,lL]
theorem azV{w:World}{g n:Nat}{s s':gj}{v:Value}{on:Bool}{bl:TypeId}(V:w.1[g]? =some (.cells (gu s v n on) bl (0,0))):(FZ w g s').1[g]? =some (.cells (gu s' v n on) bl (0,0)):=by
 rw[akx V,azT]
theorem azW{w:World}{g:Nat}{s s':gj}{bl:TypeId}(V:w.1[g]? =some (.cells (lL s) bl (0,0))):(FZ w g s').1[g]? =some (.cells (lL s') bl (0,0)):=by
 rw[akx V,azU]
theorem aky(g:Nat)(s:gj)(v:Value)(n:Nat)(on:Bool)(w:World)(V:w.1[g]? =some (.cells (gu s v n on) 389 (0,0))):
  aP Tryz.prog 238 #[.pointer (some ⟨g,0,none⟩)] w λW w'=>W=.agg (lL (if on=true then s else first))/\D ak w w':=by
 refine bn Tryz.func238 Tryz.ntmps238 λaZ Z=> ?_;have e:=λi=>aG V i;have aI:=(D.refl ak w).alloc (.cells #[.int .u32 0,.int .u32 0,.int .u32 0,.int .u32 0,.int .u32 0,.int .u32 0,.int .u32 0,.int .u32 0] 387);have db:=aI.ah V id;have aK:=λi=>aG db i
 cases on
 ·simp[go_sem,e,aK,gu];refine(azS _).mono ?_;rintro _ ai ⟨rfl,aA⟩;have Pk:=aA.ah (cl w (.cells #[.int .u32 0,.int .u32 0,.int .u32 0,.int .u32 0,.int .u32 0,.int .u32 0,.int .u32 0,.int .u32 0] 387)) id;have aaL:=λi=>aG Pk i;have azX:=λi=>dD Pk i;have kn:=abj (s:=first) (g:=w.1.size) (aI.trans aA) (.inr (Nat.le_refl _));simp[go_sem,lL,aaL,azX];exact Z _ _ ⟨rfl,kn⟩
 ·simp[go_sem,e,aK,gu];exact Z _ _ ⟨rfl,(D.refl ak w).alloc _⟩
theorem azY:(Tryz.prog.info? 389).map (λi=>i.zero.isSome)=some true:=by kernel_rfl
theorem azZ:ln Tryz.prog 389=gu UG (.slice none 0 0) 0 false:=by kernel_rfl
theorem az0{w:World}{K:Value->World->Prop}:hX Tryz.prog 389 [] w K=K (.agg (gu UG (.slice none 0 0) 0 false)) w:=
 lp Tryz.underlying389 azY (places:=#[(0,8),(8,1),(9,1),(10,1)]) (by simp[go_sem]) (by simp[iH,azZ])
theorem az1(w:World):aP Tryz.prog 203 #[] w λW w'=>W=.pointer (some ⟨w.1.size,0,none⟩)/\Io w' w.1.size []/\D ak w w':=by
 refine bn Tryz.func203 Tryz.ntmps203 λaZ Z=> ?_;simp[go_sem,az0];refine Z _ _ ⟨rfl,?_,(D.refl ak w).alloc _⟩;have am:ke first []=(first,[]):=FY (by decide)
 refine⟨UG,.slice none 0 0,false,cl _ _,?_,by simp[Value.ownBlock],?_,azQ⟩
 ·rw[am];exact bD.nil _
 ·rw[am];rfl
theorem akz(g:Nat)(m:List UInt8)(v:Value)(b:List UInt8)(w:World)(aN:Io w g m)(aw:bD w v b.length (bm b))(aS:v.ownBlock≠some g)(cI:m.length+b.length<=1000000)(r:ja w)(sq:g≠3):
  aP Tryz.prog 204 #[.pointer (some ⟨g,0,none⟩),v] w λW w'=>W=.tuple #[]/\Io w' g (m++b)/\D (only g) w w':=by
 obtain⟨s,v0,on,V,PL,abk,el,ns⟩:=aN;refine bn Tryz.func204 Tryz.ntmps204 λaZ Z=> ?_;have iw:=lt_of_block V;have e:=λi=>aG V i;have z:=λi=>dD V i;have MV:=aw.len Tryz.underlying101 3;have fz:IntKind.u64.wrap (b.length:Int)=b.length:=by rw[IntKind.wrap_u64];omega
 have fw:IntKind.u64.wrap ((m.length:Int)+b.length)=((m.length+b.length:Nat):Int):=by rw[IntKind.wrap_u64];omega
 simp[go_sem,e,z,gu,MV,fz];rw[fw];generalize dE:m.length+b.length=aQ at*;have db:(w.setCell ⟨g,9,none⟩ (.int .u64 aQ)).1[g]? =some (.cells (gu s v0 aQ on) 389 (0,0)):=by
  rw[eY,V,gp];simp[gu]
 have aI:=(D.refl (only g) w).setCell (p:=⟨g,9,none⟩) (.inl rfl) (.int .u64 aQ);have UH:∀{v:Value},v.ownBlock≠some g->∀k,v.ownBlock=some k->¬only g k:=λh k r e=>h (by rw[r,e]);have gE:=aw.ch aI (UH aS);have UI:=PL.ch aI (UH abk);revert db aI gE UI;generalize w.setCell ⟨g,9,none⟩ (.int .u64 aQ)=ab;intro db aI gE UI;have aK:=λi=>aG db i;have FE:=azR m.length first m (Nat.le_refl _)
 generalize F_:(ke first m).2=cA at*;have nY:=UI.len Tryz.underlying101 3;obtain⟨ag,abl,akA,abm⟩:=UI.akt kB;refine cD [A 0,A 1,A 2,A 3,A 4,A 5,A 6,A 7,A 8,A 9,A 10,A 11,A 12,A 13,A 14,A 15,(16,some []),A 17] ?_;simp[go_sem,aK,gu,nY,abm];refine azO kB (abl.drew) (eB _) (gE.drew) (eB _) (xf _) (by unfold maxLen;omega) (by omega) λv4 ai a' aX bq=> ?_;have aX:=(D.refl ak ab).drew.trans aX;have dk:=aX.ah db id;have MW:v4.ownBlock≠some g:=by
  rcases bq with bq|bq
  ·rw[bq,akA];exact abk
  ·intro h;have:=bq g h
   simp_all
 have dR:(cA++b).length<=1000000+64:=by rw[List.length_append];omega
 have PM:bD ai v4 (cA++b).length (bm (cA++b)):=by rw[Cs,List.length_append];exact a'
 have fE:ke first (m++b)=ke (if on=true then s else first) (cA++b):=by
  rw[akw m.length first m b (Nat.le_refl _),el,F_]
 simp[go_sem];refine du (λJ f bE=>∃(l:List UInt8) (s':gj) (DM:Bool),J=l.length/\l.length<=1000064/\f 0=.pointer (some ⟨g,0,none⟩)/\bD bE (f 4) l.length (bm l)/\(f 4).ownBlock≠some g/\bE.1[g]? =some (.cells (gu s' v0 aQ DM) 389 (0,0))/\vA s'/\
  ke first (m++b)=ke (if DM=true then s' else first) l/\D (only g) w bE) (cA++b).length
  ⟨cA++b,s,on,rfl,dR,by simp,by simpa using PM,by simpa using MW,dk,ns,fE,aI.trans (aX.mono λ_ _ e=>e.elim)⟩ ?_
 rintro cJ bK _ f bE ⟨l,s',DM,rfl,xv,f0,BT,UJ,TU,qq,Lp,T⟩;have akB:=BT.len Tryz.underlying101 3;by_cases kq:64<=l.length
 ·have abn:(64:Int)<=l.length:=by omega
  obtain⟨v5,Bi,Yc,_,F',_⟩:=BT.qo kB (eB l) 0 64 (by omega) kq;replace F':∀w',(Instr.sliceAt 101 (f 4) none (some (.int .i64 64)) none).run Tryz.prog w'=.ok v5 w':=F' rfl;obtain⟨kD,wl,JU,_,_,Cc⟩:=BT.qo kB (eB l) 64 l.length kq (Nat.le_refl _);replace Cc:∀w',(Instr.sliceAt 101 (f 4) (some (.int .i64 64)) none none).run Tryz.prog w'=.ok kD w':=Cc rfl;have Bi:bD bE v5 64 (bm (l.take 64)):=by
   rw[bm,List.map_take];simpa[bm]using Bi
  have wl:bD bE kD (l.drop 64).length (bm (l.drop 64)):=by
   rw[List.length_drop,bm,List.map_drop];have h:=wl;rw[show l.length=(bm l).length from(eB l).symm,List.take_length]at h;simpa[bm]using h
  have akC:(l.take 64).length=64:=by rw[List.length_take];omega
  simp[go_sem,akB,abn];refine cD [A 0,A 1,A 2,A 4,A 5,(3,some [0,1,4,5]),(6,some [0,1]),A 7,A 8,(9,some [1]),A 10,A 11,(12,some [])] ?_;simp[go_sem,f0,F'];refine(aky g s' v0 aQ DM bE.drew TU).mono ?_;rintro _ aC ⟨rfl,aE⟩;have aE:=(D.refl ak bE).drew.trans aE;have ez:vA (if DM=true then s' else first):=by cases DM<;>simp[aku,qq]
  generalize cf:(if DM=true then s' else first)=S at*;simp[go_sem,f0,F'];refine(akl S v5 (l.take 64) aC ez akC (Bi.ch aE λ_ _ e=>e) (r.ch (T.trans (aE.mono λ_ _ e=>e.elim)) (by simp only[only];exact λe=>sq e.symm))).mono ?_;rintro _ be ⟨rfl,bv⟩;have pS:=aE.trans bv;have mi:=pS.ah TU id;have Pr:=akk S (l.take 64);have abo:ke first (m++b)=ke (yo S (l.take 64)) (l.drop 64):=by rw[Lp,Ln kq]
  generalize bd:yo S (l.take 64)=t at*;have pb:=azV (s':=t) mi;have pk:=abj (s:=t) (g:=g) (D.refl (only g) be) (.inl rfl);have vN:((FZ be g t).setCell ⟨g,10,none⟩ (.bool true)).1[g]? =some (.cells (gu t v0 aQ true) 389 (0,0)):=by
   rw[eY,pb,gp];simp[gu]
  have pk:=pk.setCell (p:=⟨g,10,none⟩) (.inl rfl) (.bool true);have cW:=λi=>aG mi i;have z4:=λi=>dD mi i;simp[go_sem,f0,lL,cW,z4,gu,Cc];have xB:kD.ownBlock≠some g:=by rw[JU];exact UJ
  refine cH.intro (l.drop 64).length (by rw[List.length_drop];omega) (bK _ _ ((FZ be g t).setCell ⟨g,10,none⟩ (.bool true)) ⟨l.drop 64,t,true,rfl,by rw[List.length_drop];omega,by simp[f0],?_,by simpa using xB,vN,Pr,abo,(T.trans (pS.mono λ_ _ e=>e.elim)).trans pk⟩);have:=(wl.ch pS λ_ _ e=>e).ch pk (UH xB);simpa using this
 ·have abn:¬(64:Int)<=l.length:=by omega
  simp[go_sem,akB,abn,f0];refine Jj kB (World.ownsRow_nil bE 0 5 1) BT (eB _) (xf _) (by unfold maxLen;omega) (by omega) λabp cF hs mc ub=> ?_;have dz:D ak bE cF:=mc.mono λk _ e=>by simp[Value.ownBlock]at e
  have abq:=dz.ah TU id;have akD:abp.ownBlock≠some g:=by
   rcases ub with ub|ub
   ·rw[ub];simp[Value.ownBlock]
   ·intro h;have H:=ub g h
    grind
  have yf:=bD.fp hs;obtain⟨Zs,akE,akF,rfl⟩:∃ag m c,abp=.slice ag m c:=by
   obtain⟨ag,c,h,_⟩:=id yf;exact⟨ag,_,c,h⟩
  have hi:=λi=>aG abq i;have az2:=λi=>dD abq i;have az3:ke first (m++b)=((if DM=true then s' else first),l):=by rw[Lp,FY (by omega)]
  have pk:=(D.refl (only g) cF).setCell (p:=⟨g,8,none⟩) (.inl rfl) (.slice Zs akE akF);have NG:=yf.ch pk (UH akD);simp[go_sem,f0,hi,az2,gu];refine Z _ _ ⟨rfl,⟨s',.slice Zs akE akF,DM,?_,?_,akD,by rw[az3],qq⟩,(T.trans (dz.mono λ_ _ e=>e.elim)).trans pk⟩
  ·rw[eY,abq,gp,List.length_append,dE];simp[gu]
  grind
theorem az4:∀(n:Nat) (s:gj) (l:List UInt8),l.length<=n->(ke s l).2.length=l.length%64:=by
 intro n
 induction n with
 |zero=>intro s l h;rw[FY (by omega)];show l.length=_;omega
 |succ n bG=>
  intro s l h;by_cases kq:64<=l.length
  ·rw[Ln kq,bG _ _ (by rw[List.length_drop];omega),List.length_drop];omega
  ·rw[FY (by omega)];show l.length=_;omega
def Af(x j:Nat):List UInt8:=(List.range j).map λi=>UInt8.ofNat (x / 2^(56 - 8*i))
theorem az5(x j:Nat):Af x (j+1)=Af x j++[UInt8.ofNat (x / 2^(56 - 8*j))]:=by simp[Af,List.range_succ]
theorem az6(x j:Nat):(Af x j).length=j:=by simp[Af]
def PN(n:Nat):List UInt8:=[128]++cV ((119 - n%64)%64)++Af (8*n) 8
def rM(x:Nat):List UInt8:=[UInt8.ofNat (x / 16777216),UInt8.ofNat (x / 65536),UInt8.ofNat (x / 256),UInt8.ofNat x]
def PO(s:gj):List UInt8:=rM s.a++(rM s.b++(rM s.c++(rM s.d++(rM s.e++(rM s.f++(rM s.g++rM s.h))))))
theorem akG(s:gj):(PO s).length=32:=rfl
def Ga(m:List UInt8):List UInt8:=PO (ke first (m++PN m.length)).1
theorem akH(m:List UInt8):(Ga m).length=32:=rfl
def hU(s:gj)(k:Nat):Nat:=[s.a,s.b,s.c,s.d,s.e,s.f,s.g,s.h].getD k 0
def DN(s:gj)(k:Nat):List UInt8:=(PO s).take (4*k)++cV (32 - 4*k)
theorem az7(s:gj){k:Nat}(r:k<8):((((DN s k).set (4*k) (UInt8.ofNat (hU s k / 16777216))).set (4*k+1) (UInt8.ofNat (hU s k / 65536))).set (4*k+2) (UInt8.ofNat (hU s k / 256))).set (4*k+3) (UInt8.ofNat (hU s k))=DN s (k+1):=by
 match k,r with
 |0,_=>rfl
 |1,_=>rfl
 |2,_=>rfl
 |3,_=>rfl
 |4,_=>rfl
 |5,_=>rfl
 |6,_=>rfl
 |7,_=>rfl
theorem az8(s:gj){k:Nat}(r:k<8):(lL s)[k]? =some (.int .u32 (hU s k:Nat)):=by
 match k,r with
 |0,_=>rfl
 |1,_=>rfl
 |2,_=>rfl
 |3,_=>rfl
 |4,_=>rfl
 |5,_=>rfl
 |6,_=>rfl
 |7,_=>rfl
theorem az9{s:gj}(ok:vA s){k:Nat}(r:k<8):hU s k<4294967296:=by
 match k,r with
 |0,_=>exact ok.a
 |1,_=>exact ok.b
 |2,_=>exact ok.c
 |3,_=>exact ok.d
 |4,_=>exact ok.e
 |5,_=>exact ok.f
 |6,_=>exact ok.g
 |7,_=>exact ok.h
theorem az_(s:gj){k:Nat}(r:k<=8):(DN s k).length=32:=by
 simp[DN,akG,lM];omega
attribute [irreducible] PO
theorem az'(q k x:Nat)(l:List UInt8)(bl:TypeId)(w:World)(r:k<8)(al:l.length=32)(M:x<4294967296)(V:w.1[q]? =some (.cells (bm l).toArray bl (0,0))):
  aP Tryz.prog 240 #[.int .i64 k,.int .u32 x,.pointer (some ⟨q,0,none⟩)] w λW w'=>W=.tuple #[]/\D (only q) w w'/\
   w'.1[q]? =some (.cells (bm ((((l.set (4*k) (UInt8.ofNat (x / 16777216))).set (4*k+1) (UInt8.ofNat (x / 65536))).set (4*k+2) (UInt8.ofNat (x / 256))).set (4*k+3) (UInt8.ofNat x))).toArray bl (0,0)):=by
 refine bn Tryz.func240 Tryz.ntmps240 λaZ Z=> ?_;have mJ:IntKind.i64.wrap (4*(k:Int))=4*(k:Int):=by rw[IntKind.wrap_i64];omega
 have rj:IntKind.i64.wrap (4*(k:Int)+1)=4*(k:Int)+1:=by rw[IntKind.wrap_i64];omega
 have bY:IntKind.i64.wrap (4*(k:Int)+2)=4*(k:Int)+2:=by rw[IntKind.wrap_i64];omega
 have tX:IntKind.i64.wrap (4*(k:Int)+3)=4*(k:Int)+3:=by rw[IntKind.wrap_i64];omega
 have hA:4*(k:Int)<32:=by omega
 have Ip:4*(k:Int)+1<32:=by omega
 have eM:4*(k:Int)+2<32:=by omega
 have GY:4*(k:Int)+3<32:=by omega
 have n0:(0:Int)<=4*(k:Int):=by omega
 have hY:(0:Int)<=4*(k:Int)+1:=by omega
 have kA:(0:Int)<=4*(k:Int)+2:=by omega
 have jE:(0:Int)<=4*(k:Int)+3:=by omega
 have t0:(4*(k:Int)).toNat=4*k:=by omega
 have t1:(4*(k:Int)+1).toNat=4*k+1:=by omega
 have dK:(4*(k:Int)+2).toNat=4*k+2:=by omega
 have t3:(4*(k:Int)+3).toNat=4*k+3:=by omega
 have v0:IntKind.u8.wrap ((x:Int) / 16777216)=((x / 16777216%256:Nat):Int):=by rw[IntKind.wrap_u8];omega
 have gw:IntKind.u8.wrap ((x:Int) / 65536)=((x / 65536%256:Nat):Int):=by rw[IntKind.wrap_u8];omega
 have jf:IntKind.u8.wrap ((x:Int) / 256)=((x / 256%256:Nat):Int):=by rw[IntKind.wrap_u8];omega
 have v3:IntKind.u8.wrap (x:Int)=((x%256:Nat):Int):=by rw[IntKind.wrap_u8];omega
 have aF:∀i,i<32->∃c,(bm l).toArray[i]? =some (ca c):=λi aa=>by
  refine⟨l[i]'(by omega),?_⟩;rw[List.getElem?_toArray];exact akc (List.getElem?_eq_getElem (by omega))
 obtain⟨fG,fC⟩:=aF (4*k) (by omega);obtain⟨aI,ig⟩:=aF (4*k+1) (by omega);obtain⟨aA,fX⟩:=aF (4*k+2) (by omega);obtain⟨aE,jV⟩:=aF (4*k+3) (by omega);have nv:=(aG V (4*k)).trans fC;have nZ:=(aG V (4*k+1)).trans ig;have n_:=(aG V (4*k+2)).trans fX;have wJ:=(aG V (4*k+3)).trans jV;have z:=λi=>dD V i;simp[go_sem,mJ,rj,bY,tX,hA,Ip,eM,GY,n0,hY,kA,jE,t0,t1,dK,t3,nv,nZ,n_,wJ,z];rw[v0,gw,jf,v3];refine Z _ _ ⟨rfl,((((D.refl (only q) w).setCell (p:=⟨q,4*k,none⟩) (.inl rfl) _).setCell (p:=⟨q,4*k+1,none⟩) (.inl rfl) _).setCell (p:=⟨q,4*k+2,none⟩) (.inl rfl) _).setCell (p:=⟨q,4*k+3,none⟩) (.inl rfl) _,?_⟩;rw[eY,eY,eY,eY,V];simp only[gp,<-WI,aAa]
theorem aAb(g:Nat)(m:List UInt8)(w:World)(aN:Io w g m)(cI:m.length<=1000000)(r:ja w)(sq:g≠3):
  aP Tryz.prog 205 #[.pointer (some ⟨g,0,none⟩)] w λW w'=>W=.agg (bm (Ga m)).toArray/\D ak w w':=by
 obtain⟨s,v0,on,V,PL,abk,el,ns⟩:=aN;refine bn Tryz.func205 Tryz.ntmps205 λaZ Z=> ?_;obtain⟨kb,wP⟩:=az ((bm (cV 32)).toArray);have yF:ln Tryz.prog 41=kb:=by rw[<-wP];kernel_rfl
 have ua:(Tryz.prog.info? 41).map (λi=>i.zero.isSome)=some true:=by kernel_rfl
 simp[go_sem,ua,yF];have aI:=(D.refl ak w).alloc (.cells kb 41);have ba:=cl w (.cells kb 41);have db:=aI.ah V id;have gE:=PL.ch aI λ_ _ e=>e;have de:=r.ch aI id;have xg:(w.alloc (.cells kb 41)).1.size=w.1.size+1:=by simp
 revert ba aI db gE de xg;generalize w.alloc (.cells kb 41)=ab;generalize aq:w.1.size=q;intro aI ba db gE de xg;have aK:=λi=>aG db i;have akI:=az4 m.length first m (Nat.le_refl _)
 have yg:Ga m=PO (ke (if on=true then s else first) ((ke first m).2++PN m.length)).1:=by
  unfold Ga;rw[akw m.length first m _ (Nat.le_refl _),el]
 generalize F_:(ke first m).2=cA at*;have nY:=gE.len Tryz.underlying101 3;obtain⟨ag,abl,akA,abm⟩:=gE.akt kB;refine cD [A 0,A 1,A 2,A 3,A 4,A 5,A 6,A 7,A 8,A 9,A 10,A 11,A 12,A 13,A 14,(15,some [0,1,2,3,4,5,6,7,8,9,10,11,12,13,14]),(16,some []),A 17] ?_;have UK:=(D.refl ak ab).alloc (.cells #[.int .u8 128] 5);have dk:=UK.ah db id;have aW:=λi=>aG dk i;simp[go_sem,aK,aW,gu,nY,abm];have aAc:=cl ab (.cells #[.int .u8 128] 5);have PM:=(bD.GA aAc (n:=1) (c:=1) (off:=0) (xs:=bm [128]) (Nat.le_refl _) (by decide) rfl).drew;have abr:=((abl.ch UK λ_ _ e=>e).drew);have aIX:cA.length<64:=by rw[akI];exact Nat.mod_lt _ (by decide)
 have abs:((ab.alloc (.cells #[.int .u8 128] 5)).drew).1[g]? =some (.cells (gu s v0 m.length on) 389 (0,0)):=dk;have pX:((ab.alloc (.cells #[.int .u8 128] 5)).drew).1[q]? =some (.cells kb 41 (0,0)):=UK.ah ba id;have UL:=(aI.trans UK).drew;revert PM abr abs pX UL;generalize(ab.alloc (.cells #[.int .u8 128] 5)).drew=ai;intro PM abr abs pX UL;refine azP kB abr (eB _) PM rfl (by decide) (xf _) (by unfold maxLen;omega) (by omega) λv4 be a' aX bq=> ?_;have FN:nf 5 ai v4 (cA.length+1) (bm (cA++[128])) be:=⟨by rw[Cs];exact a',aX,bq⟩;have UM:∀{u:World},D ak ai u->u.1[g]? =some (.cells (gu s v0 m.length on) 389 (0,0))/\u.1[q]? =some (.cells kb 41 (0,0)):=λh=>⟨h.ah abs id,h.ah pX id⟩;simp[go_sem];have tf:∀{u:World} {v:Value} {n:Nat} {l:List UInt8} (c:UInt8) {K:Value->World->Prop} {bO:TypeId},nf 5 ai v n (bm l) u->n<=1000->(∀W cS,nf 5 ai W (n+1) (bm (l++[c])) cS->K W cS)->pQ Tryz.prog .append #[101,101] bO #[v,.slice (some ⟨u.1.size,0,none⟩) 1 1] (u.alloc (.cells #[.int .u8 c.toNat] 5)) K:=by
  intro u v n l c K bO H af aU;refine Iq kB H.own rfl (by unfold maxLen;omega) (by omega) λW cS hs mc ub=> ?_;have bC:=H.grow hs mc ub;exact aU _ _ (by rw[Cs];exact bC)
 generalize Az:(119 - cA.length)%64=Lq;refine du (λJ f u=>∃j,j<=Lq/\J=Lq - j/\f 0=.pointer (some ⟨g,0,none⟩)/\f 2=.pointer (some ⟨q,0,none⟩)/\nf 5 ai (f 3) (cA.length+1+j) (bm (cA++[128]++cV j)) u) Lq
  ⟨0,by omega,rfl,by simp,by simp,by simpa[cV]using FN⟩ ?_
 rintro cJ bK _ f u ⟨j,F,rfl,f0,bh,aH⟩;have KX:=aH.dI.len Tryz.underlying101 3;have abt:((cA.length:Int)+1+j).tmod 64=(((cA.length+1+j)%64:Nat):Int):=by rw[Int.tmod_eq_emod_of_nonneg (by omega)];omega
 by_cases aIY:j<Lq
 ·have da:((((cA.length+1+j)%64:Nat):Int)!=56)=true:=by
   rw[bne,beq_false_of_ne (by omega)];rfl
  simp[go_sem,KX,abt];rw[show(((cA.length:Int)+1+j)%64 !=56)=true by grind];simp[go_sem];refine tf 0 aH (by omega) λW cS yj=> ?_;simp[go_sem];refine cH.intro (Lq -(j+1)) (by omega) (bK _ _ _ ⟨j+1,by omega,rfl,by simp[f0],by simp[bh],?_⟩);have e:cA++[128]++cV (j+1)=cA++[128]++cV j++[0]:=by
   rw[show cV (j+1)=cV j++[0]by unfold cV;rw[List.replicate_succ']];simp
  rw[e];simpa[Nat.add_assoc]using yj
 ·obtain rfl:j=Lq:=by omega
  have da:((((cA.length+1+j)%64:Nat):Int)!=56)=false:=by
   rw[show(cA.length+1+j)%64=56 by omega];rfl
  simp[go_sem,KX,abt];have Li:(((cA.length:Int)+1+j)%64 !=56)=false:=by
   have:((cA.length:Int)+1+j)%64=56:=by omega
   rw[this];decide
  rw[Li];simp[go_sem];have aAd:PN m.length=[128]++cV j++Af (8*m.length) 8:=by unfold PN;rw[<-akI,Az]
  clear bK cJ da abt KX;obtain⟨ou,wG⟩:=az (cA++[128]++cV j);obtain⟨hY,rE⟩:=az (cA.length+1+j);have aAe:ou.length=hY:=by rw[<-wG,<-rE];simp[lM];omega
  rw[wG,rE]at aH;have aIZ:hY%64=56:=by omega
  have aI0:hY<=200:=by omega
  refine du (λJ f u=>∃i,i<=8/\J=8 - i/\f 0=.pointer (some ⟨g,0,none⟩)/\f 2=.pointer (some ⟨q,0,none⟩)/\f 4=.int .i64 (56 - 8*(i:Int))/\nf 5 ai (f 3) (hY+i) (bm (ou++Af (8*m.length) i)) u) 8
   ⟨0,by omega,rfl,by simp[f0],by simp[bh],by simp,by simpa[Af]using aH⟩ ?_
  clear aH f0 bh f;rintro cJ bK _ f u ⟨i,aa,rfl,f0,bh,cr,aH⟩;by_cases akJ:i<8
  ·have jm:(0:Int)<=56 - 8*(i:Int):=by omega
   have zq:8*(i:Int)<=56:=by omega
   have akK:f 4=.int .i64 ((56 - 8*i:Nat):Int):=by grind
   have yi:=(UM aH.ch).1;have aaM:u.cell? ⟨g,9,none⟩=some (.int .u64 (m.length:Nat)):=(aG yi 9).trans (by simp[gu]);have vL:IntKind.u64.wrap (8*(m.length:Int))=((8*m.length:Nat):Int):=by rw[IntKind.wrap_u64];omega
   have eA:IntKind.i64.wrap (((56 - 8*i:Nat):Int) - 8)=56 - 8*((i+1:Nat):Int):=by rw[IntKind.wrap_i64];omega
   have aAf:(0:Int)<=((56 - 8*i:Nat):Int):=by omega
   generalize T:56 - 8*i=gl at*;simp[go_sem,f0,akK,aaM,vL,aAf];have xh:IntKind.u8.wrap (8*(m.length:Int) / 2^gl)=((UInt8.ofNat (8*m.length / 2^gl)).toNat:Int):=by
    rw[show 8*(m.length:Int) / 2^gl=((8*m.length / 2^gl:Nat):Int)by simp,IntKind.wrap_u8,UInt8.toNat_ofNat'];omega
   rw[xh];refine tf _ aH (by omega) λW cS yj=> ?_;simp[go_sem,akK,eA];refine cH.intro (8 -(i+1)) (by omega) (bK _ _ _ ⟨i+1,by omega,rfl,by simp[f0],by simp[bh],by simp,?_⟩);rw[az5,T,<-List.append_assoc];simpa[Nat.add_assoc]using yj
  ·obtain rfl:i=8:=by omega
   have zq:¬8*((8:Nat):Int)<=56:=by omega
   simp[go_sem,cr];have yi:=(UM aH.ch).1;rw[f0];refine(aky g s v0 m.length on u yi).mono ?_;rintro _ io ⟨rfl,aE⟩;have ez:vA (if on=true then s else first):=by cases on<;>simp[aku,ns]
   have gF:cA++PN m.length=ou++Af (8*m.length) 8:=by rw[aAd,<-wG];simp
   rw[gF]at yg;obtain⟨PP,akL⟩:=az (ou++Af (8*m.length) 8);have aI1:PP.length=hY+8:=by rw[<-akL,List.length_append,aAe,az6]
   rw[akL]at yg aH;generalize aI2:(if on=true then s else first)=ml at*;simp[go_sem,lL];have bv:=(D.refl ak io).alloc (.cells #[.int .u32 ml.a,.int .u32 ml.b,.int .u32 ml.c,.int .u32 ml.d,.int .u32 ml.e,.int .u32 ml.f,.int .u32 ml.g,.int .u32 ml.h] 387);have dj:=cl io (.cells #[.int .u32 ml.a,.int .u32 ml.b,.int .u32 ml.c,.int .u32 ml.d,.int .u32 ml.e,.int .u32 ml.f,.int .u32 ml.g,.int .u32 ml.h] 387);have v':=(aH.step aE).step bv;clear bv;revert dj v';generalize io.alloc (.cells #[.int .u32 ml.a,.int .u32 ml.b,.int .u32 ml.c,.int .u32 ml.d,.int .u32 ml.e,.int .u32 ml.f,.int .u32 ml.g,.int .u32 ml.h] 387)=EI;generalize HQ:io.1.size=gS;intro dj v';have aI3:ai.1.size<=gS:=by rw[<-HQ];exact(aH.ch.trans aE).size
   have CH:∀c',(f 3).ownBlock=some c'->c'<gS:=λc' pC=>by
    have:=WH (aH.step aE).own c' pC;omega
   clear yi;refine du (λJ f' x=>∃(l:List UInt8) (S:gj),J=l.length/\l.length%64=0/\l.length<=1000/\f' 2=.pointer (some ⟨q,0,none⟩)/\f' 5=.pointer (some ⟨gS,0,none⟩)/\bD x (f' 3) l.length (bm l)/\(f' 3).ownBlock=(f 3).ownBlock/\x.1[gS]? =some (.cells (lL S) 387 (0,0))/\vA S/\ke ml PP=ke S l/\D ak ai x) PP.length
    ⟨PP,ml,rfl,by omega,by omega,by simp[bh],by simp,by have:=v'.dI;simp_all,by simp,dj,ez,rfl,v'.ch⟩ ?_
   rintro cJ bK _ f' x ⟨l,S,rfl,akC,MV,cb,cu,nk,Ir,Ay,akM,akN,cx⟩;have xv:=nk.len Tryz.underlying101 3;by_cases bf:0<l.length
   ·have oR:(0:Int)<l.length:=by omega
    have kq:64<=l.length:=by omega
    obtain⟨v5,Bi,Yc,_,F',_⟩:=nk.qo kB (eB l) 0 64 (by omega) kq;replace F':∀w',(Instr.sliceAt 101 (f' 3) none (some (.int .i64 64)) none).run Tryz.prog w'=.ok v5 w':=F' rfl;obtain⟨kD,wl,JU,_,_,Cc⟩:=nk.qo kB (eB l) 64 l.length kq (Nat.le_refl _);replace Cc:∀w',(Instr.sliceAt 101 (f' 3) (some (.int .i64 64)) none none).run Tryz.prog w'=.ok kD w':=Cc rfl;have Bi:bD x v5 64 (bm (l.take 64)):=by
     rw[bm,List.map_take];simpa[bm]using Bi
    have wl:bD x kD (l.drop 64).length (bm (l.drop 64)):=by
     rw[List.length_drop,bm,List.map_drop];have h:=wl;rw[show l.length=(bm l).length from(eB l).symm,List.take_length]at h;simpa[bm]using h
    have aAg:(l.take 64).length=64:=by rw[List.length_take];omega
    have fD:=λi=>aG Ay i;simp[go_sem,xv,oR,bf];refine cD [A 0,A 1,A 2,(3,some []),(4,some [])] ?_;simp[go_sem,cu,F',fD,lL];refine(akl S v5 (l.take 64) x.drew akM aAg Bi.drew (r.ch ((UL.trans cx).drew) id)).mono ?_;rintro _ cZ ⟨rfl,aA⟩;have aA:=(D.refl ak x).drew.trans aA;have dk:=aA.ah Ay id;have Pr:=akk S (l.take 64);have abo:ke ml PP=ke (yo S (l.take 64)) (l.drop 64):=by rw[akN,Ln kq]
    generalize bd:yo S (l.take 64)=t at*;have gQ:=azW (s':=t) dk;have pk:=abj (s:=t) (g:=gS) (D.refl (only gS) cZ) (.inl rfl);have aW:=λi=>aG dk i;have rB:=λi=>dD dk i;simp[go_sem,cu,lL,aW,rB,Cc];have akO:kD.ownBlock=(f 3).ownBlock:=by rw[JU,Ir]
    refine cH.intro (l.drop 64).length (by rw[List.length_drop];omega) (bK _ _ (FZ cZ gS t) ⟨l.drop 64,t,rfl,by rw[List.length_drop];omega,by rw[List.length_drop];omega,by simp[cb],by simp[cu],?_,by simpa using akO,gQ,Pr,abo,(cx.trans aA).bJ pk (λaAh aAi e=>by simp only[only]at e;omega)⟩);have:=(wl.ch aA λ_ _ e=>e).ch pk (λc' pC e=>by
     rw[akO]at pC;have:=CH c' pC;simp only[only]at e;omega)
    simpa using this
   ·have oR:¬(0:Int)<l.length:=by omega
    have nY:l=[]:=List.length_eq_zero_iff.1 (by omega);subst nY;rw[akN,FY (by decide)]at yg;have co:=(D.refl ak x).alloc (.cells kb 41);have gx:=cl x (.cells kb 41);have vN:=co.ah Ay id;have xd:=co.ah (UM cx).2 id;have hw:=λi=>aG vN i;have zS:=cx.trans co;have Ij:kb.size=32:=by rw[<-wP];simp[eB,lM]
    have ahZ:ai.1.size<=x.1.size:=cx.size;have OQ:q<x.1.size:=lt_of_block (UM cx).2;simp[go_sem,xv,ua,yF,cu,hw,lL];clear co hw;revert gx vN xd zS;generalize x.alloc (.cells kb 41)=OF;generalize x.1.size=uT at*;intro gx vN xd zS;refine du (λJ sS y=>∃k,k<=8/\J=8 - k/\sS 2=.pointer (some ⟨q,0,none⟩)/\sS 6=.pointer (some ⟨uT,0,none⟩)/\sS 7=.func (.func 240) #[] #[.pointer (some ⟨uT,0,none⟩)]/\sS 65=.agg (lL S)/\sS 66=.int .i64 k/\
     y.1[uT]? =some (.cells (bm (DN S k)).toArray 41 (0,0))/\y.1[q]? =some (.cells kb 41 (0,0))/\D ak ai y) 8
     ⟨0,by omega,rfl,by simp[cb],by simp,by simp,by simp[lL],by simp,by rw[show DN S 0=cV 32 from rfl,wP];exact gx,xd,zS⟩ ?_
    clear bK cJ;rintro cJ bK _ sS y ⟨k,AU,rfl,I,cG,eD,akP,abu,UN,abv,fg⟩;by_cases eH:k<8
    ·have ea:(k:Int)<8:=by omega
     have eo:IntKind.i64.wrap ((k:Int)+1)=((k+1:Nat):Int):=by simp[IntKind.wrap_i64];omega
     have mu:=λw=>Eo (P:=Tryz.prog) (kd:=.i64) Tryz.underlying387 Tryz.sizeOf40 Tryz.isAgg40 eH (az8 S eH) w;simp[go_sem,eD,akP,abu,ea,mu];have n':∀(a:List Value) (w:World),(callFunc 240 a.toArray).run Tryz.prog w=.ok (.enter 240 a.toArray) w:=λa w=>by simp[go_sem]
     rw[EK _ _ _ _ [.pointer (some ⟨uT,0,none⟩)] _ (n' _ _)];refine(az' uT k (hU S k) (DN S k) _ y eH (az_ S AU) (az9 akM eH) UN).mono ?_;rintro _ gN ⟨rfl,aA,FU⟩;rw[az7 S eH]at FU;simp[go_sem,abu,eo];exact cH.intro (8 -(k+1)) (by omega) (bK _ _ _ ⟨k+1,by omega,rfl,by simp[I],by simp[cG],by simp[eD],by simp[akP],by simp,FU,aA.ah abv (by simp only[only];omega),fg.bJ aA (λaAh aAi e=>by simp only[only]at e;omega)⟩)
    ·obtain rfl:k=8:=by omega
     have Lj:DN S 8=Ga m:=by
      rw[yg];unfold DN;simp only[];rw[List.take_of_length_le (by rw[akG];decide)];simp[cV]
     rw[Lj]at UN;obtain⟨bo,hu⟩:=az ((bm (Ga m)).toArray);have In:bo.size=32:=by rw[<-hu];simp[eB,akH]
     have Ik:jT bo=true:=by rw[<-hu];exact abw _
     have abx:bo.extract 0 32=bo:=by rw[show(32:Nat)=bo.size from In.symm];simp
     rw[hu]at UN Z;have rG:(y.setRow q bo).1[q]? =some (.cells bo 41 (0,0)):=by rw[gk,abv];rfl
     simp[go_sem,I,cG,abu,UN,abv,In,abx,Ij,Ik,bQ,rG];exact Z _ _ ⟨rfl,(UL.trans fg).setRow (g:=q) (.inr (by omega)) _⟩
end Go.Proofs.YtoohkhcpboldjaaGreatDoor
