/- Whole numbers sorted. No condition but on their number. -/
import Derived.Test.YtoohkhcpboldjaaGreatDoorSlK
import Derived.Test.YtoohkhcpboldjaaGreatDoorSqC
set_option maxRecDepth 1000000
set_option maxHeartbeats 16000000
set_option linter.unusedSimpArgs false
set_option linter.unusedVariables false
namespace Go.Proofs.YtoohkhcpboldjaaGreatDoor.SS
open Go.RowKit Go.Kin Go.Maps Go.Sort
variable{bb:Bool}
theorem alr:Lib.len8tab.size=256:=by decide
theorem aBB:∀i:Fin 256,(Lib.len8tab[i.val]'(by rw[alr];exact i.isLt)).toNat=bitsLen i.val:=by decide+kernel
theorem UY(n:Nat)(av:n<=255):bitsLen n<=8:=(bitsLen_le_iff n 8).2 (by omega)
theorem aBC(n:Nat)(av:n<=255)(w:World):aP Tryz.prog 233 #[.int .u64 n] w λW w'=>W=.int .i64 (bitsLen n)/\w'=w:=by
 refine bn Tryz.func233 Tryz.ntmps233 λaZ Z=> ?_;have H:¬(4294967296:Int)<=n:=by omega
 have I:¬(65536:Int)<=n:=by omega
 have af:¬(256:Int)<=n:=by omega
 have aU:IntKind.u8.wrap (n:Int)=n:=by simp[IntKind.wrap,IntKind.bits,IntKind.signed];omega
 have bC:(n:Int)<256:=by omega
 have cG:n<256:=by omega
 have V:=UY n av;have key:=aBB ⟨n,cG⟩;have eD:IntKind.i64.wrap (bitsLen n:Int)=(bitsLen n:Int):=by rw[IntKind.wrap_i64];omega
 simp[go_sem,H,I,af,aU,bC,cG,alr,key,eD];exact Z _ _ ⟨rfl,rfl⟩
theorem DJ(n:Nat)(av:n<=255)(w:World):aP Tryz.prog 194 #[.int .u64 n] w λW w'=>W=.int .i64 (bitsLen n)/\w'=w:=by
 refine bn Tryz.func194 Tryz.ntmps194 λaZ Z=> ?_;simp[go_sem];refine(aBC n av w).mono ?_;rintro _ ab ⟨rfl,bH⟩;subst ab;simp[go_sem];exact Z _ _ ⟨rfl,rfl⟩
theorem aBD(n:Nat)(av:n<=255)(w:World):aP Tryz.prog 250 #[.int .i64 n] w λW w'=>W=.int .u64 (2^bitsLen n:Nat)/\w'=w:=by
 refine bn Tryz.func250 Tryz.ntmps250 λaZ Z=> ?_;have H:IntKind.u64.wrap (n:Int)=n:=by rw[IntKind.wrap_u64];omega
 simp[go_sem,H];refine(DJ n av w).mono ?_;rintro _ ab ⟨rfl,bH⟩;subst ab;have V:=UY n av;obtain⟨k,r⟩:=az (bitsLen n);rw[r]at V Z⊢;have ah:2^k<=2^8:=Nat.pow_le_pow_right (by decide) V;have I:((k:Int)<=64):=by omega
 have af:IntKind.u64.wrap ((2:Int)^k)=((2^k:Nat):Int):=by
  rw[show(2:Int)^k=((2^k:Nat):Int)by simp,IntKind.wrap_u64];generalize 2^k=y at ah;omega
 simp[go_sem,I,af];exact Z _ _ ⟨by simp,rfl⟩
theorem aBE(v k:Nat)(aS:v<18446744073709551616)(r:k<=32):bits .and .u64 (v:Int) ((2^k - 1:Nat):Int)=((v%2^k:Nat):Int):=by
 have ah:2^k<=2^32:=Nat.pow_le_pow_right (by decide) r;have hI:∀a:Nat,a<2^64->(BitVec.ofInt 64 (a:Int)).toNat=a:=λa h=>by
  grind
 have aq:v%2^k<2^k:=Nat.mod_lt _ (Nat.two_pow_pos k);show IntKind.u64.wrap ((BitVec.ofInt 64 (v:Int)&&&BitVec.ofInt 64 ((2^k - 1:Nat):Int)).toNat:Int)=_;rw[BitVec.toNat_and,hI v (by omega),hI _ (by omega),Nat.and_two_pow_sub_one_eq_mod,IntKind.wrap_u64];omega
theorem ab3(x y:Int):∃z:Nat,z<18446744073709551616/\bits .xor .u64 x y=z:=by
 have h:∃a:Int,bits .xor .u64 x y=IntKind.u64.wrap a:=⟨_,rfl⟩;obtain⟨a,am⟩:=h;rw[IntKind.wrap_u64]at am;exact⟨(bits .xor .u64 x y).toNat,by omega,by omega⟩
theorem aBF{bl:TypeId}(J x:Nat)(w:World)(h:w.1[J]? =some (.cells #[.int .u64 x] bl (0,0))):aP Tryz.prog 251 #[.pointer (some ⟨J,0,none⟩)] w λW w'=>∃y:Nat,y<18446744073709551616/\W=.int .u64 y/\w'.1[J]? =some (.cells #[.int .u64 y] bl (0,0))/\D (aj J) w w':=by
 refine bn Tryz.func251 Tryz.ntmps251 λaZ Z=> ?_;have st:∀{u:World} {x y:Nat},u.1[J]? =some (.cells #[.int .u64 x] bl (0,0))->(u.setCell ⟨J,0,none⟩ (.int .u64 y)).1[J]? =some (.cells #[.int .u64 y] bl (0,0))/\D (aj J) u (u.setCell ⟨J,0,none⟩ (.int .u64 y)):=λ{u x y} an=>by
  refine⟨?_,(D.refl (aj J) u).setCell (p:=⟨J,0,none⟩) (.inl rfl) _⟩
  simp_all
 have fG:=aG h 0;have f0:=dD h 0;obtain⟨gM,aJf,aK⟩:=ab3 x (IntKind.u64.wrap ((x:Int)*8192));simp[go_sem];refine cD [A 0,A 1,A 2,A 3,A 4,A 5,A 6,A 7,A 8,(9,some [])] ?_;simp[go_sem,fG,f0,aK];obtain⟨H,a'⟩:=st (y:=gM) h;revert H a';generalize w.setCell ⟨J,0,none⟩ (.int .u64 gM)=ab;intro H a';have aI:=aG H 0;have a_:=dD H 0;obtain⟨gN,FU,aW⟩:=ab3 gM ((gM:Int) / 128);refine cD [A 0,A 1,A 2,A 3,A 4,A 5,A 6,A 7,A 8,(9,some [])] ?_;simp[go_sem,aI,a_,aW];obtain⟨I,aX⟩:=st (y:=gN) H;revert I aX;generalize ab.setCell ⟨J,0,none⟩ (.int .u64 gN)=ai;intro I aX;have aA:=aG I 0;have bh:=dD I 0;obtain⟨iO,wN,dt⟩:=ab3 gN (IntKind.u64.wrap ((gN:Int)*131072));refine cD [A 0,A 1,A 2,A 3,A 4,A 5,A 6,A 7,A 8,(9,some [])] ?_;simp[go_sem,aA,bh,dt];obtain⟨af,bq⟩:=st (y:=iO) I;revert af bq;generalize ai.setCell ⟨J,0,none⟩ (.int .u64 iO)=aC;intro af bq;exact Z _ _ ⟨iO,wN,rfl,af,by(repeat apply D.drew);exact(a'.trans aX).trans bq⟩
section
variable{w u:World}{blk aQ i j:Nat}{d au:Array (E bb)}{x y:(E bb)}
theorem aBG(h:dm (c' _) w blk d)(a b cap:Nat)(fE:a<b)(V:b<=d.size)(cL:d.size<=255):
  aP Tryz.prog (aBf d) #[dI blk d.size cap,.int .i64 a,.int .i64 b] w λ_ w'=>∃c_,dm (c' _) w' blk c_/\PermIn a b d c_/\D (aj blk) w w':=by
 cases bb
 all_goals
  first|refine bn Tryz.func227 Tryz.ntmps227 λaZ Z=> ?_|refine bn Tryz.func275 Tryz.ntmps275 λaZ Z=> ?_
  obtain⟨aQ,dE⟩:=az (d.size);rw[dE]at V cL⊢;obtain⟨ba,db⟩:=az (b - 1);have PY:=en ((b:Int) - 1) ba (by omega) (by omega);simp[go_sem,PY];refine du (λJ f u=>∃i j au,J=j+1 - i/\a<=i/\i<=b/\j<b/\f 0=dI blk aQ cap/\f 6=.int .i64 i/\f 7=.int .i64 j/\au.size=aQ/\dm (c' _) u blk au/\PermIn a b d au/\D (aj blk) w u) (ba+1 - a)
   ⟨a,ba,d,rfl,by omega,by omega,by omega,by simp,by simp,by simp,dE,h,permIn_refl _ _ _,D.refl _ _⟩ ?_
  rintro cJ bK _ f u ⟨i,j,au,rfl,abV,abW,aBH,f0,f6,cg,r,an,dZ,aJ⟩;by_cases aO:i<j
  ·have wT:(i:Int)<j:=by omega
   obtain⟨q,aq⟩:∃q,j=q+1:=⟨j - 1,by omega⟩;have kJ:=en ((j:Int) - 1) q (by omega) (by omega);have gO:=en ((i:Int)+1) (i+1) (by omega) (by omega);have iG:i<aQ:=by omega
   have hB:j<aQ:=by omega
   obtain⟨x,M,cx,qi,hC⟩:=rd an r iG;obtain⟨y,ar,fg,qV,kf⟩:=rd an r hB;obtain⟨gi,eH,gX⟩:=sI an r iG hB M ar;simp only[mm,mn]at gi gX;obtain⟨rB,iu⟩:=Ce an r hB i y;simp only[mm,mn]at iu;simp[go_sem,f6,cg,aO,wT];refine cD [A 0,A 1,A 2,A 3,A 4,A 5,A 6,A 7,A 8,A 9,A 10,A 11,A 12,(13,some [2,3]),A 14,(15,some [])] ?_;simp[go_sem,f0,f6,cg,iG,qi,hB,qV,cx,fg,hC,kf,iu,gO,kJ];exact cH.intro (q+1 -(i+1)) (by omega) (bK _ _ _ ⟨i+1,q,_,rfl,by omega,by omega,by omega,by simp[f0],by simp,by simp,eH,gi,permIn_trans _ _ _ _ _ dZ (swp_permIn au a b i j abV (by omega) (by omega) aBH (by omega)),by(repeat apply D.drew);exact aJ.trans gX⟩)
  ·have wT:¬(i:Int)<j:=by omega
   simp[go_sem,f6,cg,aO,wT];exact Z _ _ ⟨au,an,dZ,aJ⟩
theorem aBI(h:dm (c' _) w blk d)(a b cap:Nat)(fE:a+8<=b)(V:b<=d.size)(cL:d.size<=255):
  aP Tryz.prog (aBg d) #[dI blk d.size cap,.int .i64 a,.int .i64 b] w λ_ w'=>∃c_,dm (c' _) w' blk c_/\PermIn a b d c_/\D (aj blk) w w':=by
 cases bb
 all_goals
  first|refine bn Tryz.func225 Tryz.ntmps225 λaZ Z=> ?_|refine bn Tryz.func273 Tryz.ntmps273 λaZ Z=> ?_
  obtain⟨aQ,dE⟩:=az (d.size);rw[dE]at V cL⊢;obtain⟨l,al⟩:=az (b - a);have zx:=en ((b:Int) - a) l (by omega) (by omega);have eb:(8:Int)<=l:=by omega
  have DR:8<=l:=by omega
  have Qf:IntKind.u64.wrap (l:Int)=l:=by rw[IntKind.wrap_u64];omega
  have aY:=(D.refl ak w).alloc (.cells #[.int .u64 l] 397);have fV:=cl w (.cells #[.int .u64 l] 397);have am:=h.ch aY id;have vF:w.1.size≠blk:=λe=>by have:=h.lt;omega
  simp[go_sem,zx,eb,DR,Qf];obtain⟨J,ap⟩:=az (w.1.size);rw[ap]at fV vF⊢;generalize w.alloc (.cells #[.int .u64 l] 397)=ab at*;have Iz:D (aj blk) w ab:=aY.mono λ_ _ e=>e.elim;obtain⟨k,r⟩:=az (bitsLen l);have AG:k<=8:=by rw[<-r];exact UY l (by omega)
  have nP:2^k<=2*l:=by rw[<-r];exact two_pow_bitsLen_le (by omega)
  have oB:0<2^k:=Nat.two_pow_pos k;refine(aBD l (by omega) ab).mono ?_;rintro _ ai ⟨rfl,hd⟩;subst ai;rw[r];obtain⟨hq,hh⟩:=az (2^k);have als:∀y:Nat,y<18446744073709551616->bits .and .u64 (y:Int) ((hq - 1:Nat):Int)=((y%hq:Nat):Int):=λy ar=>by
   rw[<-hh];exact aBE y k ar (by omega)
  rw[hh]at nP oB⊢;obtain⟨eQ,GZ⟩:=az (l / 4);have DQ:((l:Int).tdiv 4)=eQ:=by rw[Int.tdiv_eq_ediv_of_nonneg (by omega)];omega
  have mb:IntKind.i64.wrap (eQ:Int)=eQ:=en _ eQ rfl (by omega);obtain⟨p,ah⟩:=az (eQ*2);have uk:=en ((eQ:Int)*2) p (by omega) (by omega);obtain⟨s,aw⟩:=az (a+p);have Qg:=en ((a:Int)+p) s (by omega) (by omega);obtain⟨bt,gE⟩:=az (s - 1);have aBJ:=en ((s:Int) - 1) bt (by omega) (by omega);obtain⟨cw,jg⟩:=az (s+1);have alt:=en ((s:Int)+1) cw (by omega) (by omega);obtain⟨FD,aal⟩:=az (hq - 1);have TS:IntKind.u64.wrap ((hq:Int) - 1)=FD:=by rw[IntKind.wrap_u64];omega
  rw[aal]at als;simp[go_sem,DQ,mb,uk,Qg,aBJ];refine du (λaBK f u=>∃i y au,aBK=cw+1 - i/\bt<=i/\i<=cw+1/\f 0=dI blk aQ cap/\f 1=.int .i64 a/\f 6=.int .i64 l/\f 7=.pointer (some ⟨J,0,none⟩)/\f 8=.int .u64 hq/\f 9=.int .i64 i/\u.1[J]? =some (.cells #[.int .u64 (y:Nat)] 397 (0,0))/\au.size=aQ/\dm (c' _) u blk au/\PermIn a b d au/\D (aj blk) w u) (cw+1 - bt)
   ⟨bt,l,d,rfl,by omega,by omega,by simp,by simp,by simp,by simp,by simp,by simp,fV,dE,am,permIn_refl _ _ _,Iz⟩ ?_
  clear fV am aY Iz h;rintro cJ bK _ f u ⟨i,y,au,rfl,aJg,xM,f0,a_,f6,cg,bz,ef,rO,eH,an,dZ,aJ⟩;by_cases dR:i<=cw
  ·have gZ:(i:Int)<=cw:=by omega
   simp[go_sem,ef,a_,f6,DQ,mb,uk,Qg,alt,dR,gZ,cg];refine(aBF J y u rO).mono ?_;rintro _ aC ⟨iO,wN,rfl,rO,aE⟩;replace an:=an.ch aE vF.symm;have vD:D (aj blk) w aC:=aJ.bJ aE λj F e=>by simp only[aj]at e;omega
   obtain⟨o,aB⟩:=az (iO%hq);have aJh:o<hq:=by rw[<-aB];exact Nat.mod_lt _ oB
   have aH:=als iO wN;rw[aB]at aH;have aBL:=en (o:Int) o rfl (by omega);obtain⟨hL,wg⟩:=az ((if l<=o then o - l else o));have aJi:hL<l:=by
    rw[<-wg];split<;>omega
   obtain⟨e,aV⟩:=az (a+hL);have Gd:=en ((a:Int)+hL) e (by omega) (by omega);have iG:i<aQ:=by omega
   have bX:e<aQ:=by omega
   obtain⟨x,M,cx,qi,hC⟩:=rd an eH iG;obtain⟨z,hz,mP,uB,ip⟩:=rd an eH bX;obtain⟨gi,jX,gX⟩:=sI an eH iG bX M hz;simp only[mm,mn]at gi gX;obtain⟨rB,iu⟩:=Ce an eH bX i z;simp only[mm,mn]at iu;have gO:=en ((i:Int)+1) (i+1) (by omega) (by omega);have UZ:=permIn_trans _ _ _ _ _ dZ (swp_permIn au a b i e (by omega) (by omega) (by omega) (by omega) (by omega));have alu:∀gw jf:Value,(((aC.setCell ⟨blk,i,none⟩ gw).setCell ⟨blk,e,none⟩ jf)).1[J]? =some (.cells #[.int .u64 (iO:Nat)] 397 (0,0)):=λgw jf=>by
    rw[t_ _ _ _ _ vF,t_ _ _ _ _ vF];exact rO
   simp[go_sem,bz,TS,aH,aBL,f6];by_cases Lv:l<=o
   ·have ab4:(l:Int)<=o:=by omega
    rw[if_pos Lv]at wg;have aBM:=en ((o:Int) - l) hL (by omega) (by omega);simp[go_sem,Lv,ab4,f6,aBM];refine cD [A 0,A 1,A 2,A 3,A 4,A 5,A 6,A 7,A 8,A 9,A 10,A 11,A 12,A 13,A 14,A 15,A 16,(17,some [2,3,4,5]),A 18,(19,some [])] ?_;simp[go_sem,f0,a_,ef,Gd,iG,qi,bX,uB,cx,mP,hC,ip,iu,gO];exact cH.intro (cw+1 -(i+1)) (by omega) (bK _ _ _ ⟨i+1,iO,_,rfl,by omega,by omega,by simp[f0],by simp[a_],by simp[f6],by simp[cg],by simp[bz],by simp,alu _ _,jX,gi,UZ,by(repeat apply D.drew);exact vD.trans gX⟩)
   ·have ab4:¬(l:Int)<=o:=by omega
    rw[if_neg Lv]at wg;subst hL;simp[go_sem,Lv,ab4];refine cD [A 0,A 1,A 2,A 3,A 4,A 5,A 6,A 7,A 8,A 9,A 10,A 11,A 12,A 13,A 14,A 15,A 16,(17,some [2,3,4,5]),A 18,(19,some [])] ?_;simp[go_sem,f0,a_,ef,Gd,iG,qi,bX,uB,cx,mP,hC,ip,iu,gO];exact cH.intro (cw+1 -(i+1)) (by omega) (bK _ _ _ ⟨i+1,iO,_,rfl,by omega,by omega,by simp[f0],by simp[a_],by simp[f6],by simp[cg],by simp[bz],by simp,alu _ _,jX,gi,UZ,by(repeat apply D.drew);exact vD.trans gX⟩)
  ·have gZ:¬(i:Int)<=cw:=by omega
   simp[go_sem,ef,a_,f6,DQ,mb,uk,Qg,alt,dR,gZ];exact Z _ _ ⟨au,an,dZ,aJ⟩
end
variable{bb:Bool}
section
variable{w u:World}{blk aQ s:Nat}{d:Array (E bb)}{bl:TypeId}
def Am(w:World)(s:Nat)(bl:TypeId):Prop:=∃v:Int,w.1[s]? =some (.cells #[.int .i64 v] bl (0,0))
theorem Am.set(h:Am w s bl)(v:Int):Am (w.setCell ⟨s,0,none⟩ (.int .i64 v)) s bl:=by
 obtain⟨x,h⟩:=h;refine⟨v,?_⟩
 simp_all
theorem ab5(h:dm (c' _) w blk d)(r:d.size=aQ)(aw:Am w s bl)(IA:s≠blk)(a b cap:Nat)(am:a<aQ)(V:b<aQ):
  aP Tryz.prog (aBh d) #[dI blk aQ cap,.int .i64 a,.int .i64 b,.pointer (some ⟨s,0,none⟩)] w λW w'=>∃x y:Nat,W=.tuple #[.int .i64 x,.int .i64 y]/\((x=a/\y=b)\/(x=b/\y=a))/\Am w' s bl/\D (aj s) w w':=by
 cases bb
 all_goals
  first|refine bn Tryz.func280 Tryz.ntmps280 λaZ Z=> ?_|refine bn Tryz.func289 Tryz.ntmps289 λaZ Z=> ?_
  obtain⟨x,M,cx,ab6,_⟩:=rd h r am;obtain⟨y,ar,fg,sf,_⟩:=rd h r V;obtain⟨v,aS⟩:=id aw;have fG:=aG aS 0;have f0:=dD aS 0;simp[go_sem];refine cD [A 0,A 1,A 2,A 3,A 4,A 5,A 6,A 7,(8,some [])] ?_;simp[go_sem,am,ab6,V,sf,cx,fg];refine(tC y x _).mono ?_;rintro _ ai ⟨rfl,hd⟩;subst ai
  cases lt y x with
  |true=>
   simp[go_sem,fG,f0];refine Z _ _ ⟨b,a,rfl,.inr ⟨rfl,rfl⟩,aw.set _,?_⟩
   (repeat apply D.drew)
   exact(D.refl (aj s) w).setCell (p:=⟨s,0,none⟩) (.inl rfl) _
  |false=>
   simp[go_sem];exact Z _ _ ⟨a,b,rfl,.inl ⟨rfl,rfl⟩,aw,(D.refl _ _).drew⟩
theorem ab7(h:dm (c' _) w blk d)(r:d.size=aQ)(aw:Am w s bl)(IA:s≠blk)(a b c cap:Nat)(am:a<aQ)(V:b<aQ)(T:c<aQ):
  aP Tryz.prog (aBi d) #[dI blk aQ cap,.int .i64 a,.int .i64 b,.int .i64 c,.pointer (some ⟨s,0,none⟩)] w λW w'=>∃x:Nat,W=.int .i64 x/\(x=a\/x=b\/x=c)/\Am w' s bl/\D (aj s) w w':=by
 cases bb
 all_goals
  first|refine bn Tryz.func253 Tryz.ntmps253 λaZ Z=> ?_|refine bn Tryz.func287 Tryz.ntmps287 λaZ Z=> ?_
  have av:¬aj s blk:=λe=>IA e.symm;simp[go_sem];refine(ab5 h r aw IA a b cap am V).mono ?_;rintro _ ab ⟨a1,ba,rfl,H,gE,aI⟩;simp[go_sem];refine(ab5 (h.ch aI av) r gE IA ba c cap (by omega) T).mono ?_;rintro _ ai ⟨cC,aA,rfl,I,jg,aX⟩;simp[go_sem];refine(ab5 ((h.ch aI av).ch aX av) r jg IA a1 cC cap (by omega) (by omega)).mono ?_;rintro _ aC ⟨a3,cm,rfl,af,KZ,bq⟩;simp[go_sem];exact Z _ _ ⟨cm,rfl,by omega,KZ,(aI.trans aX).trans bq⟩
theorem ab8(h:dm (c' _) w blk d)(r:d.size=aQ)(dE:aQ<=255)(aw:Am w s bl)(IA:s≠blk)(a cap:Nat)(am:1<=a)(V:a+1<aQ):
  aP Tryz.prog (aBj d) #[dI blk aQ cap,.int .i64 a,.pointer (some ⟨s,0,none⟩)] w λW w'=>∃x:Nat,W=.int .i64 x/\a<=x+1/\x<=a+1/\Am w' s bl/\D (aj s) w w':=by
 cases bb
 all_goals
  first|refine bn Tryz.func252 Tryz.ntmps252 λaZ Z=> ?_|refine bn Tryz.func286 Tryz.ntmps286 λaZ Z=> ?_
  obtain⟨q,aq⟩:=az (a - 1);obtain⟨p,ah⟩:=az (a+1);have ts:=en ((a:Int) - 1) q (by omega) (by omega);have uk:=en ((a:Int)+1) p (by omega) (by omega);simp[go_sem,ts,uk];refine(ab7 h r aw IA q a p cap (by omega) (by omega) (by omega)).mono ?_;rintro _ ab ⟨x,rfl,M,gE,aI⟩;simp[go_sem];exact Z _ _ ⟨x,rfl,by omega,by omega,gE,aI⟩
theorem aBN(h:dm (c' _) w blk d)(a b cap:Nat)(fE:a+8<=b)(V:b<=d.size)(cL:d.size<=255):
  aP Tryz.prog (aBk d) #[dI blk d.size cap,.int .i64 a,.int .i64 b] w λW w'=>∃(p:Nat) (t:Nat),W=.tuple #[.int .i64 p,.int .i64 t]/\a<=p/\p<b/\t<3/\D ak w w':=by
 cases bb
 all_goals
  first|refine bn Tryz.func226 Tryz.ntmps226 λaZ Z=> ?_|refine bn Tryz.func274 Tryz.ntmps274 λaZ Z=> ?_
  obtain⟨aQ,dE⟩:=az (d.size);rw[dE]at V cL⊢;obtain⟨l,al⟩:=az (b - a);have zx:=en ((b:Int) - a) l (by omega) (by omega);obtain⟨eQ,GZ⟩:=az (l / 4);have DQ:((l:Int).tdiv 4)=eQ:=by rw[Int.tdiv_eq_ediv_of_nonneg (by omega)];omega
  have mb:IntKind.i64.wrap (eQ:Int)=eQ:=en _ eQ rfl (by omega);obtain⟨n_,nP⟩:=az (eQ*2);have ab9:=en ((eQ:Int)*2) n_ (by omega) (by omega);obtain⟨wJ,ajh⟩:=az (eQ*3);have aBO:=en ((eQ:Int)*3) wJ (by omega) (by omega);obtain⟨i,aa⟩:=az (a+eQ);have gO:=en ((a:Int)+eQ) i (by omega) (by omega);obtain⟨j,F⟩:=az (a+n_);have kJ:=en ((a:Int)+n_) j (by omega) (by omega);obtain⟨k,r⟩:=az (a+wJ);have eo:=en ((a:Int)+wJ) k (by omega) (by omega);have eb:(8:Int)<=l:=by omega
  have DR:8<=l:=by omega
  have aY:=(D.refl ak w).alloc (.cells #[.int .i64 0] 3);have fV:=cl w (.cells #[.int .i64 0] 3);have am:=h.ch aY id;have vF:w.1.size≠blk:=λe=>by have:=h.lt;omega
  simp[go_sem,zx,DQ,mb,ab9,aBO,gO,kJ,eo,eb,DR];obtain⟨s,aw⟩:=az (w.1.size);rw[aw]at fV vF⊢;generalize w.alloc (.cells #[.int .i64 0] 3)=ab at*;have T:Am ab s 3:=⟨0,fV⟩;have av:¬aj s blk:=λe=>vF e.symm;have gz:∀{u:World},D (aj s) ab u->D ak w u:=λ{u} c=>aY.bJ c λx M e=>by simp only[aj]at e;omega
  obtain⟨bg,bP⟩:∃bg:(Nat->Value)->World->Prop,bg=λf u=>∃p:Nat,a<=p/\p<b/\f 11=.int .i64 p/\f 9=.pointer (some ⟨s,0,none⟩)/\Am u s 3/\D ak w u:=⟨_,rfl⟩;by_cases wQ:50<=l
  ·have Iy:(50:Int)<=l:=by omega
   simp[go_sem,wQ,Iy];refine(ab8 am dE cL T vF i cap (by omega) (by omega)).mono ?_;rintro _ ai ⟨aBP,rfl,Iw,pw,ki,aA⟩;simp[go_sem];refine(ab8 (am.ch aA av) dE cL ki vF j cap (by omega) (by omega)).mono ?_;rintro _ aC ⟨aBQ,rfl,ab_,mA,uC,aE⟩;simp[go_sem];refine(ab8 ((am.ch aA av).ch aE av) dE cL uC vF k cap (by omega) (by omega)).mono ?_;rintro _ be ⟨lo,rfl,oI,jX,An,bv⟩;simp[go_sem];refine(ab7 (((am.ch aA av).ch aE av).ch bv av) dE An vF aBP aBQ lo cap (by omega) (by omega) (by omega)).mono ?_;rintro _ bw ⟨p,rfl,ah,⟨v,aS⟩,bx⟩;have gl:=gz (((aA.trans aE).trans bv).trans bx);have fG:=aG aS 0;by_cases bf:v=0
   ·simp[go_sem,fG,bf];exact Z _ _ ⟨p,1,rfl,by omega,by omega,by omega,gl⟩
   have oR:(v==0)=false:=beq_false_of_ne bf;by_cases mo:v=12
   ·simp[go_sem,fG,bf,oR,mo];exact Z _ _ ⟨p,2,rfl,by omega,by omega,by omega,gl⟩
   have Gg:(v==12)=false:=beq_false_of_ne mo;simp[go_sem,fG,bf,oR,mo,Gg];exact Z _ _ ⟨p,0,rfl,by omega,by omega,by omega,gl⟩
  ·have Iy:¬(50:Int)<=l:=by omega
   simp[go_sem,wQ,Iy];refine(ab7 am dE T vF i j k cap (by omega) (by omega) (by omega)).mono ?_;rintro _ bw ⟨p,rfl,ah,⟨v,aS⟩,bx⟩;have gl:=gz bx;have fG:=aG aS 0;by_cases bf:v=0
   ·simp[go_sem,fG,bf];exact Z _ _ ⟨p,1,rfl,by omega,by omega,by omega,gl⟩
   have oR:(v==0)=false:=beq_false_of_ne bf;by_cases mo:v=12
   ·simp[go_sem,fG,bf,oR,mo];exact Z _ _ ⟨p,2,rfl,by omega,by omega,by omega,gl⟩
   have Gg:(v==12)=false:=beq_false_of_ne mo;simp[go_sem,fG,bf,oR,mo,Gg];exact Z _ _ ⟨p,0,rfl,by omega,by omega,by omega,gl⟩
end
variable{bb:Bool}
section
variable{w u:World}{blk aQ:Nat}{d:Array (E bb)}
theorem aBR(cap:Nat):∀(n:Nat) (w:World) (d:Array (E bb)) (a b limit:Nat),b - a<=n->dm (c' _) w blk d->a<=b->b<=d.size->d.size<=255->limit<=255->Go.Sort.Below lt a b d->
  aP Tryz.prog (alk d) #[dI blk d.size cap,.int .i64 a,.int .i64 b,.int .i64 limit] w λ_ w'=>∃c_,dm (c' _) w' blk c_/\PermIn a b d c_/\SortedIn lt a b c_/\D (aj blk) w w':=by
 cases bb
 all_goals
  intro n
  induction n using Nat.strongRecOn with
  |_ n bG=>
  intro w d a0 bj aBS av h fE V cL Ao eR
  first|refine bn Tryz.func193 Tryz.ntmps193 λaZ Z=> ?_|refine bn Tryz.func246 Tryz.ntmps246 λaZ Z=> ?_
  obtain⟨aQ,dE⟩:=az (d.size);rw[dE]at V cL⊢;have alv:∀{u:World} {au:Array (E _)} {a b limit:Nat},au.size=aQ->b - a<n->dm (c' _) u blk au->a<=b->b<=aQ->limit<=255->Go.Sort.Below lt a b au->aP Tryz.prog (alk au) #[dI blk aQ cap,.int .i64 a,.int .i64 b,.int .i64 limit] u λ_ w'=>∃c_,dm (c' _) w' blk c_/\PermIn a b au c_/\SortedIn lt a b c_/\D (aj blk) u w':=λ{u au a b limit} H I af aU bC cG eD=>by
   have:=bG (b - a) I u au a b limit (Nat.le_refl _) af aU (by omega) (by omega) cG eD;rw[H]at this;exact this
  simp[go_sem];refine du (λJ f u=>∃a b limit rM vz au,J=b - a/\a0<=a/\a<=b/\b<=bj/\limit<=255/\f 0=dI blk aQ cap/\f 1=.int .i64 a/\f 2=.int .i64 b/\f 3=.int .i64 (limit:Nat)/\f 8=.bool rM/\f 9=.bool vz/\au.size=aQ/\dm (c' _) u blk au/\Go.Sort.Below lt a b au/\(∀c_,PermIn a b au c_->SortedIn lt a b c_->PermIn a0 bj d c_/\SortedIn lt a0 bj c_)/\D (aj blk) w u) (bj - a0)
   ⟨a0,bj,aBS,true,true,d,rfl,Nat.le_refl _,fE,Nat.le_refl _,Ao,by simp,by simp,by simp,by simp,by simp,by simp,dE,h,eR,λc_ H I=>⟨H,I⟩,D.refl _ _⟩ ?_
  clear h eR Ao;rintro cJ bK _ f u ⟨a,b,limit,rM,vz,au,rfl,ya,Lp,oW,Ao,f0,a_,bh,bV,bz,ef,r,an,eR,ff,aJ⟩;obtain⟨l,al⟩:=az (b - a);have zx:=en ((b:Int) - a) l (by omega) (by omega);by_cases mo:l<=12
  ·have Gg:(l:Int)<=12:=by omega
   have aa:=aBp an a b cap Lp (by omega) (by omega);rw[r]at aa;simp[go_sem,f0,a_,bh,zx,mo,Gg];refine aa.mono ?_;rintro _ ai ⟨I,aA⟩;obtain⟨nZ,n_⟩:=insertionSort_holds Qb au a b Lp (by omega);obtain⟨cB,cb⟩:=ff _ nZ n_;simp[go_sem];exact Z _ _ ⟨_,I,cB,cb,aJ.trans aA⟩
  have Gg:¬(l:Int)<=12:=by omega
  by_cases nY:limit=0
  ·have Qh:(limit:Int)=0:=by omega
   have aa:=aBs an a b cap (by omega) (by omega) (by omega);rw[r]at aa;simp[go_sem,f0,a_,bh,bV,zx,mo,Gg,nY,Qh];refine aa.mono ?_;rintro _ ai ⟨I,aA⟩;obtain⟨nZ,n_⟩:=heapSort_holds Qb au a b Lp (by omega);obtain⟨cB,cb⟩:=ff _ nZ n_;simp[go_sem];exact Z _ _ ⟨_,I,cB,cb,aJ.trans aA⟩
  have Qh:¬(limit:Int)=0:=by omega
  have alw:((limit:Int)==0)=false:=beq_false_of_ne Qh;have eP:∀{x:Array (E _)} {c d:Nat},PermIn c d au x->x.size=aQ:=λh=>by rw[h.1,r]
  obtain⟨bg,bP⟩:∃bg:(Nat->Value)->World->Prop,bg=λf u=>∃limit cK,limit<=255/\f 0=dI blk aQ cap/\f 1=.int .i64 a/\f 2=.int .i64 b/\f 3=.int .i64 (limit:Nat)/\f 8=.bool rM/\f 9=.bool vz/\f 10=.int .i64 l/\dm (c' _) u blk cK/\PermIn a b au cK/\D (aj blk) w u:=⟨_,rfl⟩;simp[go_sem,f0,a_,bh,bV,bz,zx,mo,Gg,nY,Qh,alw];refine Hj bg ?_ ?_
  ·cases rM with
   |true=>
    simp[go_sem];rw[bP];exact⟨limit,au,Ao,by simp[f0],by simp[a_],by simp[bh],by simp[bV],by simp[bz],by simp[ef],by simp,an,permIn_refl _ _ _,aJ⟩
   |false=>
    have aa:=aBI an a b cap (by omega) (by omega) (by omega);rw[r]at aa;obtain⟨U_,KX⟩:∃U_,limit=U_+1:=⟨limit - 1,by omega⟩;have zk:=en ((limit:Int) - 1) U_ (by omega) (by omega);simp[go_sem,f0,a_,bh];refine aa.mono ?_;rintro _ ai ⟨cK,I,dZ,aA⟩;simp[go_sem,bV,zk];rw[bP];exact⟨U_,cK,by omega,by simp[f0],by simp[a_],by simp[bh],by simp,by simp[bz],by simp[ef],by simp,I,dZ,aJ.trans aA⟩
  rw[bP];clear bP bg f0 a_ bh bV bz ef an aJ Ao nY Qh alw;clear limit f u;rintro f u ⟨limit,cK,Ao,f0,a_,bh,bV,bz,ef,eE,an,qW,aJ⟩;have ah:=aBN an a b cap (by omega) (by rw[eP qW];omega) (by rw[eP qW];omega);rw[eP qW]at ah;simp[go_sem,f0,a_,bh];refine ah.mono ?_;rintro _ ai ⟨pv,t,rfl,fW,nP,aBT,aA⟩;have kr:D (aj blk) w ai:=aJ.trans (aA.mono λ_ _ e=>e.elim);replace an:=an.ch aA id;clear aJ aA ah;simp[go_sem];obtain⟨bg,bP⟩:∃bg:(Nat->Value)->World->Prop,bg=λf u=>∃pv t cK,a<=pv/\pv<b/\f 0=dI blk aQ cap/\f 1=.int .i64 a/\f 2=.int .i64 b/\f 3=.int .i64 (limit:Nat)/\f 8=.bool rM/\f 9=.bool vz/\f 10=.int .i64 l/\f 11=.int .i64 (pv:Nat)/\f 12=.int .i64 (t:Nat)/\dm (c' _) u blk cK/\PermIn a b au cK/\D (aj blk) w u:=⟨_,rfl⟩;refine Hj bg ?_ ?_
  ·by_cases I:t=2
   ·subst t;have aa:=aBG an a b cap (by omega) (by rw[eP qW];omega) (by rw[eP qW];omega);rw[eP qW]at aa;obtain⟨ba,db⟩:=az (b - 1);have aBU:=en ((b:Int) - 1) ba (by omega) (by omega);obtain⟨nZ,aJj⟩:=az (pv - a);have aBV:=en ((pv:Int) - a) nZ (by omega) (by omega);obtain⟨n_,aJk⟩:=az (ba - nZ);have ab9:=en ((ba:Int) - nZ) n_ (by omega) (by omega);simp[go_sem,f0,a_,bh];refine aa.mono ?_;rintro _ aC ⟨hr,af,UZ,aE⟩;simp[go_sem,a_,bh,aBU,aBV,ab9];rw[bP];exact⟨n_,1,hr,by omega,by omega,by simp[f0],by simp[a_],by simp[bh],by simp[bV],by simp[bz],by simp[ef],by simp[eE],by simp,by simp,af,permIn_trans _ _ _ _ _ qW UZ,kr.trans aE⟩
   ·have je:¬(t:Int)=2:=by omega
    have aBW:((t:Int)==2)=false:=beq_false_of_ne je;simp[go_sem,I,je,aBW];rw[bP];exact⟨pv,t,cK,fW,nP,by simp[f0],by simp[a_],by simp[bh],by simp[bV],by simp[bz],by simp[ef],by simp[eE],by simp,by simp,an,qW,kr⟩
  rw[bP];clear bP bg f0 a_ bh bV bz ef eE an kr qW fW nP aBT;clear t pv cK f u;rintro f u ⟨pv,t,cK,fW,nP,f0,a_,bh,bV,bz,ef,eE,gD,dA,an,qW,aJ⟩;obtain⟨bg,bP⟩:∃bg:(Nat->Value)->World->Prop,bg=λf u=>∃cK,f 0=dI blk aQ cap/\f 1=.int .i64 a/\f 2=.int .i64 b/\f 3=.int .i64 (limit:Nat)/\f 8=.bool rM/\f 9=.bool vz/\f 10=.int .i64 l/\f 11=.int .i64 (pv:Nat)/\dm (c' _) u blk cK/\PermIn a b au cK/\D (aj blk) w u:=⟨_,rfl⟩;have li:bg f u:=by
   rw[bP];exact⟨cK,f0,a_,bh,bV,bz,ef,eE,gD,an,qW,aJ⟩
  have U':∀f',(∀i,i<19->f' i=f i)->bg f' u:=λf' aV=>by
   rw[bP]
   grind
  have alx:aP Tryz.prog (alj cK) #[dI blk aQ cap,.int .i64 a,.int .i64 b] u λW w'=>W=.bool (partialInsertionSort lt cK a b).2/\dm (c' _) w' blk (partialInsertionSort lt cK a b).1/\D (aj blk) u w':=by
   have:=aBu an a b cap (by omega) (by rw[eP qW];omega) (by rw[eP qW];omega);rw[eP qW]at this;exact this
  obtain⟨ig,fX⟩:=partialInsertionSort_holds Qb cK a b (by omega) (by rw[eP qW];omega) (eR.perm (by omega) qW);rw[Ud];refine aly bg ?_ ?_
  ·cases rM with
   |false=>
    simp[go_sem,bz];exact U' _ λi aa=>by simp only[Lx];repeat rw[if_neg (by omega)]
   |true=>
    cases vz with
    |false=>
     simp[go_sem,bz,ef];exact U' _ λi aa=>by simp only[Lx];repeat rw[if_neg (by omega)]
    |true=>
     by_cases H:t=1
     ·have lT:(t:Int)=1:=by omega
      simp[go_sem,bz,ef,dA,H,f0,a_,bh];refine alx.mono ?_;rintro _ aC ⟨rfl,af,aE⟩
      cases hz:(partialInsertionSort lt cK a b).2 with
      |true=>
       obtain⟨cB,cb⟩:=ff _ (permIn_trans _ _ _ _ _ qW ig) (fX hz);simp[go_sem];exact Z _ _ ⟨_,af,cB,cb,aJ.trans aE⟩
      |false=>
       simp[go_sem];rw[bP];exact⟨_,by simp[f0],by simp[a_],by simp[bh],by simp[bV],by simp[bz],by simp[ef],by simp[eE],by simp[gD],af,permIn_trans _ _ _ _ _ qW ig,aJ.trans aE⟩
     ·have lT:¬(t:Int)=1:=by omega
      have aBX:((t:Int)==1)=false:=beq_false_of_ne lT;simp[go_sem,bz,ef,dA,H,lT,aBX];exact U' _ λi aa=>by simp only[Lx];repeat rw[if_neg (by omega)]
  rw[bP];clear bP bg f0 a_ bh bV bz ef eE gD dA an qW aJ li U' ig fX alx;clear t cK f u;rintro f u ⟨ei,f0,a_,bh,bV,bz,ef,eE,gD,an,dZ,aJ⟩;have Aa:=eP dZ;have alz:=eR.perm (show b<=au.size by omega) dZ;have jA:pv<aQ:=by omega
  obtain⟨y,ar,fg,qU,_⟩:=rd an Aa jA;have Qi:=ale an a b pv cap fW nP (by omega) (by omega);have Va:=alg an a b pv cap fW nP (by omega) (by omega);rw[Aa]at Qi Va;obtain⟨bg,bP⟩:∃bg:(Nat->Value)->World->Prop,bg=λf u=>∃v:Bool,(v=true->0<a/\lt ei[a - 1]! ei[pv]! =false)/\f 0=dI blk aQ cap/\f 1=.int .i64 a/\f 2=.int .i64 b/\f 3=.int .i64 (limit:Nat)/\f 8=.bool rM/\f 9=.bool vz/\f 10=.int .i64 l/\f 11=.int .i64 (pv:Nat)/\f 87=.bool v/\dm (c' _) u blk ei/\D (aj blk) w u/\aP Tryz.prog (alf d) #[dI blk aQ cap,.int .i64 a,.int .i64 b,.int .i64 pv] u (λW w'=>W=.tuple #[.int .i64 (Sort.partition lt ei a b pv).1,.bool (Sort.partition lt ei a b pv).2.1]/\dm (c' _) w' blk (Sort.partition lt ei a b pv).2.2/\D (aj blk) u w')/\
   aP Tryz.prog (alh d) #[dI blk aQ cap,.int .i64 a,.int .i64 b,.int .i64 pv] u (λW w'=>W=.int .i64 (partitionEqual lt ei a b pv).1/\dm (c' _) w' blk (partitionEqual lt ei a b pv).2/\D (aj blk) u w'):=⟨_,rfl⟩
  have sl:∀f' (v:Bool),(v=true->0<a/\lt ei[a - 1]! ei[pv]! =false)->(∀i,i<19->f' i=f i)->f' 87=.bool v->bg f' u.drew:=λf' v aS aV aBY=>by
   have H:=ale (w:=u.drew) (d:=ei) (blk:=blk) an.drew a b pv cap fW nP (by omega) (by omega);have I:=alg (w:=u.drew) (d:=ei) (blk:=blk) an.drew a b pv cap fW nP (by omega) (by omega);rw[Aa]at H I;rw[bP];exact⟨v,aS,by rw[aV 0 (by omega)];exact f0,by rw[aV 1 (by omega)];exact a_,by rw[aV 2 (by omega)];exact bh,by rw[aV 3 (by omega)];exact bV,by rw[aV 8 (by omega)];exact bz,by rw[aV 9 (by omega)];exact ef,by rw[aV 10 (by omega)];exact eE,by grind,aBY,an.drew,aJ.drew,H,I⟩
  rw[Ud,Ud];refine aly bg ?_ ?_
  ·by_cases Ix:0<a
   ·have ab':(0:Int)<a:=by omega
    obtain⟨q,aq⟩:=az (a - 1);have ts:=en ((a:Int) - 1) q (by omega) (by omega);have tE:q<aQ:=by omega
    obtain⟨x,M,cx,Gc,_⟩:=rd an Aa tE;simp[go_sem];refine cD [A 0,A 1,A 2,A 3,A 4,A 5,A 6,A 7,A 8,A 9,A 10,A 11,(12,some []),A 13,A 14] ?_;simp[go_sem,f0,a_,gD,Ix,ab',ts,tE,Gc,jA,qU,cx,fg];refine(tC x y _).mono ?_;rintro _ ai ⟨rfl,hd⟩;subst ai;simp[go_sem];refine sl _ (!lt x y) (λe=>⟨Ix,?_⟩) (λi aa=>by simp only[Lx];repeat rw[if_neg (by omega)]) (by simp)
    grind
   ·have ab':¬(0:Int)<a:=by omega
    simp[go_sem];refine cD [A 0,A 1,A 2,A 3,A 4,A 5,A 6,A 7,A 8,A 9,A 10,A 11,(12,some []),A 13,A 14] ?_;simp[go_sem,f0,a_,Ix,ab'];exact sl _ false (λe=>by cases e) (λi aa=>by simp only[Lx];repeat rw[if_neg (by omega)]) (by simp)
  rw[bP];clear bP bg f0 a_ bh bV bz ef eE gD an aJ sl fg Qi Va;rintro f u ⟨v,aS,f0,a_,bh,bV,bz,ef,eE,gD,alA,an,aJ,Qi,Va⟩
  cases v with
  |true=>
   obtain⟨Ix,Be⟩:=aS rfl;simp[go_sem,alA,f0,a_,bh,gD];refine Va.mono ?_;rintro _ aC ⟨rfl,af,aE⟩;obtain⟨qX,hs,M⟩:∃qX hs,partitionEqual lt ei a b pv=(qX,hs):=⟨_,_,rfl⟩;obtain⟨cB,cb,cj,dw,cu⟩:=round_eq Qb (partitionEqual_holds lt) Ix fW nP (by omega) alz Be M;rw[M]at af⊢;simp[go_sem];refine cH.intro (b - qX) (by omega) (bK _ _ _ ⟨qX,b,limit,rM,vz,hs,rfl,by omega,by omega,by omega,Ao,by simp[f0],by simp,by simp[bh],by simp[bV],by simp[bz],by simp[ef],by omega,af,dw,λc_ a' aX=> ?_,aJ.trans aE⟩);obtain⟨bq,ec⟩:=cu c_ a' aX;exact ff _ (permIn_trans _ _ _ _ _ dZ bq) ec
  |false=>
   obtain⟨qX,Vb,hs,M⟩:∃qX Vb hs,Sort.partition lt ei a b pv=(qX,Vb,hs):=⟨_,_,_,rfl⟩;obtain⟨cB,cb,cj,dw,cu,cM,kY⟩:=round_part Qb (partition_holds lt) fW nP (by omega) alz M;rw[M]at Qi;have fs:hs.size=aQ:=by omega
   simp[go_sem,alA,f0,a_,bh,gD];refine Qi.mono ?_;rintro _ aC ⟨rfl,af,aE⟩;obtain⟨fo,xv⟩:=az (qX - a);obtain⟨Qj,FE⟩:=az (b - qX);have alB:=en ((qX:Int) - a) fo (by omega) (by omega);have alC:=en ((b:Int) - qX) Qj (by omega) (by omega);have zk:=en ((qX:Int)+1) (qX+1) (by omega) (by omega);obtain⟨Cf,Wl⟩:=az (l / 8);have DQ:((l:Int).tdiv 8)=Cf:=by rw[Int.tdiv_eq_ediv_of_nonneg (by omega)];omega
   have EO:IntKind.i64.wrap (Cf:Int)=Cf:=en _ Cf rfl (by omega);have vD:=aJ.trans aE;by_cases alD:fo<Qj
   ·have aca:(fo:Int)<Qj:=by omega
    simp[go_sem,f0,a_,bh,bV,eE,alB,alC,DQ,EO,alD,aca];refine(alv (a:=a) (b:=qX) (limit:=limit) fs (by omega) af cB (by omega) Ao dw).mono ?_;rintro _ be ⟨mc,bC,a',aX,bv⟩;obtain⟨bq,ec⟩:=cM mc a' aX;simp[go_sem,zk];refine cH.intro (b -(qX+1)) (by omega) (bK _ _ _ ⟨qX+1,b,limit,decide ((Cf:Int)<=fo),Vb,mc,rfl,by omega,by omega,by omega,Ao,by simp[f0],by simp,by simp[bh],by simp[bV],by simp,by simp,by rw[a'.1,fs],bC,bq,λc_ ft iI=> ?_,vD.trans bv⟩);obtain⟨lP,np⟩:=ec c_ ft iI;exact ff _ (permIn_trans _ _ _ _ _ dZ lP) np
   ·have aca:¬(fo:Int)<Qj:=by omega
    simp[go_sem,f0,a_,bh,bV,eE,alB,alC,DQ,EO,alD,aca,zk];have ap:=alv (a:=qX+1) (b:=b) (limit:=limit) fs (by omega) af (by omega) (by omega) Ao cu;refine aP.mono (show aP _ _ _ _ _ from by simp at ap;exact ap) ?_;rintro _ be ⟨mc,bC,a',aX,bv⟩;obtain⟨bq,ec⟩:=kY mc a' aX;simp[go_sem];refine cH.intro (qX - a) (by omega) (bK _ _ _ ⟨a,qX,limit,decide ((Cf:Int)<=Qj),Vb,mc,rfl,by omega,by omega,by omega,Ao,by simp[f0],by simp[a_],by simp,by simp[bV],by simp,by simp,by rw[a'.1,fs],bC,bq,λc_ ft iI=> ?_,vD.trans bv⟩);obtain⟨lP,np⟩:=ec c_ ft iI;exact ff _ (permIn_trans _ _ _ _ _ dZ lP) np
theorem Lt(h:dm (c' _) w blk d)(cap:Nat)(cL:d.size<=255):
  aP Tryz.prog (aBl d) #[dI blk d.size cap] w λ_ w'=>∃c_,dm (c' _) w' blk c_/\PermIn 0 d.size d c_/\SortedIn lt 0 d.size c_/\D (aj blk) w w':=by
 cases bb
 all_goals
  first|refine bn Tryz.func139 Tryz.ntmps139 λaZ Z=> ?_|refine bn Tryz.func216 Tryz.ntmps216 λaZ Z=> ?_
  have Qf:IntKind.u64.wrap (d.size:Int)=d.size:=by rw[IntKind.wrap_u64];omega
  have V:=UY d.size cL;have ah:=aBR (blk:=blk) cap d.size w d 0 d.size (bitsLen d.size) (by omega) h (by omega) (by omega) cL (by omega) (.inl rfl);simp[go_sem,Qf];refine(DJ d.size cL w).mono ?_;rintro _ ab ⟨rfl,bH⟩;subst ab;simp[go_sem];refine ah.mono ?_;rintro _ ai ⟨c_,H,I,af,aU⟩;simp[go_sem];exact Z _ _ ⟨c_,H,I,af,aU⟩
end
end Go.Proofs.YtoohkhcpboldjaaGreatDoor.SS
