/- Whole numbers sorted. No condition but on their number. -/
import Derived.Test.YtoohkhcpboldjaaGreatDoorSlK
import Derived.Test.YtoohkhcpboldjaaGreatDoorSqC
set_option maxRecDepth 1000000
set_option maxHeartbeats 16000000
set_option linter.unusedSimpArgs false
set_option linter.unusedVariables false
namespace Go.Proofs.YtoohkhcpboldjaaGreatDoor.SS
open Go.RowKit Go.Kin Go.Maps Go.Sort Tryz
variable {bb:Bool}
theorem ato:Lib.len8tab.size=256:=by decide
theorem aKJ:∀i:Fin 256,(Lib.len8tab[i.val]'(by rw[ato];exact i.isLt)).toNat=bitsLen i.val:=by decide+kernel
theorem abq(n:Nat)(aq:n<=255):bitsLen n<=8:=(bitsLen_le_iff n 8).2 (by omega)
theorem aKK(n:Nat)(aq:n<=255)(w:M):bc prog 233 #[.int .u64 n] w λv' w'=>v'=aa (bitsLen n)/\w'=w:=by
 refine bz func233 ntmps233 λbk af=> ?_;have J:¬(4294967296:Int)<=n:=by omega
 have T:¬(65536:Int)<=n:=by omega
 have ag:¬(256:Int)<=n:=by omega
 have aP:IntKind.u8.wrap (n:Int)=n:=by simp[IntKind.wrap,IntKind.bits,IntKind.signed];omega
 have bH:(n:Int)<256:=by omega
 have cS:n<256:=by omega
 have ab:=abq n aq;have key:=aKJ ⟨n,cS⟩;have fi:IntKind.i64.wrap (bitsLen n:Int)=(bitsLen n:Int):=by rw[cz];omega
 simp[go_sem,J,T,ag,aP,bH,cS,ato,key,fi];exact af _ _ ⟨rfl,rfl⟩
theorem HU(n:Nat)(aq:n<=255)(w:M):bc prog 194 #[.int .u64 n] w λv' w'=>v'=aa (bitsLen n)/\w'=w:=by
 refine bz func194 ntmps194 λbk af=> ?_;simp[go_sem];refine(aKK n aq w).mono ?_;rintro _ ai ⟨rfl,bM⟩;subst ai;simp[go_sem];exact af _ _ ⟨rfl,rfl⟩
theorem aKL(n:Nat)(aq:n<=255)(w:M):bc prog 250 #[aa n] w λv' w'=>v'=.int .u64 (2^bitsLen n:Nat)/\w'=w:=by
 refine bz func250 ntmps250 λbk af=> ?_;have J:IntKind.u64.wrap (n:Int)=n:=by rw[tg];omega
 simp[go_sem,J];refine(HU n aq w).mono ?_;rintro _ ai ⟨rfl,bM⟩;subst ai;have ab:=abq n aq;obtain⟨k,r⟩:=aD (bitsLen n);rw[r]at ab af⊢;have am:2^k<=2^8:=LC (by decide) ab;have T:((k:Int)<=64):=by omega
 have ag:IntKind.u64.wrap ((2:Int)^k)=((2^k:Nat):Int):=by
  rw[show(2:Int)^k=((2^k:Nat):Int)by simp,tg];generalize 2^k=y at am;omega
 simp[go_sem,T,ag];exact af _ _ ⟨by simp,rfl⟩
theorem aKM(v k:Nat)(aM:v<18446744073709551616)(r:k<=32):bits .and .u64 (v:Int) ((2^k - 1:Nat):Int)=((v%2^k:Nat):Int):=by
 have am:2^k<=2^32:=LC (by decide) r;have fZ:∀a:Nat,a<2^64->(BitVec.ofInt 64 (a:Int)).toNat=a:=λa h=>by
  grind
 have au:v%2^k<2^k:=IE _ (Nat.two_pow_pos k);show IntKind.u64.wrap ((BitVec.ofInt 64 (v:Int)&&&BitVec.ofInt 64 ((2^k - 1:Nat):Int)).toNat:Int)=_;rw[BitVec.toNat_and,fZ v (by omega),fZ _ (by omega),Nat.and_two_pow_sub_one_eq_mod,tg];omega
theorem aiR(x y:Int):∃z:Nat,z<18446744073709551616/\bits .xor .u64 x y=z:=by
 have h:∃a:Int,bits .xor .u64 x y=IntKind.u64.wrap a:=⟨_,rfl⟩;obtain⟨a,ao⟩:=h;rw[tg]at ao;exact⟨(bits .xor .u64 x y).toNat,by omega,by omega⟩
theorem aKN{bv:TypeId}(V x:Nat)(w:M)(h:w.1[V]? =some (.cells #[.int .u64 x] bv (0,0))):bc prog 251 #[az V] w λv' w'=>∃y:Nat,y<18446744073709551616/\v'=.int .u64 y/\w'.1[V]? =some (.cells #[.int .u64 y] bv (0,0))/\H (aj V) w w':=by
 refine bz func251 ntmps251 λbk af=> ?_;have st:∀{u:M} {x y:Nat},u.1[V]? =some (.cells #[.int .u64 x] bv (0,0))->(u.setCell ⟨V,0,none⟩ (.int .u64 y)).1[V]? =some (.cells #[.int .u64 y] bv (0,0))/\H (aj V) u (u.setCell ⟨V,0,none⟩ (.int .u64 y)):=λ{u x y} ap=>by
  refine⟨?_,(H.refl (aj V) u).setCell (p:=bl V 0) (.inl rfl) _⟩
  simp_all
 have gs:=aG h 0;have f0:=dJ h 0;obtain⟨fh,aS0,aL⟩:=aiR x (IntKind.u64.wrap ((x:Int)*8192));simp[go_sem];refine cT [F 0,F 1,F 2,F 3,F 4,F 5,F 6,F 7,F 8,(9,some [])] ?_;simp[go_sem,gs,f0,aL];obtain⟨J,bn⟩:=st (y:=fh) h;revert J bn;generalize w.setCell ⟨V,0,none⟩ (.int .u64 fh)=ai;intro J bn;have aY:=aG J 0;have aW:=dJ J 0;obtain⟨fv,KP,aR⟩:=aiR fh ((fh:Int) / 128);refine cT [F 0,F 1,F 2,F 3,F 4,F 5,F 6,F 7,F 8,(9,some [])] ?_;simp[go_sem,aY,aW,aR];obtain⟨T,bh⟩:=st (y:=fv) J;revert T bh;generalize ai.setCell ⟨V,0,none⟩ (.int .u64 fv)=an;intro T bh;have aK:=aG T 0;have bg:=dJ T 0;obtain⟨iY,Ic,dB⟩:=aiR fv (IntKind.u64.wrap ((fv:Int)*131072));refine cT [F 0,F 1,F 2,F 3,F 4,F 5,F 6,F 7,F 8,(9,some [])] ?_;simp[go_sem,aK,bg,dB];obtain⟨ag,bA⟩:=st (y:=iY) T;revert ag bA;generalize an.setCell ⟨V,0,none⟩ (.int .u64 iY)=aJ;intro ag bA;exact af _ _ ⟨iY,Ic,rfl,ag,by(repeat apply H.drew);exact(bn.trans bh).trans bA⟩
section
variable {w u:M}{blk bd i j:Nat}{d aB:Array (E bb)}{x y:(E bb)}
theorem aKO(h:dM (df _) w blk d)(a b cap:Nat)(gE:a<b)(ab:b<=d.size)(cU:d.size<=255):
  bc prog (aKn d) #[dR blk d.size cap,aa a,aa b] w λ_ w'=>∃dr,dM (df _) w' blk dr/\PermIn a b d dr/\H (aj blk) w w':=by
 cases bb
 all_goals
  first|refine bz func227 ntmps227 λbk af=> ?_|refine bz func275 ntmps275 λbk af=> ?_
  obtain⟨bd,dO⟩:=aD (d.size);rw[dO]at ab cU⊢;obtain⟨bt,cZ⟩:=aD (b - 1);have VV:=eN ((b:Int) - 1) bt (by omega) (by omega);simp[go_sem,VV];refine di (λV f u=>∃i j aB,V=j+1 - i/\a<=i/\i<=b/\j<b/\f 0=dR blk bd cap/\f 6=aa i/\f 7=aa j/\aB.size=bd/\dM (df _) u blk aB/\PermIn a b d aB/\H (aj blk) w u) (bt+1 - a)
   ⟨a,bt,d,rfl,by omega,by omega,by omega,by simp,by simp,by simp,dO,h,permIn_refl _ _ _,H.refl _ _⟩ ?_
  rintro cQ bJ _ f u ⟨i,j,aB,rfl,aiJ,aiK,aKP,f0,f6,bQ,r,ap,fg,aS⟩;by_cases aO:i<j
  ·have Al:(i:Int)<j:=by omega
   obtain⟨q,au⟩:∃q,j=q+1:=⟨j - 1,by omega⟩;have hN:=eN ((j:Int) - 1) q (by omega) (by omega);have eQ:=eN ((i:Int)+1) (i+1) (by omega) (by omega);have hJ:i<bd:=by omega
   have iF:j<bd:=by omega
   obtain⟨x,W,cx,rZ,iG⟩:=rd ap r hJ;obtain⟨y,ar,fI,sV,lg⟩:=rd ap r iF;obtain⟨hi,fH,ia⟩:=uX ap r hJ iF W ar;simp only[nr,ns]at hi ia;obtain⟨sp,ju⟩:=FN ap r iF i y;simp only[nr,ns]at ju;simp[go_sem,f6,bQ,aO,Al];refine cT [F 0,F 1,F 2,F 3,F 4,F 5,F 6,F 7,F 8,F 9,F 10,F 11,F 12,(13,some [2,3]),F 14,(15,some [])] ?_;simp[go_sem,f0,f6,bQ,hJ,rZ,iF,sV,cx,fI,iG,lg,ju,eQ,hN];exact ct.intro (q+1 -(i+1)) (by omega) (bJ _ _ _ ⟨i+1,q,_,rfl,by omega,by omega,by omega,by simp[f0],by simp,by simp,fH,hi,permIn_trans _ _ _ _ _ fg (swp_permIn aB a b i j aiJ (by omega) (by omega) aKP (by omega)),by(repeat apply H.drew);exact aS.trans ia⟩)
  ·have Al:¬(i:Int)<j:=by omega
   simp[go_sem,f6,bQ,aO,Al];exact af _ _ ⟨aB,ap,fg,aS⟩
theorem aKQ(h:dM (df _) w blk d)(a b cap:Nat)(gE:a+8<=b)(ab:b<=d.size)(cU:d.size<=255):
  bc prog (aKo d) #[dR blk d.size cap,aa a,aa b] w λ_ w'=>∃dr,dM (df _) w' blk dr/\PermIn a b d dr/\H (aj blk) w w':=by
 cases bb
 all_goals
  first|refine bz func225 ntmps225 λbk af=> ?_|refine bz func273 ntmps273 λbk af=> ?_
  obtain⟨bd,dO⟩:=aD (d.size);rw[dO]at ab cU⊢;obtain⟨l,ak⟩:=aD (b - a);have Br:=eN ((b:Int) - a) l (by omega) (by omega);have er:(8:Int)<=l:=by omega
  have Ad:8<=l:=by omega
  have KB:IntKind.u64.wrap (l:Int)=l:=by rw[tg];omega
  have aU:=(H.refl al w).alloc (.cells #[.int .u64 l] 397);have dD:=cr w (.cells #[.int .u64 l] 397);have ao:=h.ch aU id;have yy:w.1.size≠blk:=λe=>by have:=h.lt;omega
  simp[go_sem,Br,er,Ad,KB];obtain⟨V,ax⟩:=aD (w.1.size);rw[ax]at dD yy⊢;generalize w.alloc (.cells #[.int .u64 l] 397)=ai at*;have NO:H (aj blk) w ai:=aU.mono λ_ _ e=>e.elim;obtain⟨k,r⟩:=aD (bitsLen l);have ox:k<=8:=by rw[<-r];exact abq l (by omega)
  have ph:2^k<=2*l:=by rw[<-r];exact two_pow_bitsLen_le (by omega)
  have qe:0<2^k:=Nat.two_pow_pos k;refine(aKL l (by omega) ai).mono ?_;rintro _ an ⟨rfl,ii⟩;subst an;rw[r];obtain⟨aw,hb⟩:=aD (2^k);have atp:∀y:Nat,y<18446744073709551616->bits .and .u64 (y:Int) ((aw - 1:Nat):Int)=((y%aw:Nat):Int):=λy ar=>by
   rw[<-hb];exact aKM y k ar (by omega)
  rw[hb]at ph qe⊢;obtain⟨fQ,ss⟩:=aD (l / 4);have Ib:((l:Int).tdiv 4)=fQ:=by rw[LF (by omega)];omega
  have qv:IntKind.i64.wrap (fQ:Int)=fQ:=eN _ fQ rfl (by omega);obtain⟨p,am⟩:=aD (fQ*2);have wN:=eN ((fQ:Int)*2) p (by omega) (by omega);obtain⟨s,aA⟩:=aD (a+p);have Wb:=eN ((a:Int)+p) s (by omega) (by omega);obtain⟨bK,gF⟩:=aD (s - 1);have aKR:=eN ((s:Int) - 1) bK (by omega) (by omega);obtain⟨cR,kg⟩:=aD (s+1);have atq:=eN ((s:Int)+1) cR (by omega) (by omega);obtain⟨KG,Qx⟩:=aD (aw - 1);have aaR:IntKind.u64.wrap ((aw:Int) - 1)=KG:=by rw[tg];omega
  rw[Qx]at atp;simp[go_sem,Ib,qv,wN,Wb,aKR];refine di (λaKS f u=>∃i y aB,aKS=cR+1 - i/\bK<=i/\i<=cR+1/\f 0=dR blk bd cap/\f 1=aa a/\f 6=aa l/\f 7=az V/\f 8=.int .u64 aw/\f 9=aa i/\u.1[V]? =some (.cells #[.int .u64 (y:Nat)] 397 (0,0))/\aB.size=bd/\dM (df _) u blk aB/\PermIn a b d aB/\H (aj blk) w u) (cR+1 - bK)
   ⟨bK,l,d,rfl,by omega,by omega,by simp,by simp,by simp,by simp,by simp,by simp,dD,dO,ao,permIn_refl _ _ _,NO⟩ ?_
  clear dD ao aU NO h;rintro cQ bJ _ f u ⟨i,y,aB,rfl,aql,Hh,f0,aW,f6,bQ,bB,dt,yz,fH,ap,fg,aS⟩;by_cases eh:i<=cR
  ·have ie:(i:Int)<=cR:=by omega
   simp[go_sem,dt,aW,f6,Ib,qv,wN,Wb,atq,eh,ie,bQ];refine(aKN V y u yz).mono ?_;rintro _ aJ ⟨iY,Ic,rfl,yz,aI⟩;replace ap:=ap.ch aI yy.symm;have uU:H (aj blk) w aJ:=aS.bZ aI λj I e=>by simp only[aj]at e;omega
   obtain⟨o,av⟩:=aD (iY%aw);have aS1:o<aw:=by rw[<-av];exact IE _ qe
   have aC:=atp iY Ic;rw[av]at aC;have arc:=eN (o:Int) o rfl (by omega);obtain⟨hr,zF⟩:=aD ((if l<=o then o - l else o));have aS2:hr<l:=by
    rw[<-zF];split<;>omega
   obtain⟨e,aV⟩:=aD (a+hr);have Lc:=eN ((a:Int)+hr) e (by omega) (by omega);have hJ:i<bd:=by omega
   have ci:e<bd:=by omega
   obtain⟨x,W,cx,rZ,iG⟩:=rd ap fH hJ;obtain⟨z,hz,kS,xi,js⟩:=rd ap fH ci;obtain⟨hi,oD,ia⟩:=uX ap fH hJ ci W hz;simp only[nr,ns]at hi ia;obtain⟨sp,ju⟩:=FN ap fH ci i z;simp only[nr,ns]at ju;have eQ:=eN ((i:Int)+1) (i+1) (by omega) (by omega);have abr:=permIn_trans _ _ _ _ _ fg (swp_permIn aB a b i e (by omega) (by omega) (by omega) (by omega) (by omega));have atr:∀fY hk:N,(((aJ.setCell ⟨blk,i,none⟩ fY).setCell ⟨blk,e,none⟩ hk)).1[V]? =some (.cells #[.int .u64 (iY:Nat)] 397 (0,0)):=λfY hk=>by
    rw[wH _ _ _ _ yy,wH _ _ _ _ yy];exact yz
   simp[go_sem,bB,aaR,aC,arc,f6];by_cases Rn:l<=o
   ·have aiS:(l:Int)<=o:=by omega
    rw[be Rn]at zF;have aKT:=eN ((o:Int) - l) hr (by omega) (by omega);simp[go_sem,Rn,aiS,f6,aKT];refine cT [F 0,F 1,F 2,F 3,F 4,F 5,F 6,F 7,F 8,F 9,F 10,F 11,F 12,F 13,F 14,F 15,F 16,(17,some [2,3,4,5]),F 18,(19,some [])] ?_;simp[go_sem,f0,aW,dt,Lc,hJ,rZ,ci,xi,cx,kS,iG,js,ju,eQ];exact ct.intro (cR+1 -(i+1)) (by omega) (bJ _ _ _ ⟨i+1,iY,_,rfl,by omega,by omega,by simp[f0],by simp[aW],by simp[f6],by simp[bQ],by simp[bB],by simp,atr _ _,oD,hi,abr,by(repeat apply H.drew);exact uU.trans ia⟩)
   ·have aiS:¬(l:Int)<=o:=by omega
    rw[aQ Rn]at zF;subst hr;simp[go_sem,Rn,aiS];refine cT [F 0,F 1,F 2,F 3,F 4,F 5,F 6,F 7,F 8,F 9,F 10,F 11,F 12,F 13,F 14,F 15,F 16,(17,some [2,3,4,5]),F 18,(19,some [])] ?_;simp[go_sem,f0,aW,dt,Lc,hJ,rZ,ci,xi,cx,kS,iG,js,ju,eQ];exact ct.intro (cR+1 -(i+1)) (by omega) (bJ _ _ _ ⟨i+1,iY,_,rfl,by omega,by omega,by simp[f0],by simp[aW],by simp[f6],by simp[bQ],by simp[bB],by simp,atr _ _,oD,hi,abr,by(repeat apply H.drew);exact uU.trans ia⟩)
  ·have ie:¬(i:Int)<=cR:=by omega
   simp[go_sem,dt,aW,f6,Ib,qv,wN,Wb,atq,eh,ie];exact af _ _ ⟨aB,ap,fg,aS⟩
end
variable {bb:Bool}
section
variable {w u:M}{blk bd s:Nat}{d:Array (E bb)}{bv:TypeId}
def DH(w:M)(s:Nat)(bv:TypeId):Prop:=∃v:Int,w.1[s]? =some (.cells #[aa v] bv (0,0))
theorem DH.set(h:DH w s bv)(v:Int):DH (w.setCell ⟨s,0,none⟩ (aa v)) s bv:=by
 obtain⟨x,h⟩:=h;refine⟨v,?_⟩
 simp_all
theorem aiT(h:dM (df _) w blk d)(r:d.size=bd)(aA:DH w s bv)(NP:s≠blk)(a b cap:Nat)(ao:a<bd)(ab:b<bd):
  bc prog (aKp d) #[dR blk bd cap,aa a,aa b,az s] w λv' w'=>∃x y:Nat,v'=.tuple #[aa x,aa y]/\((x=a/\y=b)\/(x=b/\y=a))/\DH w' s bv/\H (aj s) w w':=by
 cases bb
 all_goals
  first|refine bz func280 ntmps280 λbk af=> ?_|refine bz func289 ntmps289 λbk af=> ?_
  obtain⟨x,W,cx,aiU,_⟩:=rd h r ao;obtain⟨y,ar,fI,qZ,_⟩:=rd h r ab;obtain⟨v,aM⟩:=id aA;have gs:=aG aM 0;have f0:=dJ aM 0;simp[go_sem];refine cT [F 0,F 1,F 2,F 3,F 4,F 5,F 6,F 7,(8,some [])] ?_;simp[go_sem,ao,aiU,ab,qZ,cx,fI];refine(vX y x _).mono ?_;rintro _ an ⟨rfl,ii⟩;subst an
  cases lt y x with
  |true=>
   simp[go_sem,gs,f0];refine af _ _ ⟨b,a,rfl,.inr ⟨rfl,rfl⟩,aA.set _,?_⟩
   (repeat apply H.drew)
   exact(H.refl (aj s) w).setCell (p:=bl s 0) (.inl rfl) _
  |false=>
   simp[go_sem];exact af _ _ ⟨a,b,rfl,.inl ⟨rfl,rfl⟩,aA,(H.refl _ _).drew⟩
theorem aiV(h:dM (df _) w blk d)(r:d.size=bd)(aA:DH w s bv)(NP:s≠blk)(a b c cap:Nat)(ao:a<bd)(ab:b<bd)(Z:c<bd):
  bc prog (aKq d) #[dR blk bd cap,aa a,aa b,aa c,az s] w λv' w'=>∃x:Nat,v'=aa x/\(x=a\/x=b\/x=c)/\DH w' s bv/\H (aj s) w w':=by
 cases bb
 all_goals
  first|refine bz func253 ntmps253 λbk af=> ?_|refine bz func287 ntmps287 λbk af=> ?_
  have aq:¬aj s blk:=λe=>NP e.symm;simp[go_sem];refine(aiT h r aA NP a b cap ao ab).mono ?_;rintro _ ai ⟨a1,bt,rfl,J,gF,aY⟩;simp[go_sem];refine(aiT (h.ch aY aq) r gF NP bt c cap (by omega) Z).mono ?_;rintro _ an ⟨cY,aK,rfl,T,kg,bh⟩;simp[go_sem];refine(aiT ((h.ch aY aq).ch bh aq) r kg NP a1 cY cap (by omega) (by omega)).mono ?_;rintro _ aJ ⟨a3,cK,rfl,ag,VL,bA⟩;simp[go_sem];exact af _ _ ⟨cK,rfl,by omega,VL,(aY.trans bh).trans bA⟩
theorem aiW(h:dM (df _) w blk d)(r:d.size=bd)(dO:bd<=255)(aA:DH w s bv)(NP:s≠blk)(a cap:Nat)(ao:1<=a)(ab:a+1<bd):
  bc prog (aKr d) #[dR blk bd cap,aa a,az s] w λv' w'=>∃x:Nat,v'=aa x/\a<=x+1/\x<=a+1/\DH w' s bv/\H (aj s) w w':=by
 cases bb
 all_goals
  first|refine bz func252 ntmps252 λbk af=> ?_|refine bz func286 ntmps286 λbk af=> ?_
  obtain⟨q,au⟩:=aD (a - 1);obtain⟨p,am⟩:=aD (a+1);have vu:=eN ((a:Int) - 1) q (by omega) (by omega);have wN:=eN ((a:Int)+1) p (by omega) (by omega);simp[go_sem,vu,wN];refine(aiV h r aA NP q a p cap (by omega) (by omega) (by omega)).mono ?_;rintro _ ai ⟨x,rfl,W,gF,aY⟩;simp[go_sem];exact af _ _ ⟨x,rfl,by omega,by omega,gF,aY⟩
theorem aKU(h:dM (df _) w blk d)(a b cap:Nat)(gE:a+8<=b)(ab:b<=d.size)(cU:d.size<=255):
  bc prog (aKs d) #[dR blk d.size cap,aa a,aa b] w λv' w'=>∃(p:Nat) (t:Nat),v'=.tuple #[aa p,aa t]/\a<=p/\p<b/\t<3/\H al w w':=by
 cases bb
 all_goals
  first|refine bz func226 ntmps226 λbk af=> ?_|refine bz func274 ntmps274 λbk af=> ?_
  obtain⟨bd,dO⟩:=aD (d.size);rw[dO]at ab cU⊢;obtain⟨l,ak⟩:=aD (b - a);have Br:=eN ((b:Int) - a) l (by omega) (by omega);obtain⟨fQ,ss⟩:=aD (l / 4);have Ib:((l:Int).tdiv 4)=fQ:=by rw[LF (by omega)];omega
  have qv:IntKind.i64.wrap (fQ:Int)=fQ:=eN _ fQ rfl (by omega);obtain⟨jH,ph⟩:=aD (fQ*2);have aiX:=eN ((fQ:Int)*2) jH (by omega) (by omega);obtain⟨Ah,ats⟩:=aD (fQ*3);have aKV:=eN ((fQ:Int)*3) Ah (by omega) (by omega);obtain⟨i,ad⟩:=aD (a+fQ);have eQ:=eN ((a:Int)+fQ) i (by omega) (by omega);obtain⟨j,I⟩:=aD (a+jH);have hN:=eN ((a:Int)+jH) j (by omega) (by omega);obtain⟨k,r⟩:=aD (a+Ah);have ej:=eN ((a:Int)+Ah) k (by omega) (by omega);have er:(8:Int)<=l:=by omega
  have Ad:8<=l:=by omega
  have aU:=(H.refl al w).alloc (.cells #[aa 0] 3);have dD:=cr w (.cells #[aa 0] 3);have ao:=h.ch aU id;have yy:w.1.size≠blk:=λe=>by have:=h.lt;omega
  simp[go_sem,Br,Ib,qv,aiX,aKV,eQ,hN,ej,er,Ad];obtain⟨s,aA⟩:=aD (w.1.size);rw[aA]at dD yy⊢;generalize w.alloc (.cells #[aa 0] 3)=ai at*;have Z:DH ai s 3:=⟨0,dD⟩;have aq:¬aj s blk:=λe=>yy e.symm;have hs:∀{u:M},H (aj s) ai u->H al w u:=λ{u} c=>aU.bZ c λx W e=>by simp only[aj]at e;omega
  obtain⟨bq,bW⟩:∃bq:(Nat->N)->M->Prop,bq=λf u=>∃p:Nat,a<=p/\p<b/\f 11=aa p/\f 9=az s/\DH u s 3/\H al w u:=⟨_,rfl⟩;by_cases Aj:50<=l
  ·have NN:(50:Int)<=l:=by omega
   simp[go_sem,Aj,NN];refine(aiW ao dO cU Z yy i cap (by omega) (by omega)).mono ?_;rintro _ an ⟨aKW,rfl,yl,q_,hV,aK⟩;simp[go_sem];refine(aiW (ao.ch aK aq) dO cU hV yy j cap (by omega) (by omega)).mono ?_;rintro _ aJ ⟨aKX,rfl,aiY,pR,p',aI⟩;simp[go_sem];refine(aiW ((ao.ch aK aq).ch aI aq) dO cU p' yy k cap (by omega) (by omega)).mono ?_;rintro _ bs ⟨lD,rfl,sn,oD,oa,bo⟩;simp[go_sem];refine(aiV (((ao.ch aK aq).ch aI aq).ch bo aq) dO oa yy aKW aKX lD cap (by omega) (by omega) (by omega)).mono ?_;rintro _ bD ⟨p,rfl,am,⟨v,aM⟩,bE⟩;have gJ:=hs (((aK.trans aI).trans bo).trans bE);have gs:=aG aM 0;by_cases bi:v=0
   ·simp[go_sem,gs,bi];exact af _ _ ⟨p,1,rfl,by omega,by omega,by omega,gJ⟩
   have tx:(v==0)=false:=hv bi;by_cases jW:v=12
   ·simp[go_sem,gs,bi,tx,jW];exact af _ _ ⟨p,2,rfl,by omega,by omega,by omega,gJ⟩
   have Le:(v==12)=false:=hv jW;simp[go_sem,gs,bi,tx,jW,Le];exact af _ _ ⟨p,0,rfl,by omega,by omega,by omega,gJ⟩
  ·have NN:¬(50:Int)<=l:=by omega
   simp[go_sem,Aj,NN];refine(aiV ao dO Z yy i j k cap (by omega) (by omega) (by omega)).mono ?_;rintro _ bD ⟨p,rfl,am,⟨v,aM⟩,bE⟩;have gJ:=hs bE;have gs:=aG aM 0;by_cases bi:v=0
   ·simp[go_sem,gs,bi];exact af _ _ ⟨p,1,rfl,by omega,by omega,by omega,gJ⟩
   have tx:(v==0)=false:=hv bi;by_cases jW:v=12
   ·simp[go_sem,gs,bi,tx,jW];exact af _ _ ⟨p,2,rfl,by omega,by omega,by omega,gJ⟩
   have Le:(v==12)=false:=hv jW;simp[go_sem,gs,bi,tx,jW,Le];exact af _ _ ⟨p,0,rfl,by omega,by omega,by omega,gJ⟩
end
variable {bb:Bool}
section
variable {w u:M}{blk bd:Nat}{d:Array (E bb)}
theorem aKY(cap:Nat):∀(n:Nat) (w:M) (d:Array (E bb)) (a b limit:Nat),b - a<=n->dM (df _) w blk d->a<=b->b<=d.size->d.size<=255->limit<=255->Go.Sort.Below lt a b d->
  bc prog (atj d) #[dR blk d.size cap,aa a,aa b,aa limit] w λ_ w'=>∃dr,dM (df _) w' blk dr/\PermIn a b d dr/\SortedIn lt a b dr/\H (aj blk) w w':=by
 cases bb
 all_goals
  intro n
  induction n using Nat.strongRecOn with
  |_ n bL=>
  intro w d a0 bu aKZ aq h gE ab cU DI gY
  first|refine bz func193 ntmps193 λbk af=> ?_|refine bz func246 ntmps246 λbk af=> ?_
  obtain⟨bd,dO⟩:=aD (d.size);rw[dO]at ab cU⊢;have att:∀{u:M} {aB:Array (E _)} {a b limit:Nat},aB.size=bd->b - a<n->dM (df _) u blk aB->a<=b->b<=bd->limit<=255->Go.Sort.Below lt a b aB->bc prog (atj aB) #[dR blk bd cap,aa a,aa b,aa limit] u λ_ w'=>∃dr,dM (df _) w' blk dr/\PermIn a b aB dr/\SortedIn lt a b dr/\H (aj blk) u w':=λ{u aB a b limit} J T ag aP bH cS fi=>by
   have:=bL (b - a) T u aB a b limit (c_ _) ag aP (by omega) (by omega) cS fi;rw[J]at this;exact this
  simp[go_sem];refine di (λV f u=>∃a b limit ua uT aB,V=b - a/\a0<=a/\a<=b/\b<=bu/\limit<=255/\f 0=dR blk bd cap/\f 1=aa a/\f 2=aa b/\f 3=aa (limit:Nat)/\f 8=.bool ua/\f 9=.bool uT/\aB.size=bd/\dM (df _) u blk aB/\Go.Sort.Below lt a b aB/\(∀dr,PermIn a b aB dr->SortedIn lt a b dr->PermIn a0 bu d dr/\SortedIn lt a0 bu dr)/\H (aj blk) w u) (bu - a0)
   ⟨a0,bu,aKZ,true,true,d,rfl,c_ _,gE,c_ _,DI,by simp,by simp,by simp,by simp,by simp,by simp,dO,h,gY,λdr J T=>⟨J,T⟩,H.refl _ _⟩ ?_
  clear h gY DI;rintro cQ bJ _ f u ⟨a,b,limit,ua,uT,aB,rfl,aaj,Ra,qE,DI,f0,aW,bg,bR,bB,dt,r,ap,gY,fD,aS⟩;obtain⟨l,ak⟩:=aD (b - a);have Br:=eN ((b:Int) - a) l (by omega) (by omega);by_cases jW:l<=12
  ·have Le:(l:Int)<=12:=by omega
   have ad:=aKx ap a b cap Ra (by omega) (by omega);rw[r]at ad;simp[go_sem,f0,aW,bg,Br,jW,Le];refine ad.mono ?_;rintro _ an ⟨T,aK⟩;obtain⟨oY,jH⟩:=insertionSort_holds VZ aB a b Ra (by omega);obtain⟨cC,cj⟩:=fD _ oY jH;simp[go_sem];exact af _ _ ⟨_,T,cC,cj,aS.trans aK⟩
  have Le:¬(l:Int)<=12:=by omega
  by_cases pD:limit=0
  ·have Wc:(limit:Int)=0:=by omega
   have ad:=aKA ap a b cap (by omega) (by omega) (by omega);rw[r]at ad;simp[go_sem,f0,aW,bg,bR,Br,jW,Le,pD,Wc];refine ad.mono ?_;rintro _ an ⟨T,aK⟩;obtain⟨oY,jH⟩:=heapSort_holds VZ aB a b Ra (by omega);obtain⟨cC,cj⟩:=fD _ oY jH;simp[go_sem];exact af _ _ ⟨_,T,cC,cj,aS.trans aK⟩
  have Wc:¬(limit:Int)=0:=by omega
  have atu:((limit:Int)==0)=false:=hv Wc;have eT:∀{x:Array (E _)} {c d:Nat},PermIn c d aB x->x.size=bd:=λh=>by rw[h.1,r]
  obtain⟨bq,bW⟩:∃bq:(Nat->N)->M->Prop,bq=λf u=>∃limit dc,limit<=255/\f 0=dR blk bd cap/\f 1=aa a/\f 2=aa b/\f 3=aa (limit:Nat)/\f 8=.bool ua/\f 9=.bool uT/\f 10=aa l/\dM (df _) u blk dc/\PermIn a b aB dc/\H (aj blk) w u:=⟨_,rfl⟩;simp[go_sem,f0,aW,bg,bR,bB,Br,jW,Le,pD,Wc,atu];refine Jf bq ?_ ?_
  ·cases ua with
   |true=>
    simp[go_sem];rw[bW];exact⟨limit,aB,DI,by simp[f0],by simp[aW],by simp[bg],by simp[bR],by simp[bB],by simp[dt],by simp,ap,permIn_refl _ _ _,aS⟩
   |false=>
    have ad:=aKQ ap a b cap (by omega) (by omega) (by omega);rw[r]at ad;obtain⟨abs,Rc⟩:∃abs,limit=abs+1:=⟨limit - 1,by omega⟩;have CP:=eN ((limit:Int) - 1) abs (by omega) (by omega);simp[go_sem,f0,aW,bg];refine ad.mono ?_;rintro _ an ⟨dc,T,fg,aK⟩;simp[go_sem,bR,CP];rw[bW];exact⟨abs,dc,by omega,by simp[f0],by simp[aW],by simp[bg],by simp,by simp[bB],by simp[dt],by simp,T,fg,aS.trans aK⟩
  rw[bW];clear bW bq f0 aW bg bR bB dt ap aS DI pD Wc atu;clear limit f u;rintro f u ⟨limit,dc,DI,f0,aW,bg,bR,bB,dt,fA,ap,sW,aS⟩;have am:=aKU ap a b cap (by omega) (by rw[eT sW];omega) (by rw[eT sW];omega);rw[eT sW]at am;simp[go_sem,f0,aW,bg];refine am.mono ?_;rintro _ an ⟨pv,t,rfl,gT,ph,aK0,aK⟩;have kJ:H (aj blk) w an:=aS.trans (aK.mono λ_ _ e=>e.elim);replace ap:=ap.ch aK id;clear aS aK am;simp[go_sem];obtain⟨bq,bW⟩:∃bq:(Nat->N)->M->Prop,bq=λf u=>∃pv t dc,a<=pv/\pv<b/\f 0=dR blk bd cap/\f 1=aa a/\f 2=aa b/\f 3=aa (limit:Nat)/\f 8=.bool ua/\f 9=.bool uT/\f 10=aa l/\f 11=aa (pv:Nat)/\f 12=aa (t:Nat)/\dM (df _) u blk dc/\PermIn a b aB dc/\H (aj blk) w u:=⟨_,rfl⟩;refine Jf bq ?_ ?_
  ·by_cases T:t=2
   ·subst t;have ad:=aKO ap a b cap (by omega) (by rw[eT sW];omega) (by rw[eT sW];omega);rw[eT sW]at ad;obtain⟨bt,cZ⟩:=aD (b - 1);have aK1:=eN ((b:Int) - 1) bt (by omega) (by omega);obtain⟨oY,aS3⟩:=aD (pv - a);have aK2:=eN ((pv:Int) - a) oY (by omega) (by omega);obtain⟨jH,aS4⟩:=aD (bt - oY);have aiX:=eN ((bt:Int) - oY) jH (by omega) (by omega);simp[go_sem,f0,aW,bg];refine ad.mono ?_;rintro _ aJ ⟨hl,ag,abr,aI⟩;simp[go_sem,aW,bg,aK1,aK2,aiX];rw[bW];exact⟨jH,1,hl,by omega,by omega,by simp[f0],by simp[aW],by simp[bg],by simp[bR],by simp[bB],by simp[dt],by simp[fA],by simp,by simp,ag,permIn_trans _ _ _ _ _ sW abr,kJ.trans aI⟩
   ·have k':¬(t:Int)=2:=by omega
    have aK3:((t:Int)==2)=false:=hv k';simp[go_sem,T,k',aK3];rw[bW];exact⟨pv,t,dc,gT,ph,by simp[f0],by simp[aW],by simp[bg],by simp[bR],by simp[bB],by simp[dt],by simp[fA],by simp,by simp,ap,sW,kJ⟩
  rw[bW];clear bW bq f0 aW bg bR bB dt fA ap kJ sW gT ph aK0;clear t pv dc f u;rintro f u ⟨pv,t,dc,gT,ph,f0,aW,bg,bR,bB,dt,fA,gC,dj,ap,sW,aS⟩;obtain⟨bq,bW⟩:∃bq:(Nat->N)->M->Prop,bq=λf u=>∃dc,f 0=dR blk bd cap/\f 1=aa a/\f 2=aa b/\f 3=aa (limit:Nat)/\f 8=.bool ua/\f 9=.bool uT/\f 10=aa l/\f 11=aa (pv:Nat)/\dM (df _) u blk dc/\PermIn a b aB dc/\H (aj blk) w u:=⟨_,rfl⟩;have hp:bq f u:=by
   rw[bW];exact⟨dc,f0,aW,bg,bR,bB,dt,fA,gC,ap,sW,aS⟩
  have abt:∀f',(∀i,i<19->f' i=f i)->bq f' u:=λf' aV=>by
   rw[bW]
   grind
  have atv:bc prog (ati dc) #[dR blk bd cap,aa a,aa b] u λv' w'=>v'=.bool (partialInsertionSort lt dc a b).2/\dM (df _) w' blk (partialInsertionSort lt dc a b).1/\H (aj blk) u w':=by
   have:=aKC ap a b cap (by omega) (by rw[eT sW];omega) (by rw[eT sW];omega);rw[eT sW]at this;exact this
  obtain⟨hf,eI⟩:=partialInsertionSort_holds VZ dc a b (by omega) (by rw[eT sW];omega) (gY.perm (by omega) sW);rw[aiZ];refine atw bq ?_ ?_
  ·cases ua with
   |false=>
    simp[go_sem,bB];exact abt _ λi ad=>by simp only[Rp];repeat rw[aQ (by omega)]
   |true=>
    cases uT with
    |false=>
     simp[go_sem,bB,dt];exact abt _ λi ad=>by simp only[Rp];repeat rw[aQ (by omega)]
    |true=>
     by_cases J:t=1
     ·have mi:(t:Int)=1:=by omega
      simp[go_sem,bB,dt,dj,J,f0,aW,bg];refine atv.mono ?_;rintro _ aJ ⟨rfl,ag,aI⟩
      cases hz:(partialInsertionSort lt dc a b).2 with
      |true=>
       obtain⟨cC,cj⟩:=fD _ (permIn_trans _ _ _ _ _ sW hf) (eI hz);simp[go_sem];exact af _ _ ⟨_,ag,cC,cj,aS.trans aI⟩
      |false=>
       simp[go_sem];rw[bW];exact⟨_,by simp[f0],by simp[aW],by simp[bg],by simp[bR],by simp[bB],by simp[dt],by simp[fA],by simp[gC],ag,permIn_trans _ _ _ _ _ sW hf,aS.trans aI⟩
     ·have mi:¬(t:Int)=1:=by omega
      have aK4:((t:Int)==1)=false:=hv mi;simp[go_sem,bB,dt,dj,J,mi,aK4];exact abt _ λi ad=>by simp only[Rp];repeat rw[aQ (by omega)]
  rw[bW];clear bW bq f0 aW bg bR bB dt fA gC dj ap sW aS hp abt hf eI atv;clear t dc f u;rintro f u ⟨ew,f0,aW,bg,bR,bB,dt,fA,gC,ap,fg,aS⟩;have Fx:=eT fg;have atx:=gY.perm (show b<=aB.size by omega) fg;have kt:pv<bd:=by omega
  obtain⟨y,ar,fI,sU,_⟩:=rd ap Fx kt;have Wd:=atd ap a b pv cap gT ph (by omega) (by omega);have abu:=atf ap a b pv cap gT ph (by omega) (by omega);rw[Fx]at Wd abu;obtain⟨bq,bW⟩:∃bq:(Nat->N)->M->Prop,bq=λf u=>∃v:Bool,(v=true->0<a/\lt ew[a - 1]! ew[pv]! =false)/\f 0=dR blk bd cap/\f 1=aa a/\f 2=aa b/\f 3=aa (limit:Nat)/\f 8=.bool ua/\f 9=.bool uT/\f 10=aa l/\f 11=aa (pv:Nat)/\f 87=.bool v/\dM (df _) u blk ew/\H (aj blk) w u/\bc prog (ate d) #[dR blk bd cap,aa a,aa b,aa pv] u (λv' w'=>v'=.tuple #[aa (Sort.partition lt ew a b pv).1,.bool (Sort.partition lt ew a b pv).2.1]/\dM (df _) w' blk (Sort.partition lt ew a b pv).2.2/\H (aj blk) u w')/\
   bc prog (atg d) #[dR blk bd cap,aa a,aa b,aa pv] u (λv' w'=>v'=aa (partitionEqual lt ew a b pv).1/\dM (df _) w' blk (partitionEqual lt ew a b pv).2/\H (aj blk) u w'):=⟨_,rfl⟩
  have wO:∀f' (v:Bool),(v=true->0<a/\lt ew[a - 1]! ew[pv]! =false)->(∀i,i<19->f' i=f i)->f' 87=.bool v->bq f' u.drew:=λf' v aM aV aK5=>by
   have J:=atd (w:=u.drew) (d:=ew) (blk:=blk) ap.drew a b pv cap gT ph (by omega) (by omega);have T:=atf (w:=u.drew) (d:=ew) (blk:=blk) ap.drew a b pv cap gT ph (by omega) (by omega);rw[Fx]at J T;rw[bW];exact⟨v,aM,by rw[aV 0 (by omega)];exact f0,by rw[aV 1 (by omega)];exact aW,by rw[aV 2 (by omega)];exact bg,by rw[aV 3 (by omega)];exact bR,by rw[aV 8 (by omega)];exact bB,by rw[aV 9 (by omega)];exact dt,by rw[aV 10 (by omega)];exact fA,by grind,aK5,ap.drew,aS.drew,J,T⟩
  rw[aiZ,aiZ];refine atw bq ?_ ?_
  ·by_cases NM:0<a
   ·have ai0:(0:Int)<a:=by omega
    obtain⟨q,au⟩:=aD (a - 1);have vu:=eN ((a:Int) - 1) q (by omega) (by omega);have vZ:q<bd:=by omega
    obtain⟨x,W,cx,Lb,_⟩:=rd ap Fx vZ;simp[go_sem];refine cT [F 0,F 1,F 2,F 3,F 4,F 5,F 6,F 7,F 8,F 9,F 10,F 11,(12,some []),F 13,F 14] ?_;simp[go_sem,f0,aW,gC,NM,ai0,vu,vZ,Lb,kt,sU,cx,fI];refine(vX x y _).mono ?_;rintro _ an ⟨rfl,ii⟩;subst an;simp[go_sem];refine wO _ (!lt x y) (λe=>⟨NM,?_⟩) (λi ad=>by simp only[Rp];repeat rw[aQ (by omega)]) (by simp)
    grind
   ·have ai0:¬(0:Int)<a:=by omega
    simp[go_sem];refine cT [F 0,F 1,F 2,F 3,F 4,F 5,F 6,F 7,F 8,F 9,F 10,F 11,(12,some []),F 13,F 14] ?_;simp[go_sem,f0,aW,NM,ai0];exact wO _ false (λe=>by cases e) (λi ad=>by simp only[Rp];repeat rw[aQ (by omega)]) (by simp)
  rw[bW];clear bW bq f0 aW bg bR bB dt fA gC ap aS wO fI Wd abu;rintro f u ⟨v,aM,f0,aW,bg,bR,bB,dt,fA,gC,aty,ap,aS,Wd,abu⟩
  cases v with
  |true=>
   obtain⟨NM,vJ⟩:=aM rfl;simp[go_sem,aty,f0,aW,bg,gC];refine abu.mono ?_;rintro _ aJ ⟨rfl,ag,aI⟩;obtain⟨sX,iB,W⟩:∃sX iB,partitionEqual lt ew a b pv=(sX,iB):=⟨_,_,rfl⟩;obtain⟨cC,cj,cp,cy,cO⟩:=round_eq VZ (partitionEqual_holds lt) NM gT ph (by omega) atx vJ W;rw[W]at ag⊢;simp[go_sem];refine ct.intro (b - sX) (by omega) (bJ _ _ _ ⟨sX,b,limit,ua,uT,iB,rfl,by omega,by omega,by omega,DI,by simp[f0],by simp,by simp[bg],by simp[bR],by simp[bB],by simp[dt],by omega,ag,cy,λdr bn bh=> ?_,aS.trans aI⟩);obtain⟨bA,ex⟩:=cO dr bn bh;exact fD _ (permIn_trans _ _ _ _ _ fg bA) ex
  |false=>
   obtain⟨sX,abv,iB,W⟩:∃sX abv iB,Sort.partition lt ew a b pv=(sX,abv,iB):=⟨_,_,_,rfl⟩;obtain⟨cC,cj,cp,cy,cO,cA,jp⟩:=round_part VZ (partition_holds lt) gT ph (by omega) atx W;rw[W]at Wd;have gq:iB.size=bd:=by omega
   simp[go_sem,aty,f0,aW,bg,gC];refine Wd.mono ?_;rintro _ aJ ⟨rfl,ag,aI⟩;obtain⟨gB,yW⟩:=aD (sX - a);obtain⟨M',ah0⟩:=aD (b - sX);have atz:=eN ((sX:Int) - a) gB (by omega) (by omega);have atA:=eN ((b:Int) - sX) M' (by omega) (by omega);have CP:=eN ((sX:Int)+1) (sX+1) (by omega) (by omega);obtain⟨NQ,RV⟩:=aD (l / 8);have Ib:((l:Int).tdiv 8)=NQ:=by rw[LF (by omega)];omega
   have CU:IntKind.i64.wrap (NQ:Int)=NQ:=eN _ NQ rfl (by omega);have uU:=aS.trans aI;by_cases atB:gB<M'
   ·have ai1:(gB:Int)<M':=by omega
    simp[go_sem,f0,aW,bg,bR,fA,atz,atA,Ib,CU,atB,ai1];refine(att (a:=a) (b:=sX) (limit:=limit) gq (by omega) ag cC (by omega) DI cy).mono ?_;rintro _ bs ⟨oN,bH,bn,bh,bo⟩;obtain⟨bA,ex⟩:=cA oN bn bh;simp[go_sem,CP];refine ct.intro (b -(sX+1)) (by omega) (bJ _ _ _ ⟨sX+1,b,limit,decide ((NQ:Int)<=gB),abv,oN,rfl,by omega,by omega,by omega,DI,by simp[f0],by simp,by simp[bg],by simp[bR],by simp,by simp,by rw[bn.1,gq],bH,bA,λdr fJ jZ=> ?_,uU.trans bo⟩);obtain⟨oU,pZ⟩:=ex dr fJ jZ;exact fD _ (permIn_trans _ _ _ _ _ fg oU) pZ
   ·have ai1:¬(gB:Int)<M':=by omega
    simp[go_sem,f0,aW,bg,bR,fA,atz,atA,Ib,CU,atB,ai1,CP];have ax:=att (a:=sX+1) (b:=b) (limit:=limit) gq (by omega) ag (by omega) (by omega) DI cO;refine bc.mono (show bc _ _ _ _ _ from by simp at ax;exact ax) ?_;rintro _ bs ⟨oN,bH,bn,bh,bo⟩;obtain⟨bA,ex⟩:=jp oN bn bh;simp[go_sem];refine ct.intro (sX - a) (by omega) (bJ _ _ _ ⟨a,sX,limit,decide ((NQ:Int)<=M'),abv,oN,rfl,by omega,by omega,by omega,DI,by simp[f0],by simp[aW],by simp,by simp[bR],by simp,by simp,by rw[bn.1,gq],bH,bA,λdr fJ jZ=> ?_,uU.trans bo⟩);obtain⟨oU,pZ⟩:=ex dr fJ jZ;exact fD _ (permIn_trans _ _ _ _ _ fg oU) pZ
theorem Rl(h:dM (df _) w blk d)(cap:Nat)(cU:d.size<=255):
  bc prog (aKt d) #[dR blk d.size cap] w λ_ w'=>∃dr,dM (df _) w' blk dr/\PermIn 0 d.size d dr/\SortedIn lt 0 d.size dr/\H (aj blk) w w':=by
 cases bb
 all_goals
  first|refine bz func139 ntmps139 λbk af=> ?_|refine bz func216 ntmps216 λbk af=> ?_
  have KB:IntKind.u64.wrap (d.size:Int)=d.size:=by rw[tg];omega
  have ab:=abq d.size cU;have am:=aKY (blk:=blk) cap d.size w d 0 d.size (bitsLen d.size) (by omega) h (by omega) (by omega) cU (by omega) (.inl rfl);simp[go_sem,KB];refine(HU d.size cU w).mono ?_;rintro _ ai ⟨rfl,bM⟩;subst ai;simp[go_sem];refine am.mono ?_;rintro _ an ⟨dr,J,T,ag,aP⟩;simp[go_sem];exact af _ _ ⟨dr,J,T,ag,aP⟩
end
end Go.Proofs.YtoohkhcpboldjaaGreatDoor.SS
