import Derived.Test.YtbkmdnmncaakdaaGreatPfHt
import Derived.Test.YtbkmdnmncaakdaaGreatPfHo
import Derived.Test.YtbkmdnmncaakdaaGreatPfHg
set_option linter.unusedVariables false
set_option linter.unusedSimpArgs false
set_option maxRecDepth 20000
namespace Go.Proofs.YtbkmdnmncaakdaaGreat
open Go Go.Zf
open Go.Zf (ZS)
variable{P:Nat->Prop}{h:H}{c q m:Nat}{st:St}{b:Bk}
theorem yM(a:Cr P h c q m st 0)(hm:m+1<100000000)(sh:YR b)(ll:Bool)(hw:st.sd.writes=true->VY ll b):
  RT (λw h'=>Rx (Vb st.sd.writes ll b) st iC P h c q (m+1) w h') (KW 124 [.ptr q 0,b.v,.bool ll] h):=by
 obtain⟨n,n3,n6,Dn,lg⟩:=sh.min;obtain⟨h1,ZL⟩:∃z,z=h.new (.cells b.cs 42 false):=⟨_,rfl⟩
 have x1:Ext h h1:=by rw[ZL];exact (Ext.refl h).new _
 have t1:h1.get h.n=some (.cells b.cs 42 false):=by rw[ZL,ZY]
 have Zp:∀o,h1.Zp h.n o=b.cs[o]?:=λo=>ZZ t1;have a1:Cr (λx=>P x\/x=h.n) h1 c q m st 0:=by rw[ZL];exact a.box _
 obtain⟨Q,hQ⟩:∃Q:V->H->Prop,Q=λw h'=>Rx (Vb st.sd.writes ll b) st iC P h c q (m+1) w h':=⟨_,rfl⟩
 rw[<-hQ];have plain:∀r:Int,(Vb st.sd.writes ll b).exec st=(some r,st)->Q (.int .i64 r) h1:=λr e1=>by
  rw[hQ];exact⟨r,st,rfl,e1,((Rr.refl a1).less x1 a.pq a.lt).more (by omega) hm⟩
 obtain⟨mn,TN⟩:∃z,z=2^n:=⟨_,rfl⟩
 have KH:(if b.h<b.w then b.h else b.w)=((mn:Nat):Int):=by rw[TN,<-Dn];rfl
 rw[W3 WqA,gi];cases ll with
 |true =>
  have hq:=plain 4 rfl;simp[bx,<-ZL,Zp,KH];exact hq
 |false =>
  by_cases c0:b.skip=true/\b.inter=true
  .have hq:=plain (mn:Nat) (by rw[TN,<-Dn];unfold Vb;rw[if_neg (by decide),if_pos c0];rfl)
   simp[bx,<-ZL,Zp,KH,c0.1,c0.2];exact hq
  have KG:(Vb st.sd.writes false b).exec st=(Pr.sym (if An b=3 then 10 else 11) (An b-4) (QB st.sd.writes b) λd=>Pr.done (((Xg b.w b.h).toNat/2^d:Nat):Int)).exec st:=by
   unfold Vb;rw[if_neg (by decide),if_neg c0]
  rw[lg,Dn]at KG;simp only[Int.toNat_natCast]at KG;obtain⟨dp,qk⟩:∃dp,dp=QB st.sd.writes b:=⟨_,rfl⟩
  rw[<-qk]at KG;have kv:(if n=3 then 10 else 11)<32/\n-4<cx (if n=3 then 10 else 11)/\vl (if n=3 then 10 else 11)=(if n=3 then 2 else 3):=by
   rcases (by omega:n=3\/n=4\/n=5\/n=6)with rfl|rfl|rfl|rfl<;>decide
  have dw:st.sd.writes=true->∃d:Nat,d<(if n=3 then 2 else 3)/\b.tx=((2^n/2^d:Nat):Int)/\dp=(d:Nat):=λh=>by
   obtain⟨d,d1,d2,d3⟩:=Mf sh (hw h) rfl c0 n3 n6 Dn;exact⟨d,d1,d2,by rw[qk,h];exact d3⟩
  have fh:st.sd.writes=true->0<=dp/\dp<(vl (if n=3 then 10 else 11):Nat):=λh=>by
   obtain⟨d,d1,_,d3⟩:=dw h;rw[kv.2.2];omega
  obtain⟨_,h3,a3,rfl,R⟩:=(Uh a1 (k:=if n=3 then 10 else 11) (x:=n-4) (v:=dp) hm kv.1 kv.2.1 fh).elim;have sl:=St.YF a.ok.1 kv.1 kv.2.1 (v:=dp) fh;rw[kv.2.2]at sl;rw[Pr.X2,Pr.VI]at KG;obtain⟨s,hs⟩:∃s,s=st.ZC (if n=3 then 10 else 11) (n-4) dp:=⟨_,rfl⟩
  rw[<-hs]at a3 sl KG;have s3:s<3:=by split at sl<;>omega
  have yL:8<=mn/\mn<=64/\((mn:Int)=8↔n=3):=by rw[TN];rcases (by omega:n=3\/n=4\/n=5\/n=6)with rfl|rfl|rfl|rfl<;>decide
  have shr:(mn:Int).fdiv (2^min s 64)=((mn/2^s:Nat):Int):=by
   rw[TN];rcases (by omega:n=3\/n=4\/n=5\/n=6)with rfl|rfl|rfl|rfl<;>rcases (by omega:s=0\/s=1\/s=2)with rfl|rfl|rfl<;>decide
  have lm:∀g,KW 158 [.int .i64 (mn:Nat)] g=some (.ret (.int .i64 (n:Nat)),g):=λg=>by
   have:=M0 (n:=mn) (by omega) (by omega) g;rw[show Nat.log2 mn=n by rw[TN,Nat.log2_two_pow]]at this;exact this
  rw[<-TN]at KG;obtain⟨y,hy⟩:∃y,y=mn/2^s:=⟨_,rfl⟩
  rw[<-hy]at shr KG;have Ng:ZQ 0 .shr (.int .i64 (mn:Nat)) (.int .i64 (s:Nat))=some (.int .i64 (y:Nat)):=by
   rw[XZ,if_neg (by omega),Int.toNat_natCast]
   show some (V.int .i64 ((mn:Int).fdiv (2^min s 64)))=_
   rw[shr]
  have hq:Q (.int .i64 (y:Nat)) h3:=by
   rw[hQ];exact⟨_,_,rfl,KG,R.less x1 a.pq a.lt⟩
  obtain⟨q0,_,q2⟩:=a1.wr
  -- how deep
  simp[bx,<-ZL,Zp,KH];refine Ym (C:=λo=>RT Q (Zf.fin Tryz.prog _ _ o)) (λe g=>g=h1/\e.s [0,1,2,4,6,7,8] 0=.ptr q 0/\e.s [0,1,2,4,6,7,8] 4=.ptr h.n 0/\e.s [0,1,2,4,6,7,8] 7=.int .i64 (mn:Nat)) ?_ ?_
  .cases k1:b.skip with
   |false=>simp[Zp,k1,XG]
   |true =>
    have k2:b.inter=false:=by cases k2:b.inter;rfl;exact (c0 ⟨k1,k2⟩).elim
    simp[Zp,k1,k2,XG]
  rintro e g ⟨rfl,e0,e4,e7⟩;simp[e0,e4,e7,q0,q2];refine Ym (C:=λo=>RT Q (Zf.fin Tryz.prog _ _ o)) (λe g'=>g'=g/\e.s [0,1,2,4,6,7,8] 0=.ptr q 0/\e.s [0,1,2,4,6,7,8] 7=.int .i64 (mn:Nat)/\e.s [0,1,2,4,6,7,8] 8=.int .i64 dp) ?_ ?_
  .cases WH:st.sd.writes with
   |false =>
    rw[WH]at qk;have:dp=0:=qk;simp[XG,this]
   |true =>
    obtain⟨d,d1,d2,d3⟩:=dw WH;have tq:∃tn:Nat,1<=tn/\tn<=64/\b.tx=(tn:Nat)/\mn/tn=2^d:=by
     refine⟨2^n/2^d,?_,?_,d2,?_⟩<;>rw[TN]at*<;> rcases (by omega:n=3\/n=4\/n=5\/n=6)with rfl|rfl|rfl|rfl<;>rcases (by split at d1<;>omega:d=0\/d=1\/d=2)with rfl|rfl|rfl<;>decide
    obtain⟨tn,t1',t2,t3,t4⟩:=tq;have tz:¬(tn:Int)=0:=by omega
    have ld:=λg=>M0 (n:=2^d) (by have:=Nat.two_pow_pos d;omega) (by have:mn/tn<=mn:=Nat.div_le_self _ _;omega) g;rw[Nat.log2_two_pow]at ld;obtain⟨pd,fg⟩:∃z,z=2^d:=⟨_,rfl⟩
    rw[<-fg]at t4 ld;have dl:mn/tn<=mn:=Nat.div_le_self _ _;have zt':IntKind.i64.wrap ((mn:Int)/(tn:Nat))=((pd:Nat):Int):=by
     rw[<-Int.natCast_ediv,t4,ZS (by omega) (by omega)]
    have zt:IntKind.i64.wrap ((mn:Int).tdiv (tn:Nat))=((pd:Nat):Int):=by
     rw[<-zt',Int.tdiv_eq_ediv_of_nonneg (by omega)]
    simp[e4,e7,t3,tz,show ¬tn=0 by omega,zt,zt',ld,XG,d3,Zp,-Int.natCast_ediv]
  .rintro e g ⟨rfl,e0,e7,e8⟩
   by_cases n8:n=3
   .have m8:(mn:Int)=8:=yL.2.2.2 n8
    subst n8;have fe:KW 120 [.ptr q 0,.int .i64 10,.int .i64 0,.int .i64 dp] g=some (.ret (.int .i64 (s:Nat)),h3):=a3;rw[m8]at Ng;simp[e0,e7,e8,m8,fe,Ng];exact hq
   .have m8:¬(mn:Int)=8:=λh=>n8 (yL.2.2.1 h)
    rw[if_neg n8]at a3;have fe:KW 120 [.ptr q 0,.int .i64 11,.int .i64 ((n-4:Nat):Int),.int .i64 dp] g=some (.ret (.int .i64 (s:Nat)),h3):=a3;have z4:IntKind.i64.wrap ((n:Int)-4)=((n-4:Nat):Int):=by rw[ZS (by omega) (by omega)];omega
    simp[e0,e7,e8,m8,show ¬mn=8 by omega,lm,z4,fe,Ng];exact hq
end Go.Proofs.YtbkmdnmncaakdaaGreat
set_option linter.unusedVariables false
set_option linter.unusedSimpArgs false
set_option maxRecDepth 20000
namespace Go.Proofs.YtbkmdnmncaakdaaGreat
open Go Go.Zf
open Go.Zf (ZS)
structure Jb(P P2:Nat->Prop)(h2:H)(c q t z r:Nat)(rc:WI)(m:Nat)(st:St)(e:Int)(bb:Bk)(g:H):Prop where
 co:Cr P2 g c q m st e
 kp:Kp (λb=>P b/\b≠q) h2 g
 hP:∀b,P b->P2 b
 bt:g.get t=some (.cells bb.cs 42 false)
 bz:g.get z=some (.cells YC.cs 42 false)
 br:g.get r=some rc
 pt:P2 t/\¬P t/\t≠q
 pz:P2 z/\¬P z/\z≠q/\z≠t
 pr:P2 r/\r≠q/\r≠t
section jb
variable{P P2:Nat->Prop}{h2:H}{c q t z r:Nat}{rc:WI}{m:Nat}{st:St}{e:Int}{bb:Bk}{g:H}
theorem Jb.rd(a:Jb P P2 h2 c q t z r rc m st e bb g)(o:Nat):g.Zp t o=bb.cs[o]?:=ZZ a.bt
theorem Jb.put(a:Jb P P2 h2 c q t z r rc m st e bb g)(SP:Bk):Jb P P2 h2 c q t z r rc m st e SP (g.put t (.cells SP.cs 42 false)) :=
 ⟨a.co.put a.pt.1 a.pt.2.2 _,⟨by rw[H.ZJ];exact a.kp.n,λb hb=>by rw[ZX (by rintro rfl;exact a.pt.2.1 hb.1),a.kp.get b hb]⟩,a.hP,ZV (H.ZW a.bt),by rw[ZX a.pz.2.2.2];exact a.bz,by rw[ZX a.pr.2.2];exact a.br,a.pt,a.pz,a.pr⟩
variable{o:Nat}{v:V}{SP:Bk}
theorem Jb.wr(a:Jb P P2 h2 c q t z r rc m st e bb g)(ho:o<23)(hs:bb.cs.set o v=SP.cs):∃g',g.WO t o v=some g'/\Jb P P2 h2 c q t z r rc m st e SP g'/\∀x,x≠t->g'.get x=g.get x :=
 ⟨_,Zw a.bt ho v,by rw[hs];exact a.put SP,λx hx=>ZX hx⟩
theorem Jb.Gb(a:Jb P P2 h2 c q t z r rc m st e bb g){w:V}(ho:o+2<=23)(hs:splice bb.cs o [v,w]=SP.cs):∃g',g.X4 t o [v,w]=some g'/\Jb P P2 h2 c q t z r rc m st e SP g'/\∀x,x≠t->g'.get x=g.get x :=
 ⟨_,ZF a.bt ho,by rw[hs];exact a.put SP,λx hx=>ZX hx⟩
variable{m':Nat}{YI:St}{g':H}
theorem Jb.go{e':Int}(a:Jb P P2 h2 c q t z r rc m st e bb g)(R:Rr P2 g c q m' YI e' g'):Jb P P2 h2 c q t z r rc m' YI e' bb g' :=
 ⟨R.co,a.kp.trans (R.kp.mono λb hb=>⟨a.hP b hb.1,hb.2⟩),a.hP,R.get a.pt.1 a.pt.2.2 a.bt,R.get a.pz.1 a.pz.2.2.1 a.bz,R.get a.pr.1 a.pr.2.1 a.br,a.pt,a.pz,a.pr⟩
theorem Jb.more(a:Jb P P2 h2 c q t z r rc m st e bb g)(h1:m<=m')(Eh:m'<100000000):Jb P P2 h2 c q t z r rc m' st e bb g:=a.go ((Rr.refl a.co).more h1 Eh)
theorem Jb.ext(a:Jb P P2 h2 c q t z r rc m st e bb g)(x:Ext g g'):Jb P P2 h2 c q t z r rc m st e bb g':=a.go ((Rr.refl a.co).ext x)
theorem Jb.sym(a:Jb P P2 h2 c q t z r rc m st 0 bb g){k x:Nat}{v:Int}(hm:m+1<100000000)(hk:k<32)(hx:x<cx k)(hw:st.sd.writes=true->0<=v/\v<vl k):
  ∃g',KW 120 [.ptr q 0,.int .i64 (k:Nat),.int .i64 (x:Nat),.int .i64 v] g=some (.ret (.int .i64 (st.ZC k x v:Nat)),g')/\Jb P P2 h2 c q t z r rc (m+1) (st.sym k x v) 0 bb g'/\∀x,P2 x->x≠q->g'.get x=g.get x:=by
 obtain⟨_,g',a1,rfl,R⟩:=(Uh a.co hm hk hx hw).elim;exact⟨g',a1,a.go R,λx h1 h2=>R.kp.get x ⟨h1,h2⟩⟩
theorem Jb.box(a:Jb P P2 h2 c q t z r rc m st e bb g)(X:WI):Jb P (λx=>P2 x\/x=g.n) h2 c q t z r rc m st e bb (g.new X):=by
 have x:Ext g (g.new X):=(Ext.refl g).new X;exact⟨a.co.box X,a.kp.trans (Kp.of x λb hb=>a.co.lt b (a.hP b hb.1)),λb hb=>.inl (a.hP b hb),(x.get _ (H.ZW a.bt)).trans a.bt,(x.get _ (H.ZW a.bz)).trans a.bz,(x.get _ (H.ZW a.br)).trans a.br,⟨.inl a.pt.1,a.pt.2⟩,⟨.inl a.pz.1,a.pz.2⟩,⟨.inl a.pr.1,a.pr.2⟩⟩
theorem Jb.rC(a:Jb P P2 h2 c q t z r rc m st e bb g){u:Nat}(pu:P2 u/\¬P u/\u≠q)(hu:u≠t/\u≠z/\u≠r)(X:WI):Jb P P2 h2 c q t z r rc m st e bb (g.put u X) :=
 ⟨a.co.put pu.1 pu.2.2 _,⟨by rw[H.ZJ];exact a.kp.n,λb hb=>by rw[ZX (by rintro rfl;exact pu.2.1 hb.1),a.kp.get b hb]⟩,a.hP,by rw[ZX (Ne.symm hu.1)];exact a.bt,by rw[ZX (Ne.symm hu.2.1)];exact a.bz,by rw[ZX (Ne.symm hu.2.2)];exact a.br,a.pt,a.pz,a.pr⟩
variable{h:H}
theorem Jb.fin(a:Jb P P2 h2 c q t z r rc m st e bb g)(x:Ext h h2)(lt:∀b,P b->b<h.n)(pq:P q):g.Ze t 0 23=some bb.cs/\g.X4 z 0 bb.cs=some (g.put z (.cells bb.cs 42 false)) /\
  (g.put z (.cells bb.cs 42 false)).Ze z 0 23=some bb.cs/\Rr P h c q m st e (g.put z (.cells bb.cs 42 false)):=by
 refine⟨by rw[ZU a.bt (by simp)];rfl,?_,by rw[ZU (ZV (H.ZW a.bz)) (by simp)];rfl,⟨(a.co.put a.pz.1 a.pz.2.2.1 _).less pq a.hP,⟨by rw[H.ZJ];exact Nat.le_trans x.n a.kp.n,λb hb=>by rw[ZX (by rintro rfl;exact a.pz.2.1 hb.1),a.kp.get b hb,x.get b (lt b hb.1)]⟩⟩⟩;rw[ZF a.bz (by simp)];have:splice YC.cs 0 bb.cs=bb.cs:=by simp[splice]
 rw[this]
end jb
def Ga(vs:Vs)(b:Bk)(cm:Bool)(r0:Nat)(r1:Int):Pr Bk :=
 .sym 16 (vs (r0:Nat)).2 b.mm λmm=>(Y8 (mm:Nat) (Y2 (mm:Nat) (vs (r0:Nat)).1) b.m0).bind λm0 =>
 (if cm then Y8 (mm:Nat) (Y2 (mm:Nat) (vs r1).1) b.m1 else .done b.m1).bind λm1 =>
 T6 cm {b with comp:=cm,r0:=(r0:Nat),r1:=r1,mm:=(mm:Nat),m0:=m0,m1:=m1}
abbrev HV:List Nat:=[0,1,2,5,6,7,8,9,11]
structure ri(q gg t z r:Nat)(e:E):Prop where
 e0:e.s HV 0=.ptr q 0
 e1:e.s HV 1=.ptr gg 0
 e5:e.s HV 5=.ptr t 0
 e6:e.s HV 6=.ptr z 0
 e7:e.s HV 7=.ptr r 0
variable{P D:Nat->Prop}{h:H}{c q m:Nat}{st:St}{G:Gr}{b:Bk}
theorem v8(a:Cr P h c q m st 0){gg:Nat}(ga:YY D h gg G)(dP:∀x,D x->P x/\x≠q)(ig:PV G b)(hm:m+60<100000000)(sm:RQ b)
  (hw:st.sd.writes=true->XD b) (hz:st.sd.writes=false->b.r1=0/\b.m1=(0,0)/\b.ob=false) :
  RT (λw h'=>Rv Bk.v ((YM (Zz G b) b).exec st) P h c q (m+60) w h') (KW 125 [.ptr q 0,.ptr gg 0,b.v] h):=by
 obtain⟨h1,ZL⟩:∃z,z=h.new (.cells b.cs 42 false):=⟨_,rfl⟩
 obtain⟨h2,Zq⟩:∃z,z=h1.new (.cells YC.cs 42 false):=⟨_,rfl⟩
 obtain⟨h3,Zc⟩:∃z,z=(h2.new (.cells [.int .i64 0,.int .i64 0,.int .i64 0,.int .i64 0] 36 false)).put h2.n (.cells [.int .i64 b.x,.int .i64 b.y,.int .i64 b.w,.int .i64 b.h] 36 false):=⟨_,rfl⟩
 have n1:h1.n=h.n+1:=by rw[ZL,H.ZP]
 have n2:h2.n=h1.n+1:=by rw[Zq,H.ZP]
 have n3:h3.n=h2.n+1:=by rw[Zc,H.ZJ,H.ZP]
 have x2:Ext h h2:=by rw[Zq,ZL];exact ((Ext.refl h).new _).new _
 have x3:Ext h h3:=by rw[Zc];exact (x2.new _).put x2.n _
 have qn:=a.lt q a.pq;have np:∀{i},h.n<=i->¬P i:=λhi hp=>by have:=a.lt _ hp;omega
 have t2:h2.get h.n=some (.cells b.cs 42 false):=by rw[Zq,ZR (by omega),ZL,ZY]
 obtain⟨t,ht⟩:∃t,t=h.n:=⟨_,rfl⟩
 obtain⟨z,tZ⟩:∃z,z=h1.n:=⟨_,rfl⟩
 obtain⟨r,hrn⟩:∃r,r=h2.n:=⟨_,rfl⟩
 obtain⟨rc,hrc⟩:∃rc:WI,rc=.cells [.int .i64 b.x,.int .i64 b.y,.int .i64 b.w,.int .i64 b.h] 36 false:=⟨_,rfl⟩
 obtain⟨P2,LA⟩:∃P2:Nat->Prop,P2=λx=>((P x\/x=h.n)\/x=h1.n)\/x=h2.n:=⟨_,rfl⟩
 have j3:Jb P P2 h3 c q t z r rc m st 0 b h3:=by
  refine⟨?_,Kp.refl _ _,λb hb=>by rw[LA];exact .inl (.inl (.inl hb)),?_,?_,?_,?_,?_,?_⟩
  .rw[LA,Zc,Zq,ZL];exact (((a.box _).box _).box _).put (.inr rfl) (by rw[<-ZL,<-Zq];omega) _
  .rw[Zc,ZX (by omega),ZR (by omega),ht];exact t2
  .rw[Zc,ZX (by omega),ZR (by omega),Zq,tZ,ZY]
  .rw[Zc,hrn,ZV (by rw[H.ZP];omega),hrc]
  .rw[LA,ht];exact⟨.inl (.inl (.inr rfl)),np (by omega),by omega⟩
  .rw[LA,tZ];exact⟨.inl (.inr rfl),np (by omega),by omega,by omega⟩
  .rw[LA,hrn];exact⟨.inr rfl,by omega,by omega⟩
 have w3:(h2.new (.cells [.int .i64 0,.int .i64 0,.int .i64 0,.int .i64 0] 36 false)).X4 h2.n 0 [.int .i64 b.x,.int .i64 b.y,.int .i64 b.w,.int .i64 b.h]=some h3:=by rw[ZF ZY (by simp),Zc];rfl
 have lE:∀{P4 m st e bb g},Jb P P4 h3 c q t z r rc m st e bb g->YY D g gg G:=λ{P4 m st e bb g} j=>(ga.ext x3).keep j.kp.n λx hx=>j.kp.get x (dP x hx);obtain⟨Q,hQ⟩:∃Q:V->H->Prop,Q=λw h'=>Rv Bk.v ((YM (Zz G b) b).exec st) P h c q (m+60) w h':=⟨_,rfl⟩
 -- ay or not
 have cb:0<=Yc b.comp/\Yc b.comp<(2:Nat):=by cases b.comp<;>decide
 obtain⟨g1,a1,j1,k1⟩:=j3.sym (k:=15) (x:=0) (v:=Yc b.comp) (by omega) (by decide) (by decide) λ_=>cb;have cw:st.sd.writes=true->decide (st.ZC 15 0 (Yc b.comp)=1)=b.comp:=λh=>by rw[St.Yx h];cases b.comp<;>rfl
 have tQ:(YM (Zz G b) b).exec st=(Pr.sym 14 0 b.r0 λr0=>(if decide (st.ZC 15 0 (Yc b.comp)=1)=true then Pr.sym 14 1 b.r1 λr1=>Pr.done ((r1:Nat):Int)else Pr.done b.r1).bind λr1=>Ga (Zz G b) b (decide (st.ZC 15 0 (Yc b.comp)=1)) r0 r1).exec (st.sym 15 0 (Yc b.comp)):=rfl;obtain⟨cs,hcs⟩:∃s,s=st.ZC 15 0 (Yc b.comp):=⟨_,rfl⟩
 obtain⟨T5,SZ⟩:∃z,z=st.sym 15 0 (Yc b.comp):=⟨_,rfl⟩
 rw[<-hcs]at a1 cw tQ;rw[<-SZ]at j1 tQ;obtain⟨cm,I2⟩:∃cm,cm=decide (cs=1):=⟨_,rfl⟩
 have yq2:decide ((cs:Int)=1)=cm:=by rw[I2,decide_eq_decide];omega
 rw[<-I2]at cw tQ;have w1:T5.sd.writes=st.sd.writes:=by rw[SZ];exact St.YG _ _ _ _
 obtain⟨g2,b2,j2,k2⟩:=j1.wr (o:=13) (v:=.bool cm) (SP:={b with comp:=cm}) (by omega) rfl
 -- references
 have r0l:T5.sd.writes=true->0<=b.r0/\b.r0<(3:Nat):=λh=>by rw[w1]at h;have:=(hw h).2.1;omega
 obtain⟨g3,a3,j4,k3⟩:=j2.sym (k:=14) (x:=0) (v:=b.r0) (by omega) (by decide) (by decide) r0l;have rl:T5.ZC 14 0 b.r0<3:=St.YF j2.co.ok.1 (k:=14) (by decide) (by decide) r0l;have rh:(YM (Zz G b) b).exec st=((if cm=true then Pr.sym 14 1 b.r1 λr1=>Pr.done ((r1:Nat):Int)else Pr.done b.r1).bind λr1=>Ga (Zz G b) b cm (T5.ZC 14 0 b.r0) r1).exec (T5.sym 14 0 b.r0):=tQ;obtain⟨r0,yc⟩:∃s,s=T5.ZC 14 0 b.r0:=⟨_,rfl⟩
 obtain⟨Xz,Tz⟩:∃z,z=T5.sym 14 0 b.r0:=⟨_,rfl⟩
 rw[<-yc]at a3 rl rh;rw[<-Tz]at j4 rh;have w2:Xz.sd.writes=st.sd.writes:=by rw[Tz,St.YG,w1]
 obtain⟨g4,b4,j5,k4⟩:=j4.wr (o:=14) (v:=.int .i64 (r0:Nat)) (SP:={b with comp:=cm,r0:=(r0:Nat)}) (by omega) rfl;have QU:∀o,h2.Zp t o=b.cs[o]?:=λo=>ZZ (by rw[ht];exact t2);have BA:KW 120 [.ptr q 0,.int .i64 15,.int .i64 0,.int .i64 (Yc b.comp)] h3=some (.ret (.int .i64 (cs:Nat)),g1):=a1;have fe:KW 120 [.ptr q 0,.int .i64 14,.int .i64 0,.int .i64 b.r0] g2=some (.ret (.int .i64 (r0:Nat)),g3):=a3;rw[<-hQ,W3 Wqz,gd];simp[bx,nw,<-ZL,<-Zq,<-ht,<-tZ,<-hrn,QU,hrn▸w3,j3.rd,V2,BA,yq2,b2,j2.rd,fe,b4];have sec:∀{x:Prop},(b.comp=true->(0<=b.r1/\b.r1<=2)/\Y5 b.m1/\b.ob=false->x)->st.sd.writes=true->cm=true->x:=λ{x} k h hc=>by
  have:=(hw h).2.2.2.2.2;unfold X9 at this;rw[cw h]at hc;rw[if_pos hc]at this;exact k hc this
 have zer:cm=false->b.r1=0/\b.m1=(0,0):=λhc=>by
  cases WH:st.sd.writes with
  |false=>exact⟨(hz WH).1,(hz WH).2.1⟩
  |true =>
   have:=(hw WH).2.2.2.2.2;unfold X9 at this;rw[cw WH]at hc;rw[if_neg (by rw[hc];decide)]at this;exact this
 have obz:cm=true->b.ob=false:=λhc=>by
  cases WH:st.sd.writes with
  |false=>exact (hz WH).2.2
  |true=>exact sec (λ_ x=>x.2.2) WH hc
 obtain⟨Pos,Uy⟩:∃Pos:E->H->Prop,Pos=λe g=>∃(r1:Int) (SY:St),(YM (Zz G b) b).exec st=(Ga (Zz G b) b cm r0 r1).exec SY/\SY.sd.writes=st.sd.writes/\Jb P P2 h3 c q t z r rc (m+3) SY 0 {b with comp:=cm,r0:=(r0:Nat),r1:=r1} g/\ri q gg t z r e/\(cm=true->0<=r1/\r1<=2):=⟨_,rfl⟩
 have uH:g4.Zp t 13=some (.bool cm):=by rw[j5.rd];rfl
 have r15:g4.Zp t 15=some (.int .i64 b.r1):=by rw[j5.rd];rfl
 refine Ym (C:=λo=>RT Q (Zf.fin Tryz.prog _ _ o)) Pos ?_ ?_
 .cases hc:cm with
  |true =>
   rw[hc]at rh uH j5;have r1l:Xz.sd.writes=true->0<=b.r1/\b.r1<(3:Nat):=λh=>by rw[w2]at h;have:=sec (λ_ x=>x.1) h hc;omega
   obtain⟨g5,a5,j6,k5⟩:=j5.sym (k:=14) (x:=1) (v:=b.r1) (by omega) (by decide) (by decide) r1l;have sl:Xz.ZC 14 1 b.r1<3:=St.YF j5.co.ok.1 (k:=14) (by decide) (by decide) r1l;have rf:(YM (Zz G b) b).exec st=(Ga (Zz G b) b true r0 ((Xz.ZC 14 1 b.r1:Nat):Int)).exec (Xz.sym 14 1 b.r1):=rh;obtain⟨s,hs⟩:∃s,s=Xz.ZC 14 1 b.r1:=⟨_,rfl⟩
   rw[<-hs]at a5 sl rf;obtain⟨g6,b6,j7,k6⟩:=j6.wr (o:=15) (v:=.int .i64 (s:Nat)) (SP:={b with comp:=true,r0:=(r0:Nat),r1:=(s:Nat)}) (by omega) rfl;have ph:KW 120 [.ptr q 0,.int .i64 14,.int .i64 1,.int .i64 b.r1] g4=some (.ret (.int .i64 (s:Nat)),g5):=a5;simp[uH,r15,ph,b6,XG];rw[Uy];exact⟨(s:Nat),_,by rw[hc];exact rf,by rw[St.YG,w2],by rw[hc];exact j7,⟨by simp,by simp,by simp,by simp,by simp⟩,λ_=>by omega⟩
  |false =>
   rw[hc]at rh uH j5;obtain⟨g6,b6,j7,k6⟩:=j5.wr (o:=15) (v:=.int .i64 0) (SP:={b with comp:=false,r0:=(r0:Nat),r1:=0}) (by omega) rfl;have rf:(YM (Zz G b) b).exec st=(Ga (Zz G b) b false r0 0).exec Xz:=by rw[rh,<-(zer hc).1];rfl
   simp[uH,b6,XG];rw[Uy];exact⟨0,Xz,by rw[hc];exact rf,w2,by rw[hc];exact j7.more (by omega) (by omega),⟨by simp,by simp,by simp,by simp,by simp⟩,λh=>by rw[hc]at h;cases h⟩
 intro e g pos;rw[Uy]at pos;obtain⟨r1,SY,rf,w3',J3,E,pf⟩:=pos;clear Uy
 -- candidates
 obtain⟨_,h5,a5,rfl,x5⟩:=(Mu (lE J3) ig (ref:=(r0:Nat)) (by omega)).elim;obtain⟨pe,jr,vk3⟩:=Pa (lE J3).ok b (r0:Nat) (by omega) (by omega);have J4:=J3.ext x5;obtain⟨l,hl⟩:∃l,l=(Zz G b (r0:Nat)).1:=⟨_,rfl⟩
 obtain⟨nc,hnc⟩:∃n,n=(Zz G b (r0:Nat)).2:=⟨_,rfl⟩
 rw[<-hl,<-hnc]at a5;rw[<-hl]at pe;rw[<-hnc]at vk3;have tn:t<h5.n/\z<h5.n/\r<h5.n/\q<h5.n:=⟨H.ZW J4.bt,H.ZW J4.bz,H.ZW J4.br,H.ZW J4.co.k⟩
 obtain⟨h6,OP⟩:∃z,z=(h5.new (.cells [.int .i64 0,.int .i64 0,.int .i64 0,.int .i64 0] 40 false)).put h5.n (.cells [.int .i64 l.1.1,.int .i64 l.1.2,.int .i64 l.2.1,.int .i64 l.2.2] 40 false):=⟨_,rfl⟩
 have w6:(h5.new (.cells [.int .i64 0,.int .i64 0,.int .i64 0,.int .i64 0] 40 false)).X4 h5.n 0 [.int .i64 l.1.1,.int .i64 l.1.2,.int .i64 l.2.1,.int .i64 l.2.2]=some h6:=by rw[ZF ZY (by simp),OP];rfl
 have u6:h6.get h5.n=some (.cells [.int .i64 l.1.1,.int .i64 l.1.2,.int .i64 l.2.1,.int .i64 l.2.2] 40 false):=by rw[OP,ZV (by rw[H.ZP];omega)]
 obtain⟨P3,lI⟩:∃P3:Nat->Prop,P3=λx=>P2 x\/x=h5.n:=⟨_,rfl⟩
 have np5:¬P h5.n:=λhp=>by have:=a.lt _ hp;have:=J4.kp.n;omega
 have J6:Jb P P3 h3 c q t z r rc (m+3) SY 0 {b with comp:=cm,r0:=(r0:Nat),r1:=r1} h6:=by rw[lI,OP];exact (J4.box _).rC ⟨.inr rfl,np5,by omega⟩ ⟨by omega,by omega,by omega⟩ _
 have pu:P3 h5.n/\¬P h5.n/\h5.n≠q:=⟨by rw[lI];exact .inr rfl,np5,by omega⟩
 have rr4:g.Ze r 0 4=some [.int .i64 b.x,.int .i64 b.y,.int .i64 b.w,.int .i64 b.h]:=by rw[ZU (J3.br.trans (by rw[hrc])) (by simp)];rfl
 have rr0:g.Zp t 14=some (.int .i64 (r0:Nat)):=by rw[J3.rd];rfl
 -- how a wh is told
 have mml:SY.sd.writes=true->0<=b.mm/\b.mm<(4:Nat):=λh=>by rw[w3']at h;have:=(hw h).2.2.1;omega
 obtain⟨g7,a7,j7,k7⟩:=J6.sym (k:=16) (x:=nc) (v:=b.mm) (by omega) (by decide) (by show nc<3;omega) mml;have ml:SY.ZC 16 nc b.mm<4:=St.YF J6.co.ok.1 (k:=16) (by decide) (by show nc<3;omega) mml;have mw:st.sd.writes=true->((SY.ZC 16 nc b.mm:Nat):Int)=b.mm:=λh=>by rw[St.Yx (by rw[w3'];exact h)];have:=(hw h).2.2.1;omega
 have lD:(YM (Zz G b) b).exec st=((Y8 (SY.ZC 16 nc b.mm:Nat) (Y2 (SY.ZC 16 nc b.mm:Nat) l) b.m0).bind λm0=>(if cm then Y8 (SY.ZC 16 nc b.mm:Nat) (Y2 (SY.ZC 16 nc b.mm:Nat) (Zz G b r1).1) b.m1 else .done b.m1).bind λm1 =>
   T6 cm {b with comp:=cm,r0:=(r0:Nat),r1:=r1,mm:=(SY.ZC 16 nc b.mm:Nat),m0:=m0,m1:=m1}).exec (SY.sym 16 nc b.mm):=by rw[rf,hnc,hl];rfl
 obtain⟨mm,KH⟩:∃s,s=SY.ZC 16 nc b.mm:=⟨_,rfl⟩
 obtain⟨VB,wj⟩:∃z,z=SY.sym 16 nc b.mm:=⟨_,rfl⟩
 rw[<-KH]at a7 ml mw lD;rw[<-wj]at j7 lD;have w4:VB.sd.writes=st.sd.writes:=by rw[wj,St.YG,w3']
 obtain⟨b4,JI⟩:∃b4:Bk,b4={b with comp:=cm,r0:=(r0:Nat),r1:=r1,mm:=(mm:Nat)}:=⟨_,rfl⟩
 obtain⟨g8,b8,j8,k8⟩:=j7.wr (o:=16) (v:=.int .i64 (mm:Nat)) (SP:=b4) (by omega) (by rw[JI];rfl);have a7':KW 120 [.ptr q 0,.int .i64 16,.int .i64 (nc:Nat),.int .i64 b.mm] h6=some (.ret (.int .i64 (mm:Nat)),g7):=a7;have ku:h6.Zp t 16=some (.int .i64 b.mm):=by rw[J6.rd];rfl
 have u8:g8.get h5.n=some (.cells [.int .i64 l.1.1,.int .i64 l.1.2,.int .i64 l.2.1,.int .i64 l.2.2] 40 false):=by rw[k8 _ (by omega),k7 _ pu.1 pu.2.2];exact u6
 have nX:g8.Zp t 16=some (.int .i64 (mm:Nat)):=by rw[j8.rd,JI];rfl
 have fx:g8.Ze t 17 2=some [.int .i64 b.m0.1,.int .i64 b.m0.2]:=by rw[ZU j8.bt (by simp),JI];rfl
 have su:g8.Ze h5.n 0 4=some [.int .i64 l.1.1,.int .i64 l.1.2,.int .i64 l.2.1,.int .i64 l.2.2]:=by rw[ZU u8 (by simp)];rfl
 obtain⟨w,h9,a9,V9⟩:=(Lq j8.co ml (l:=l) (v:=b.m0) pe sm.m0 (by omega) λh hm3=>by rw[w4]at h;exact (hw h).2.2.2.1).elim;generalize hV:(Y8 (mm:Nat) (Y2 (mm:Nat) l) b.m0).exec VB=RV at V9;obtain⟨o,Ux⟩:=RV;have pE:∀(v':Vc),w=IY v'->KW 161 [.ptr q 0,.int .i64 (mm:Nat),.agg [.int .i64 l.1.1,.int .i64 l.1.2,.int .i64 l.2.1,.int .i64 l.2.2],.agg [.int .i64 b.m0.1,.int .i64 b.m0.2]] g8=some (.ret (.agg [.int .i64 v'.1,.int .i64 v'.2]),h9):=λv' e=>by rw[a9,e]
 cases o with
 |none =>
  obtain⟨⟨v',Ip⟩,R9⟩:=V9;rw[Pr.RH hV]at lD;obtain⟨rL,ju,Ia,Kl⟩:=(j8.go R9).Gb (o:=17) (v:=.int .i64 v'.1) (w:=.int .i64 v'.2) (SP:={b4 with m0:=v'}) (by omega) rfl;obtain⟨f1,f2,f3,f4⟩:=Ia.fin x3 a.lt a.pq;obtain⟨_,q1,_⟩:=Ia.co.wr;have hq:Q ({b4 with m0:=v'}:Bk).v (rL.put z (.cells ({b4 with m0:=v'}:Bk).cs 42 false)):=by
   rw[hQ]
   show Rv Bk.v ((YM (Zz G b) b).exec st) P h c q (m+60) _ _
   rw[lD];exact⟨⟨_,rfl⟩,f4.more (by omega) hm⟩
  simp[E.e0,E.e1,E.e5,E.e6,E.e7,rr4,rr0,a5,w6,ku,a7',b8,nX,fx,su,pE v' Ip,ju,q1,f1,f2,f3];exact hq
 |some o9 =>
  obtain⟨Ip,R9⟩:=V9;rw[Pr.Zj hV]at lD;have w5:=(YS hV).trans w4;obtain⟨b5,QX⟩:∃b5:Bk,b5={b4 with m0:=o9}:=⟨_,rfl⟩
  obtain⟨rL,ju,Ia,Kl⟩:=(j8.go R9).Gb (o:=17) (v:=.int .i64 o9.1) (w:=.int .i64 o9.2) (SP:=b5) (by omega) (by rw[QX];rfl);obtain⟨_,q1,_⟩:=Ia.co.wr;simp[E.e0,E.e1,E.e5,E.e6,E.e7,rr4,rr0,a5,w6,ku,a7',b8,nX,fx,su,pE o9 Ip,ju,q1];have u10:rL.get h5.n=some (.cells [.int .i64 l.1.1,.int .i64 l.1.2,.int .i64 l.2.1,.int .i64 l.2.2] 40 false):=by rw[Kl _ (by omega)];exact R9.get pu.1 pu.2.2 u8
  have t13:rL.Zp t 13=some (.bool cm):=by rw[Ia.rd,QX,JI];rfl
  have t15:rL.Zp t 15=some (.int .i64 r1):=by rw[Ia.rd,QX,JI];rfl
  have t16:rL.Zp t 16=some (.int .i64 (mm:Nat)):=by rw[Ia.rd,QX,JI];rfl
  have t19:∀{g},Jb P P3 h3 c q t z r rc (m+3+1+27) Ux 0 b5 g->g.Ze t 19 2=some [.int .i64 b.m1.1,.int .i64 b.m1.2]:=λ{g} j=>by rw[ZU j.bt (by simp),QX,JI];rfl
  have t4r:rL.Ze r 0 4=some [.int .i64 b.x,.int .i64 b.y,.int .i64 b.w,.int .i64 b.h]:=by rw[ZU (Ia.br.trans (by rw[hrc])) (by simp)];rfl
  obtain⟨Pos,Uy⟩:∃Pos:Zf.E->H->Prop,Pos=λe g=>∃(m1:Vc) (T1:St) (eE:Int),Jb P P3 h3 c q t z r rc (m+58) T1 eE {b5 with m1:=m1} g/\ri q gg t z r e/\(eE=0/\(YM (Zz G b) b).exec st=(T6 cm {b5 with m1:=m1}).exec T1/\T1.sd.writes=st.sd.writes\/eE=4/\(YM (Zz G b) b).exec st=(none,T1)):=⟨_,rfl⟩
  refine Ym (C:=λo=>RT Q (Zf.fin Tryz.prog _ _ o)) Pos ?_ ?_
  .cases hc:cm with
   |false =>
    obtain⟨g11,b11,j11,VP⟩:=Ia.Gb (o:=19) (v:=.int .i64 0) (w:=.int .i64 0) (SP:={b5 with m1:=(0,0)}) (by omega) rfl;rw[hc]at t13;simp[t13,b11,XG];rw[Uy];refine⟨(0,0),Ux,0,j11.more (by omega) (by omega),⟨by simp,by simp,by simp,by simp,by simp⟩,.inl ⟨rfl,?_,w5⟩⟩;rw[lD,QX,JI,hc];have:=(zer hc).2;rw[<-this];rfl
   |true =>
    obtain⟨_,BQ,ko,rfl,yT⟩:=(Mu (lE Ia) ig (pf hc)).elim;obtain⟨vl1,vl2,vl3⟩:=Pa (lE Ia).ok b r1 (pf hc).1 (pf hc).2;have o8:(YM (Zz G b) b).exec st=((Y8 (mm:Nat) (Y2 (mm:Nat) (Zz G b r1).1) b.m1).bind λm1=>T6 cm {b5 with m1:=m1}).exec Ux:=by rw[lD,QX,JI,hc];rfl
    obtain⟨l2,hl2⟩:∃l,l=(Zz G b r1).1:=⟨_,rfl⟩
    rw[<-hl2]at ko vl1 o8;have u11:=(yT.get _ (H.ZW u10)).trans u10;obtain⟨IC,lC⟩:∃z,z=BQ.put h5.n (.cells [.int .i64 l2.1.1,.int .i64 l2.1.2,.int .i64 l2.2.1,.int .i64 l2.2.2] 40 false):=⟨_,rfl⟩
    have w12:BQ.X4 h5.n 0 [.int .i64 l2.1.1,.int .i64 l2.1.2,.int .i64 l2.2.1,.int .i64 l2.2.2]=some IC:=by rw[ZF u11 (by simp),lC];rfl
    have j12:Jb P P3 h3 c q t z r rc (m+3+1+27) Ux 0 b5 IC:=by rw[lC];exact (Ia.ext yT).rC pu ⟨by omega,by omega,by omega⟩ _
    have s12:IC.Ze h5.n 0 4=some [.int .i64 l2.1.1,.int .i64 l2.1.2,.int .i64 l2.2.1,.int .i64 l2.2.2]:=by rw[lC,ZU (ZV (H.ZW u11)) (by simp)];rfl
    have nX:IC.Zp t 16=some (.int .i64 (mm:Nat)):=by rw[j12.rd,QX,JI];rfl
    obtain⟨w',Gw,a13,V13⟩:=(Lq j12.co ml (l:=l2) (v:=b.m1) vl1 sm.m1 (by omega) λh hm3=>by rw[w5]at h;exact sec (λ_ x=>x.2.1) h hc).elim;generalize hV':(Y8 (mm:Nat) (Y2 (mm:Nat) l2) b.m1).exec Ux=RV at V13;obtain⟨o,T1⟩:=RV;have fin:∀(v':Vc) (eE:Int),w'=IY v'->Rr P3 IC c q (m+3+1+27+27) T1 eE Gw->(eE=0/\(YM (Zz G b) b).exec st=(T6 cm {b5 with m1:=v'}).exec T1/\T1.sd.writes=st.sd.writes\/eE=4/\(YM (Zz G b) b).exec st=(none,T1)) ->
      ∃zU,KW 161 [.ptr q 0,.int .i64 (mm:Nat),.agg [.int .i64 l2.1.1,.int .i64 l2.1.2,.int .i64 l2.2.1,.int .i64 l2.2.2],.agg [.int .i64 b.m1.1,.int .i64 b.m1.2]] IC=some (.ret (.agg [.int .i64 v'.1,.int .i64 v'.2]),Gw)/\Gw.X4 t 19 [.int .i64 v'.1,.int .i64 v'.2]=some zU/\∀e,ri q gg t z r e->Pos e zU:=λv' eE e1 R he=>by
     obtain⟨zU,b14,lB,N0⟩:=(j12.go R).Gb (o:=19) (v:=.int .i64 v'.1) (w:=.int .i64 v'.2) (SP:={b5 with m1:=v'}) (by omega) rfl;exact⟨zU,by rw[a13,e1],b14,λe Ee=>by rw[Uy];exact⟨v',T1,eE,lB.more (by omega) (by omega),Ee,he⟩⟩
    rw[hc]at t13;have done:∃(v':Vc) (zU:H),KW 161 [.ptr q 0,.int .i64 (mm:Nat),.agg [.int .i64 l2.1.1,.int .i64 l2.1.2,.int .i64 l2.2.1,.int .i64 l2.2.2],.agg [.int .i64 b.m1.1,.int .i64 b.m1.2]] IC=some (.ret (.agg [.int .i64 v'.1,.int .i64 v'.2]),Gw)/\Gw.X4 t 19 [.int .i64 v'.1,.int .i64 v'.2]=some zU/\∀e,ri q gg t z r e->Pos e zU:=by
     cases o with
     |none =>
      obtain⟨⟨v',Ip⟩,R⟩:=V13;obtain⟨zU,k⟩:=fin v' 4 Ip R (.inr ⟨rfl,by rw[o8,Pr.RH hV']⟩);exact⟨v',zU,k⟩
     |some m1' =>
      obtain⟨Ip,R⟩:=V13;obtain⟨zU,k⟩:=fin m1' 0 Ip R (.inl ⟨rfl,by rw[o8,Pr.Zj hV'],(YS hV').trans w5⟩);exact⟨m1',zU,k⟩
    obtain⟨v',zU,c1,c2,c3⟩:=done;simp[t13,t15,t16,t4r,ko,w12,s12,nX,t19 j12,c1,c2,XG];exact c3 _ ⟨by simp,by simp,by simp,by simp,by simp⟩
  intro e g pos;rw[Uy]at pos;obtain⟨m1,T1,eE,lB,E,pos⟩:=pos;clear Uy;obtain⟨_,p1,_⟩:=lB.co.wr;rcases pos with ⟨rfl,o8,w6⟩|⟨rfl,o8⟩
  rotate_left
  .obtain⟨f1,f2,f3,f4⟩:=lB.fin x3 a.lt a.pq
   have hq:Q ({b5 with m1:=m1}:Bk).v (g.put z (.cells ({b5 with m1:=m1}:Bk).cs 42 false)):=by
    rw[hQ]
    show Rv Bk.v ((YM (Zz G b) b).exec st) P h c q (m+60) _ _
    rw[o8];exact⟨⟨_,rfl⟩,f4.more (by omega) hm⟩
   simp[E.e0,E.e5,E.e6,p1,f1,f2,f3];exact hq
  -- the filter
  obtain⟨b6,hb6⟩:∃b6:Bk,b6={b5 with m1:=m1}:=⟨_,rfl⟩
  rw[<-hb6]at lB o8;have f6:b6.fl=b.fl/\b6.ob=b.ob/\b6.comp=cm:=by rw[hb6,QX,JI];exact⟨rfl,rfl,rfl⟩
  have fll:T1.sd.writes=true->0<=b.fl/\b.fl<(3:Nat):=λh=>by rw[w6]at h;have:=(hw h).2.2.2.2.1;omega
  obtain⟨g15,a15,j15,XT⟩:=lB.sym (k:=20) (x:=0) (v:=b.fl) (by omega) (by decide) (by decide) fll;have jo:(YM (Zz G b) b).exec st=((if cm then Pr.done b.ob else Sg 21 0 b.ob).bind λob=>.done {b6 with fl:=(T1.ZC 20 0 b.fl:Nat),ob:=ob}).exec (T1.sym 20 0 b.fl):=by
   rw[o8];unfold T6;rw[f6.1,f6.2.1];rfl
  obtain⟨fl,jW⟩:∃s,s=T1.ZC 20 0 b.fl:=⟨_,rfl⟩
  obtain⟨HW,F9⟩:∃z,z=T1.sym 20 0 b.fl:=⟨_,rfl⟩
  rw[<-jW]at a15 jo;rw[<-F9]at j15 jo;obtain⟨b7,aw⟩:∃b7:Bk,b7={b6 with fl:=(fl:Nat)}:=⟨_,rfl⟩
  obtain⟨g16,b16,j16,I9⟩:=j15.wr (o:=21) (v:=.int .i64 (fl:Nat)) (SP:=b7) (by omega) (by rw[aw];rfl);have yq1:KW 120 [.ptr q 0,.int .i64 20,.int .i64 0,.int .i64 b.fl] g=some (.ret (.int .i64 (fl:Nat)),g15):=a15;have r21:g.Zp t 21=some (.int .i64 b.fl):=by rw[lB.rd,<-f6.1];rfl
  simp[E.e0,E.e1,E.e5,E.e6,E.e7,p1,r21,yq1,b16];have qt:g16.Zp t 13=some (.bool cm):=by rw[j16.rd,aw,<-f6.2.2];rfl
  have s22:g16.Zp t 22=some (.bool b.ob):=by rw[j16.rd,aw,<-f6.2.1];rfl
  obtain⟨Pos,Uy⟩:∃Pos:Zf.E->H->Prop,Pos=λe g=>∃(ob:Bool) (ru:St),(YM (Zz G b) b).exec st=(some {b7 with ob:=ob},ru)/\Jb P P3 h3 c q t z r rc (m+60) ru 0 b7 g/\e.s HV 0=.ptr q 0/\e.s HV 5=.ptr t 0/\e.s HV 6=.ptr z 0/\e.s HV 11=.bool ob:=⟨_,rfl⟩
  refine Ym (C:=λo=>RT Q (Zf.fin Tryz.prog _ _ o)) Pos ?_ ?_
  .cases hc:cm with
   |true =>
    rw[hc]at qt jo;simp[qt,XG];rw[Uy];exact⟨false,HW,by rw[jo,aw,obz hc];rfl,j16.more (by omega) hm,by simp,by simp,by simp,by simp⟩
   |false =>
    rw[hc]at qt jo;have ob2:0<=Yc b.ob/\Yc b.ob<(2:Nat):=by cases b.ob<;>decide
    obtain⟨g17,a17,j17,NZ⟩:=j16.sym (k:=21) (x:=0) (v:=Yc b.ob) (by omega) (by decide) (by decide) λ_=>ob2;have ex7:(YM (Zz G b) b).exec st=(some {b7 with ob:=decide (HW.ZC 21 0 (Yc b.ob)=1)},HW.sym 21 0 (Yc b.ob)):=by rw[jo,aw];rfl
    obtain⟨s,hs⟩:∃s,s=HW.ZC 21 0 (Yc b.ob):=⟨_,rfl⟩
    rw[<-hs]at a17 ex7;have yq0:KW 120 [.ptr q 0,.int .i64 21,.int .i64 0,.int .i64 (Yc b.ob)] g16=some (.ret (.int .i64 (s:Nat)),g17):=a17;have ds:decide ((s:Int)=1)=decide (s=1):=by rw[decide_eq_decide];omega
    simp[qt,s22,V2,yq0,ds,XG];rw[Uy];exact⟨_,_,ex7,j17.more (by omega) hm,by simp,by simp,by simp,by simp⟩
  intro e g pos;rw[Uy]at pos;obtain⟨ob,ru,ex8,j18,e0,e5,e6,Vn⟩:=pos;obtain⟨g19,b19,j19,UO⟩:=j18.wr (o:=22) (v:=.bool ob) (SP:={b7 with ob:=ob}) (by omega) rfl;obtain⟨f1,f2,f3,f4⟩:=j19.fin x3 a.lt a.pq;have hq:Q ({b7 with ob:=ob}:Bk).v (g19.put z (.cells ({b7 with ob:=ob}:Bk).cs 42 false)):=by
   rw[hQ]
   show Rv Bk.v ((YM (Zz G b) b).exec st) P h c q (m+60) _ _
   rw[ex8];exact⟨rfl,f4⟩
  simp[e0,e5,e6,Vn,b19,f1,f2,f3];exact hq
end Go.Proofs.YtbkmdnmncaakdaaGreat
set_option linter.unusedVariables false
set_option linter.unusedSimpArgs false
set_option maxRecDepth 20000
namespace Go.Proofs.YtbkmdnmncaakdaaGreat
open Go Go.Zf
open Go.Zf (ZS)
abbrev Nj:List Nat:=[0,1,3,4,5,6,7,10]
structure og(h0:H)(g p n:Nat)(b:Bk)(i:Nat)(e:E)(h:H):Prop where
 xx:Ext h0 h
 hp:h.get p=some (.cells b.cs 42 false)
 e0:e.s Nj 0=.ptr g 0
 e3:e.s Nj 3=.ptr p 0
 e5:e.s Nj 5=.int .i64 (n:Nat)
 e6:e.s Nj 6=.int .i64 (i:Nat)
variable{D:Nat->Prop}{g:Nat}{G:Gr}{b:Bk}
theorem tj{h0:H}{p n:Nat}(a:YY D h0 g G)(ig:PV G b)(hn:n<=2)(hm:b.mm=0\/b.mm=1\/b.mm=2)(hr:∀i,i<n->0<=T0 b i/\T0 b i<=2):
  ∀k e h,(k<=n/\og h0 g p n b (n-k) e h/\∀i,i<n-k->HI b i=Y2 b.mm (Zz G b (T0 b i)).1)->LS (λk e h=>k<=n/\og h0 g p n b (n-k) e h/\∀i,i<n-k->HI b i=Y2 b.mm (Zz G b (T0 b i)).1)
   (λs=>(s.x=.ex 0/\(∀i,i<n->HI b i=Y2 b.mm (Zz G b (T0 b i)).1)/\Ext h0 s.h)\/(s.x=.rt/\s.e.s Nj 4=.bool false/\(∃i,i<n/\HI b i≠Y2 b.mm (Zz G b (T0 b i)).1)/\Ext h0 s.h)) k (Ti KW ZI e h):=by
 rintro k e h ⟨hk,⟨xx,hp,e0,e3,e5,e6⟩,hs⟩;obtain⟨i,hi⟩:∃i,i=n-k:=⟨_,rfl⟩
 rw[<-hi]at e6 hs;by_cases ci:i=n
 .subst ci
  simp[Ti,e6,e5];exact .inl ⟨rfl,hs,xx⟩
 have TW:i<n:=by omega
 have OI:(i:Int)<n:=by omega
 obtain⟨y0,y1,y2,y3⟩:h.Zp p 0=some (.int .i64 b.x)/\h.Zp p 1=some (.int .i64 b.y)/\h.Zp p 2=some (.int .i64 b.w)/\h.Zp p 3=some (.int .i64 b.h):=⟨ZZ hp,ZZ hp,ZZ hp,ZZ hp⟩
 obtain⟨_,h2,a2,rfl,x2⟩:=(Mu (a.ext xx) ig (hr i TW)).elim;obtain⟨l,hl⟩:∃l,l=(Zz G b (T0 b i)).1:=⟨_,rfl⟩
 rw[<-hl]at a2;obtain⟨h3,Zc⟩:∃z,z=h2.new (.cells [.int .i64 l.1.1,.int .i64 l.1.2,.int .i64 l.2.1,.int .i64 l.2.2] 40 false):=⟨_,rfl⟩
 have x3:Ext h2 h3:=by rw[Zc];exact (Ext.refl h2).new _
 have zw:(h2.new (.cells [.int .i64 0,.int .i64 0,.int .i64 0,.int .i64 0] 40 false)).X4 h2.n 0 [.int .i64 l.1.1,.int .i64 l.1.2,.int .i64 l.2.1,.int .i64 l.2.2]=some h3:=by rw[Zc];exact YO _ _ _ _ rfl
 have u3:h3.get h2.n=some (.cells [.int .i64 l.1.1,.int .i64 l.1.2,.int .i64 l.2.1,.int .i64 l.2.2] 40 false):=by rw[Zc,ZY]
 obtain⟨h4,Xs⟩:∃z,z=h3.new (.cells [.int .i64 0,.int .i64 0] 39 false):=⟨_,rfl⟩
 have ky:h4.X4 h3.n 0 [.int .i64 0,.int .i64 0]=some h4:=by rw[Xs];exact YO _ _ _ _ rfl
 have x4:Ext h3 h4:=by rw[Xs];exact (Ext.refl h3).new _
 have x24:=(xx.trans x2).trans (x3.trans x4);have p4:h4.get p=_:=((x2.trans (x3.trans x4)).get p (H.ZW hp)).trans hp;have o4:h4.get h3.n=some (.cells [.int .i64 0,.int .i64 0] 39 false):=by rw[Xs,ZY]
 have u4:=(x4.get _ (H.ZW u3)).trans u3;have pl:=H.ZW hp;have r1:h.Zp p (14+i)=some (.int .i64 (T0 b i)):=by
  rcases (by omega:i=0\/i=1)with rfl|rfl<;>exact ZZ hp
 have Tw:i<2:=by omega
 have IX:(i:Int)<2:=by omega
 have z2:IntKind.i64.wrap ((i:Int)+1)=((i+1:Nat):Int):=by rw[ZS (by omega) (by omega)];omega
 obtain⟨mv,uG⟩:∃z,z=HI b i:=⟨_,rfl⟩
 obtain⟨sd,OW⟩:∃z,z=Y2 b.mm l:=⟨_,rfl⟩
 have x3n:=x3.n;have gZ:=x2.n;have xxn:=xx.n;obtain⟨h5,Vv⟩:∃z,z=h4.put h3.n (.cells [.int .i64 sd.1,.int .i64 sd.2] 39 false):=⟨_,rfl⟩
 have w5:h4.X4 h3.n 0 [.int .i64 sd.1,.int .i64 sd.2]=some h5:=by rw[ZF o4 (by simp),Vv];rfl
 have x5:Ext h0 h5:=by rw[Vv];exact x24.put (by omega) _
 have p5:h5.get p=some (.cells b.cs 42 false):=by rw[Vv,ZX (by omega)];exact p4
 have o5:h5.Ze h3.n 0 2=some [.int .i64 sd.1,.int .i64 sd.2]:=by rw[Vv,ZU (ZV (H.ZW o4)) (by simp)];rfl
 have o4':h4.Ze h3.n 0 2=some [.int .i64 0,.int .i64 0]:=by rw[ZU o4 (by simp)];rfl
 have kx:∀{g:H},g.get p=some (.cells b.cs 42 false)->g.Ze p (17+i*2) 2=some [.int .i64 mv.1,.int .i64 mv.2]:=λ{g} hg=>by
  rw[uG];rcases (by omega:i=0\/i=1)with rfl|rfl<;>rw[ZU hg (by simp)]<;>rfl
 have m4:h4.Zp p 16=some (.int .i64 b.mm):=by rw[ZZ p4];rfl
 have ul:h4.Ze h2.n 0 2=some [.int .i64 l.1.1,.int .i64 l.1.2]/\h4.Ze h2.n 2 2=some [.int .i64 l.2.1,.int .i64 l.2.2]:=⟨by rw[ZU u4 (by simp)];rfl,by rw[ZU u4 (by simp)];rfl⟩
 have good:∀(g':H) (e':E),Ext h0 g'->g'.get p=some (.cells b.cs 42 false)->mv=sd->(e'.s Nj 0=.ptr g 0/\e'.s Nj 3=.ptr p 0/\e'.s Nj 5=.int .i64 (n:Nat)/\e'.s Nj 6=.int .i64 ((i+1:Nat):Int))->∃m,m<k/\m<=n/\og h0 g p n b (n-m) e' g'/\∀j,j<n-m->HI b j=Y2 b.mm (Zz G b (T0 b j)).1:=λg' e' xg pg c he=>by
  refine⟨k-1,by omega,by omega,?_⟩;rw[show n-(k-1)=i+1 by omega];refine⟨⟨xg,pg,he.1,he.2.1,he.2.2.1,he.2.2.2⟩,λm hm=>?_⟩;by_cases e:m=i
  .rw[e,<-uG,c,OW,hl]
  .exact hs m (by omega)
 have bad:¬mv=sd->∃i,i<n/\HI b i≠Y2 b.mm (Zz G b (T0 b i)).1:=λc=>⟨i,TW,by rw[<-uG,<-hl,<-OW];exact c⟩
 by_cases c:mv=sd
 .have c':mv.1=sd.1/\mv.2=sd.2:=by rw[c];exact⟨rfl,rfl⟩
  rcases hm with m0|m0|m0<;>rw[m0]at m4 OW
  .have:sd=l.1:=OW
   rw[this]at w5 o5 c';simp[Ti,e6,e5,TW,OI,e3,y0,y1,y2,y3,Tw,IX,r1,e0,a2,nw,zw,<-Xs,ky,m4,ul.1,w5,kx p5,o5,c'.1,c'.2,z2,-Int.natCast_add];exact good h5 _ x5 p5 c ⟨by simp[e0],by simp[e3],by simp[e5],by simp⟩
  .have:sd=l.2:=OW
   rw[this]at w5 o5 c';simp[Ti,e6,e5,TW,OI,e3,y0,y1,y2,y3,Tw,IX,r1,e0,a2,nw,zw,<-Xs,ky,m4,ul.2,w5,kx p5,o5,c'.1,c'.2,z2,-Int.natCast_add];exact good h5 _ x5 p5 c ⟨by simp[e0],by simp[e3],by simp[e5],by simp⟩
  .have:sd=(0,0):=OW
   rw[this]at c';simp[Ti,e6,e5,TW,OI,e3,y0,y1,y2,y3,Tw,IX,r1,e0,a2,nw,zw,<-Xs,ky,m4,kx p4,o4',c'.1,c'.2,z2,-Int.natCast_add];exact good h4 _ x24 p4 c ⟨by simp[e0],by simp[e3],by simp[e5],by simp⟩
 .have c':¬(mv.1=sd.1/\mv.2=sd.2):=λh=>c (Prod.ext h.1 h.2)
  rcases hm with m0|m0|m0<;>rw[m0]at m4 OW
  .have:sd=l.1:=OW
   rw[this]at w5 o5 c';simp[Ti,e6,e5,TW,OI,e3,y0,y1,y2,y3,Tw,IX,r1,e0,a2,nw,zw,<-Xs,ky,m4,ul.1,w5,kx p5,o5,c',z2,-Int.natCast_add];exact .inr ⟨rfl,by simp,bad c,x5⟩
  .have:sd=l.2:=OW
   rw[this]at w5 o5 c';simp[Ti,e6,e5,TW,OI,e3,y0,y1,y2,y3,Tw,IX,r1,e0,a2,nw,zw,<-Xs,ky,m4,ul.2,w5,kx p5,o5,c',z2,-Int.natCast_add];exact .inr ⟨rfl,by simp,bad c,x5⟩
  .have:sd=(0,0):=OW
   rw[this]at c';simp[Ti,e6,e5,TW,OI,e3,y0,y1,y2,y3,Tw,IX,r1,e0,a2,nw,zw,<-Xs,ky,m4,kx p4,o4',c',z2,-Int.natCast_add];exact .inr ⟨rfl,by simp,bad c,x24⟩
variable{h:H}
theorem Mt(a:YY D h g G)(ig:PV G b)(hr:b.inter=true->XD b):
  RT (λw h'=>w=.bool (decide (Yl (Zz G b) b))/\Ext h h') (KW 119 [.ptr g 0,b.v] h):=by
 obtain⟨h1,ZL⟩:∃z,z=h.new (.cells b.cs 42 false):=⟨_,rfl⟩
 have x1:Ext h h1:=by rw[ZL];exact (Ext.refl h).new _
 have g1:h1.get h.n=some (.cells b.cs 42 false):=by rw[ZL,ZY]
 have rd:∀o,h1.Zp h.n o=b.cs[o]?:=λo=>ZZ g1;rw[W2 WqP,gY];by_cases ci:b.inter=true;rotate_left
 .have e:Yl (Zz G b) b:=λh=>(ci h).elim
  simp[bx,<-ZL,rd,ci,e];exact⟨rfl,x1⟩
 by_cases cm:b.mm=3
 .have e:Yl (Zz G b) b:=λ_ h=>(h cm).elim
  simp[bx,<-ZL,rd,ci,cm,e];exact⟨rfl,x1⟩
 obtain⟨_,r0,m03,_,_,sec⟩:=hr ci;obtain⟨n,hn⟩:∃n:Nat,n=if b.comp=true then 2 else 1:=⟨_,rfl⟩
 have U0:n<=2:=by rw[hn];split<;>omega
 have ha:Yl (Zz G b) b↔∀i,i<n->HI b i=Y2 b.mm (Zz G b (T0 b i)).1:=by
  constructor
  .intro h i hi
   have:=h ci cm;rcases (by omega:i=0\/i=1)with rfl|rfl
   .exact this.1
   .refine this.2 ?_
    rw[hn]at hi;cases hc:b.comp with
    |true=>rfl
    |false=>rw[hc]at hi;simp at hi
  .intro h _ _
   refine⟨h 0 (by rw[hn];split<;>omega),λhc=>h 1 (by rw[hn,if_pos hc];decide)⟩
 have uH:h1.Zp h.n 13=some (.bool b.comp):=by rw[rd];rfl
 have r5:h1.Zp h.n 5=some (.bool true):=by rw[rd,<-ci];rfl
 have ku:h1.Zp h.n 16=some (.int .i64 b.mm):=by rw[rd];rfl
 simp[bx,<-ZL,r5,ku,cm];refine Ym (C:=λo=>RT _ (Zf.fin Tryz.prog _ _ o)) (λe g'=>g'=h1/\e.s Nj 0=.ptr g 0/\e.s Nj 3=.ptr h.n 0/\e.s Nj 5=.int .i64 (n:Nat)) ?_ ?_
 .rw[hn];cases hc:b.comp<;>rw[hc]at uH<;>simp[uH,XG]
 rintro e g' ⟨rfl,e0,e3,e5⟩;simp[e0,e3,e5];refine XV (C:=λo=>RT _ (Zf.fin Tryz.prog _ _ (sq (Y9 0 o) _))) _ _ (tj (a.ext x1) (p:=h.n) (n:=n) ig U0 (by omega) (λi hi=>by
  rcases (by omega:i=0\/i=1)with rfl|rfl
  .exact r0
  .unfold X9 at sec
   rw[hn]at hi;cases hc:b.comp with
   |true=>rw[hc,if_pos rfl]at sec;exact sec.1
   |false=>rw[hc]at hi;simp at hi)) n ⟨Nat.le_refl _,by rw[Nat.sub_self];exact⟨Ext.refl _,g1,by simp,by simp,by simp,by simp⟩,λi hi=>by omega⟩ ?_
 rintro⟨sx,se,sh⟩ (⟨s1,s2,s3⟩|⟨s1,s2,s3,s4⟩)
 .simp only at s1 s2 s3
  subst s1;simp[ha.2 s2];exact⟨rfl,x1.trans s3⟩
 .simp only at s1 s2 s3 s4
  subst s1;have:¬Yl (Zz G b) b:=λh=>by obtain⟨i,h1,h2⟩:=s3;exact h2 (ha.1 h i h1)
  simp[s2,this];exact⟨rfl,x1.trans s4⟩
end Go.Proofs.YtbkmdnmncaakdaaGreat
set_option linter.unusedVariables false
set_option linter.unusedSimpArgs false
set_option maxRecDepth 20000
namespace Go.Proofs.YtbkmdnmncaakdaaGreat
open Go Go.Zf
open Go.Zf (ZS)
variable{b:Bk}{st YI:St}
theorem Lo{r:Bk}(h:(Xd b).exec st=(some r,YI)):∃y u c:Int×Int,r={b with ym:=y.1,yd:=y.2,um:=u.1,ud:=u.2,cu:=c.1,cv:=c.2}:=by
 unfold Xd at h;rw[Pr.YH]at h;split at h
 .rename_i y T5 _
  rw[Pr.YH]at h;split at h
  .rename_i u Xz _
   split at h
   .rw[Pr.YH]at h
    split at h
    .rename_i c SY _
     cases h;exact⟨y,u,c,rfl⟩
    .cases h
   .cases h
    exact⟨y,u,(b.cu,b.cv),rfl⟩
  .cases h
 .cases h
variable{P:Nat->Prop}{c q m:Nat}
theorem Jb.wrF{P2:Nat->Prop}{h2:H}{t z r:Nat}{rc:WI}{e:Int}{bb:Bk}{g:H}(a:Jb P P2 h2 c q t z r rc m st e bb g)(SP:Bk):g.Ze t 0 23=some bb.cs/\g.X4 t 0 SP.cs=some (g.put t (.cells SP.cs 42 false)):=by
 refine⟨by rw[ZU a.bt (by simp)];rfl,?_⟩;rw[ZF a.bt (by simp)];have:splice bb.cs 0 SP.cs=SP.cs:=by simp[splice]
 rw[this]
abbrev DQ:List Nat:=[0,1,2,3,4,7,10,11,12,13,14,15]
structure E71(c g q t z:Nat)(key ll:Bool)(sc:Nat)(e:E):Prop where
 e0:e.s DQ 0=.ptr c 0
 e1:e.s DQ 1=.ptr g 0
 e3:e.s DQ 3=.bool key
 e4:e.s DQ 4=.bool ll
 e7:e.s DQ 7=.ptr t 0
 Yu:e.s DQ 10=.ptr z 0
 TT:e.s DQ 12=.int .i64 (sc:Nat)
 T9:e.s DQ 14=.ptr q 0
def BqC(D:Nat->Prop)(h:H)(c m:Nat)(R:Option Bk×St)(w:V)(h':H):Prop :=
 Zu (grow D h h') h' c m R.2/\Mod D h h'/\w=(match R.1 with|some r=>.Zt [r.v,.int .i64 0]|none=>.Zt [YC.v,.int .i64 4])
variable{D Dg:Nat->Prop}{h:H}{g:Nat}{G:Gr}{key ll:Bool}
theorem vY(C:Zu D h c m st)(hD:∀b,D b->b<h.n)(ga:YY Dg h g G)(KV:∀b,Dg b->¬D b)(ig:PV G b)(hm:m+72<100000000)
  (hw:st.sd.writes=true->WE key ll b/\Yl (Zz G b) b) :
  RT (λw h'=>BqC D h c (m+72) ((TY st.sd.writes key ll (Wd Bk.skip G b.x b.y) (Wd Bk.inter G b.x b.y) (Zz G b) (AV st.sd.writes b)).exec st) w h') (KW 71 [.ptr c 0,.ptr g 0,b.v,.bool key,.bool ll] h):=by
 obtain⟨h1,ZL⟩:∃z,z=h.new (.cells b.cs 42 false):=⟨_,rfl⟩
 obtain⟨h2,Zq⟩:∃z,z=h1.new (.cells YC.cs 42 false):=⟨_,rfl⟩
 have n1:h1.n=h.n+1:=by rw[ZL,H.ZP]
 have n2:h2.n=h1.n+1:=by rw[Zq,H.ZP]
 have x2:Ext h h2:=by rw[Zq,ZL];exact ((Ext.refl h).new _).new _
 have t2:h2.get h.n=some (.cells b.cs 42 false):=by rw[Zq,ZR (by omega),ZL,ZY]
 have z2:h2.get h1.n=some (.cells YC.cs 42 false):=by rw[Zq,ZY]
 have Ql:h2.Ze h.n 0 23=some b.cs:=by rw[ZU t2 (by simp)];rfl
 obtain⟨_,h3,a3,rfl,x3⟩:=(ON b h2).elim;have t3:h3.get h.n=_:=(x3.get _ (H.ZW t2)).trans t2;have pl:=ig.pl;have ce:XA b.x b.y:=by
  refine⟨?_,?_,ig.i1⟩
  .have:=pl.1;have:=pl.2.2.1;rw[Int.tmod_eq_emod_of_nonneg (by omega)];omega
  .have:=pl.2.2.2.1;have:=pl.2.2.2.2.2;rw[Int.tmod_eq_emod_of_nonneg (by omega)];omega
 have ixy:Vw b.x/\Vw b.y:=by
  have:=ig.i1;unfold Vd at this;unfold Vw;omega
 obtain⟨_,h4,a4,⟨sc,rfl,oS⟩,x4⟩:=(Gc ((ga.ext x2).ext x3) ixy.1 ixy.2).elim;rw[if_pos ce]at a4;have oS:=oS ce;have Aa:=x3.trans x4;have ue:=x2.trans Aa;have t4:h4.get h.n=_:=(x4.get _ (H.ZW t3)).trans t3;have z4:h4.get h1.n=_:=(Aa.get _ (H.ZW z2)).trans z2;have r3:h3.Zp h.n 0=some (.int .i64 b.x)/\h3.Zp h.n 1=some (.int .i64 b.y):=⟨by rw[ZZ t3];rfl,by rw[ZZ t3];rfl⟩
 have C4:=C.ext ue;have ao:=Tp C4;have sc3:sc<3:=by rw[oS];exact Ro _ _ _ _
 rw[<-oS];obtain⟨ic,pP⟩:∃z,z=Wd Bk.inter G b.x b.y:=⟨_,rfl⟩
 have ic3:ic<3:=by rw[pP];exact Ro _ _ _ _
 rw[<-pP];obtain⟨RR,qZ⟩:∃z,z=(TY st.sd.writes key ll sc ic (Zz G b) (AV st.sd.writes b)).exec st:=⟨_,rfl⟩
 rw[<-qZ];obtain⟨Q,hQ⟩:∃Q:V->H->Prop,Q=λw h'=>BqC D h c (m+72) RR w h':=⟨_,rfl⟩
 rw[<-hQ];obtain⟨b0,Qw⟩:∃z,z=AV st.sd.writes b:=⟨_,rfl⟩
 have DN:ZD b0=ZD b:=by rw[Qw];exact Ed _ _
 have dU:=Aa.n;obtain⟨t,ht⟩:∃t,t=h.n:=⟨_,rfl⟩
 obtain⟨z,tZ⟩:∃z,z=h1.n:=⟨_,rfl⟩
 rw[W5 r71,s71];simp[bx,nw,<-ZL,<-Zq,Ql,a3,ig.sh,r3.1,r3.2,a4,ao];rw[<-ht,<-tZ];rw[<-ht]at t4;rw[<-tZ]at z4;refine Ym (C:=λo=>RT Q (Zf.fin Tryz.prog _ _ o)) (λe g'=>(e.s DQ 0=.ptr c 0/\e.s DQ 1=.ptr g 0/\e.s DQ 3=.bool key/\e.s DQ 4=.bool ll/\e.s DQ 7=.ptr t 0/\e.s DQ 10=.ptr z 0/\e.s DQ 12=.int .i64 (sc:Nat)) /\
  h4.n<=g'.n/\g'.get t=some (.cells b0.cs 42 false)/\∀x,x<h4.n->x≠t->g'.get x=h4.get x) ?_ ?_
 .have SB:∀o,h4.Zp t o=b.cs[o]?:=λo=>ZZ t4
  have CY:h4.Ze t 0 23=some b.cs:=by rw[ZU t4 (by simp)];rfl
  cases WH:st.sd.writes with
  |false =>
   have e0:b0=ZD b:=by rw[Qw,WH];rfl
   have w5:h4.X4 t 0 b0.cs=some (h4.put t (.cells b0.cs 42 false)):=by
    rw[ZF t4 (by simp)];have:splice b.cs 0 b0.cs=b0.cs:=by simp[splice]
    rw[this]
   rw[e0]at w5;have w5':h4.X4 t 0 ({YC with x:=b.x,y:=b.y,w:=b.w,h:=b.h}:Bk).cs=some (h4.put t (.cells (ZD b).cs 42 false)):=w5;simp[SB,w5',XG];rw[e0];exact⟨by rw[H.ZJ];exact Nat.le_refl _,ZV (H.ZW t4),λx hx hxt=>ZX hxt⟩
  |true =>
   have e0:b0=b:=by rw[Qw,WH];rfl
   obtain⟨mb,ag⟩:=hw WH;obtain⟨_,h5,a5,rfl,x5⟩:=(Jr b key ll h4).elim;rw[if_pos mb]at a5;have t5:h5.get t=_:=(x5.get _ (H.ZW t4)).trans t4;have zo:h5.Ze t 0 23=some b.cs:=by rw[ZU t5 (by simp)];rfl
   obtain⟨_,h6,a6,rfl,x6⟩:=(Mt ((ga.ext ue).ext x5) ig (λhi=>by have:=mb.2.2.2;rw[hi]at this;exact this)).elim;have x46:=x5.trans x6;simp only[ag,decide_true]at a6;simp[CY,a5,zo,a6,XG];rw[e0];exact⟨x46.n,(x6.get _ (H.ZW t5)).trans t5,λx hx _=>x46.get x hx⟩
 rintro e g' ⟨⟨e0,e1,e3,e4,e7,Yu,TT⟩,gn,tg,keep⟩;obtain⟨hk,qI⟩:∃z,z=g'.new (.cells [.ptr c 0,.int .i64 0] 178 false):=⟨_,rfl⟩
 have nk:hk.n=g'.n+1:=by rw[qI,H.ZP]
 have xk:Ext g' hk:=by rw[qI];exact (Ext.refl g').new _
 obtain⟨q,KS⟩:∃q,q=g'.n:=⟨_,rfl⟩
 have kk:hk.get q=some (.cells [.ptr c 0,.int .i64 0] 178 false):=by rw[KS,qI,ZY]
 obtain⟨P,hP⟩:∃P:Nat->Prop,P=λx=>x<h.n/\¬D x:=⟨_,rfl⟩
 obtain⟨P2,LA⟩:∃P2:Nat->Prop,P2=λx=>P x\/x=t\/x=z\/x=q:=⟨_,rfl⟩
 have kh:∀x,x<h.n->hk.get x=h.get x:=λx hx=>by rw[xk.get x (by omega),keep x (by omega) (by omega),ue.get x hx]
 have nP:∀{x},h.n<=x->¬P x:=λhx hp=>by rw[hP]at hp;omega
 have jk:Jb P P2 hk c q t z z (.cells YC.cs 42 false) m st 0 b0 hk:=by
  have nz:hk.get z=some (.cells YC.cs 42 false):=by rw[xk.get z (by omega),keep z (by omega) (by omega)];exact z4
  refine⟨⟨⟨D,C.keep (by omega) λb hb Yv=>kh b Yv,λb hb=>⟨by have:=hD b hb;omega,?_⟩⟩,kk,by rw[LA];exact .inr (.inr (.inr rfl)),λb hb=>?_⟩,Kp.refl _ _,λb hb=>by rw[LA];exact .inl hb,(xk.get t (H.ZW tg)).trans tg,nz,nz,?_,?_,?_⟩
  .have:=hD b hb
   rw[LA,hP];rintro (hp|hp|hp|hp)<;>first|exact hp.2 hb|omega
  .rw[LA,hP]at hb;rcases hb with hb|hb|hb|hb<;>omega
  .rw[LA];exact⟨.inr (.inl rfl),nP (by omega),by omega⟩
  .rw[LA];exact⟨.inr (.inr (.inl rfl)),nP (by omega),by omega,by omega⟩
  .rw[LA];exact⟨.inr (.inr (.inl rfl)),by omega,by omega⟩
 have lE:∀{m st e bb g'},Jb P P2 hk c q t z z (.cells YC.cs 42 false) m st e bb g'->YY Dg g' g G:=λ{m st e bb g'} j=>(ga.keep (by omega) λx hx=>kh x (ga.hD x hx)).keep j.kp.n λx hx=>j.kp.get x ⟨by rw[hP];exact⟨ga.hD x hx,KV x hx⟩,by have:=ga.hD x hx;omega⟩;have dP:∀x,Dg x->P2 x/\x≠q:=λx hx=>by have:=ga.hD x hx;rw[LA,hP];exact⟨.inl ⟨this,KV x hx⟩,by omega⟩
 -- what a BqM end says
 have done:∀{r:Option Bk} {Py:St} {eE:Int} {bb:Bk} {hE:H} {w:V} {X:WI},RR=(r,Py)->Jb P P2 hk c q t z z (.cells YC.cs 42 false) (m+72) Py eE bb hE->w=(match r with|some r=>.Zt [r.v,.int .i64 0]|none=>.Zt [YC.v,.int .i64 4])->Q w (hE.put z X):=by
  intro r Py eE bb hE w X hr j WH;obtain⟨⟨D',C',hD'⟩,_⟩:=j.co.put j.pz.1 j.pz.2.2.1 X;have kpn:=j.kp.n;rw[hQ];refine⟨?_,⟨by rw[H.ZJ];omega,λx hx Ap=>?_⟩,by rw[hr];exact WH⟩
  .rw[hr]
   refine C'.mono λx hx Ap=>?_;by_cases hxk:x<h.n
   .refine .inl (Classical.byContradiction λhc=>(hD' x Ap).2 ?_)
    rw[LA,hP];exact .inl ⟨hxk,hc⟩
   .exact .inr ⟨by omega,hx⟩
  .rw[ZX (by omega),j.kp.get x ⟨by rw[hP];exact⟨hx,Ap⟩,by omega⟩,kh x hx]
 have ig0:PV G b0:=ig.MC DN;have small:Sc b0/\RQ b0:=by
  rw[Qw];cases WH:st.sd.writes with
  |false=>exact Cv b
  |true=>exact FV (hw WH).1
 have xR:st.sd.writes=true->WE key ll b0:=λh=>by
  have:b0=b:=by rw[Qw,h];rfl
  rw[this];exact (hw h).1
 have lV:st.sd.writes=false->b0=ZD b:=λh=>by rw[Qw,h];rfl
 have fb:∀b:Bool,0<=Yc b/\Yc b<(2:Nat):=λb=>by cases b<;>decide
 -- the flags
 obtain⟨k1,b1,j1,_⟩:=jk.sym (k:=2) (x:=sc) (v:=Yc b0.skip) (by omega) (by decide) sc3 λ_=>fb _;have lA:st.sd.writes=true->decide (st.ZC 2 sc (Yc b0.skip)=1)=b0.skip:=λh=>by rw[St.Yx h];cases b0.skip<;>rfl
 have RN:RR=((if key then Pr.done b0.inter else Sg 3 ic b0.inter).bind λit=>(if it then Pr.done {b0 with skip:=decide (st.ZC 2 sc (Yc b0.skip)=1),inter:=it}else Xd {b0 with skip:=decide (st.ZC 2 sc (Yc b0.skip)=1),inter:=it}).bind λb1 =>
   (Vb st.sd.writes ll b1).bind λtx=>if it then YM (Zz G b) {b1 with tx:=tx}else Pr.done {b1 with tx:=tx}).exec (st.sym 2 sc (Yc b0.skip)):=by
  rw[qZ,<-Qw];rfl
 obtain⟨s,hs⟩:∃z,z=st.ZC 2 sc (Yc b0.skip):=⟨_,rfl⟩
 obtain⟨T5,SZ⟩:∃z,z=st.sym 2 sc (Yc b0.skip):=⟨_,rfl⟩
 rw[<-hs,<-SZ]at RN;rw[<-hs]at lA b1;rw[<-SZ]at j1;have w1:T5.sd.writes=st.sd.writes:=by rw[SZ];exact St.YG _ _ _ _
 have ds:decide ((s:Int)=1)=decide (s=1):=by rw[decide_eq_decide];omega
 obtain⟨sk,CD⟩:∃z,z=decide (s=1):=⟨_,rfl⟩
 rw[<-CD]at ds RN lA;obtain⟨zT,Lh⟩:∃z:Bk,z={b0 with skip:=sk}:=⟨_,rfl⟩
 obtain⟨k2,b2,j2,_⟩:=j1.wr (o:=4) (v:=.bool sk) (SP:=zT) (by omega) (by rw[Lh];rfl);have dY:KW 120 [.ptr q 0,.int .i64 2,.int .i64 (sc:Nat),.int .i64 (Yc b0.skip)] hk=some (.ret (.int .i64 (s:Nat)),k1):=b1;have rk4:hk.Zp t 4=some (.bool b0.skip):=by rw[jk.rd];rfl
 simp[e0,bx,<-qI,<-KS,e7,TT,rk4,V2,dY,ds,b2];have i2x:k2.Zp t 0=some (.int .i64 b.x)/\k2.Zp t 1=some (.int .i64 b.y):=by
  have e1:b0.x=b.x:=(congrArg Bk.x DN:(ZD b0).x=(ZD b).x)
  have e2:b0.y=b.y:=(congrArg Bk.y DN:(ZD b0).y=(ZD b).y)
  rw[j2.rd,j2.rd,Lh,<-e1,<-e2];exact⟨rfl,rfl⟩
 have i2i:k2.Zp t 5=some (.bool b0.inter):=by rw[j2.rd,Lh];rfl
 obtain⟨vF,Nv⟩:∃Pos:H->Prop,Pos=λk3=>(∃it Xz,(if key then Pr.done b0.inter else Sg 3 ic b0.inter).exec T5=(some it,Xz)/\(st.sd.writes=true->it=b0.inter)/\Jb P P2 hk c q t z z (.cells YC.cs 42 false) (m+2) Xz 0 {zT with inter:=it} k3):=⟨_,rfl⟩
 refine Ym (C:=λo=>RT Q (Zf.fin Tryz.prog _ _ o)) (λe k3=>E71 c g q t z key ll sc e/\vF k3) ?_ ?_
 .cases Lg:key with
  |true =>
   have pos:vF k2:=by
    rw[Nv];refine⟨b0.inter,T5,by rw[Lg];rfl,λ_=>rfl,?_⟩;have:({zT with inter:=b0.inter}:Bk)=zT:=by rw[Lh]
    rw[this];exact j2.more (by omega) (by omega)
   rw[Lg]at e3;simp[e3,XG];exact⟨⟨by simp[e0],by simp[e1],by simp[e3],by simp[e4],by simp[e7],by simp[Yu],by simp[TT],by simp⟩,pos⟩
  |false =>
   obtain⟨_,k3,c3,⟨n,rfl,hn⟩,y3⟩:=(AY (lE j2) ixy.1 ixy.2).elim;have hn:=hn ce;rw[<-pP]at hn;rw[hn,if_pos ce]at c3;have j3:=j2.ext y3;obtain⟨k4,c4,j4,_⟩:=j3.sym (k:=3) (x:=ic) (v:=Yc b0.inter) (by omega) (by decide) ic3 λ_=>fb _;obtain⟨s',Hs⟩:∃z,z=T5.ZC 3 ic (Yc b0.inter):=⟨_,rfl⟩
   have ds':decide ((s':Int)=1)=decide (s'=1):=by rw[decide_eq_decide];omega
   rw[<-Hs]at c4;obtain⟨k5,c5,j5,_⟩:=j4.wr (o:=5) (v:=.bool (decide (s'=1))) (SP:={zT with inter:=decide (s'=1)}) (by omega) rfl;have c4':KW 120 [.ptr q 0,.int .i64 3,.int .i64 (ic:Nat),.int .i64 (Yc b0.inter)] k3=some (.ret (.int .i64 (s':Nat)),k4):=c4;have i3i:k3.Zp t 5=some (.bool b0.inter):=by rw[j3.rd,Lh];rfl
   have pos:vF k5:=by
    rw[Nv];exact⟨_,_,by rw[Lg];rfl,λh=>by rw[St.Yx (by rw[w1];exact h)];cases b0.inter<;>rfl,by rw[<-Hs];exact j5⟩
   rw[Lg]at e3;simp[e1,e3,e7,i2x.1,i2x.2,c3,i3i,V2,c4',ds',c5,XG];exact⟨⟨by simp[e0],by simp[e1],by simp[e3],by simp[e4],by simp[e7],by simp[Yu],by simp[TT],by simp⟩,pos⟩
 rintro e k3 ⟨E,pos⟩;rw[Nv]at pos;obtain⟨it,Xz,exI,wi,j3⟩:=pos;clear Nv;obtain⟨PO,Kr⟩:∃z:Bk,z={zT with inter:=it}:=⟨_,rfl⟩
 rw[<-Kr]at j3;rw[Pr.Zj exI]at RN;have w2:Xz.sd.writes=st.sd.writes:=(YS exI).trans w1;have RM:PO={b0 with skip:=sk,inter:=it}:=by rw[Kr,Lh]
 rw[<-RM]at RN;have Ii:ZD PO=ZD b:=by rw[RM];exact DN
 have kQ:st.sd.writes=true->PO=b0:=λh=>by rw[RM,lA h,wi h]
 have i5:k3.Zp t 5=some (.bool it):=by rw[j3.rd,Kr];rfl
 have AI:Sc PO/\RQ PO:=by rw[RM];exact⟨small.1,⟨small.2.r,small.2.mm,small.2.fl,small.2.m0,small.2.m1⟩⟩
 -- BqL
 obtain⟨vE,Nu⟩:∃Pos:H->Prop,Pos=λk4=>(∃LM SY,(if it then Pr.done PO else Xd PO).exec Xz=(some LM,SY)/\(ZD LM=ZD b/\LM.inter=it/\(st.sd.writes=true->VY ll LM))/\(it=true->LM=PO)/\Jb P P2 hk c q t z z (.cells YC.cs 42 false) (m+9) SY 0 LM k4):=⟨_,rfl⟩
 refine Ym (C:=λo=>RT Q (Zf.fin Tryz.prog _ _ o)) (λe k4=>E71 c g q t z key ll sc e/\vE k4) ?_ ?_
 .have si:st.sd.writes=true->VY ll PO:=λh=>by rw[kQ h];exact (xR h).2.2.1
  cases hit:it with
  |true =>
   have pos:vE k3:=by rw[Nu];exact⟨PO,Xz,by rw[hit];rfl,⟨Ii,by rw[Kr],si⟩,λ_=>rfl,j3.more (by omega) (by omega)⟩
   rw[hit]at i5;simp[E.e7,i5,XG];exact⟨⟨by simp[E.e0],by simp[E.e1],by simp[E.e3],by simp[E.e4],by simp[E.e7],by simp[E.Yu],by simp[E.TT],by simp[E.T9]⟩,pos⟩
  |false =>
   obtain⟨_,k4,c4,⟨r,SY,rfl,exR,R3⟩⟩:=(A3 j3.co (by omega) (ig.MC Ii).sh AI.1 (λh=>by
    rw[w2]at h;rw[kQ h];have:=(xR h).2.2.2;rw[<-wi h,hit,if_neg (by decide)]at this;exact this) (λh=>by rw[w2]at h;rw[RM,lV h];exact⟨rfl,rfl,rfl,rfl⟩)).elim
   obtain⟨f1,f2⟩:=(j3.go R3).wrF r;have j4:=(j3.go R3).put r;obtain⟨y,u,cc,hr⟩:=Lo exR;have pos:vE (k4.put t (.cells r.cs 42 false)):=by
    rw[Nu];refine⟨r,SY,by rw[hit];exact exR,⟨?_,?_,?_⟩,(λh=>by rw[hit]at h;cases h),j4⟩
    .rw[hr];exact Ii
    .rw[hr,Kr]
    .intro h;rw[hr];exact si h
   have rk:k3.Ze t 0 23=some PO.cs:=by rw[ZU j3.bt (by simp)];rfl
   rw[hit]at i5;simp[E.e7,i5,E.T9,rk,c4,f2,XG];exact⟨⟨by simp[E.e0],by simp[E.e1],by simp[E.e3],by simp[E.e4],by simp[E.e7],by simp[E.Yu],by simp[E.TT],by simp[E.T9]⟩,pos⟩
 rintro e k4 ⟨E,pos⟩;rw[Nu]at pos;obtain⟨LM,SY,exJ,⟨tO,s32,si3⟩,ib3,j4⟩:=pos;clear Nu;rw[Pr.Zj exJ]at RN;have w3:SY.sd.writes=st.sd.writes:=(YS exJ).trans w2
 -- the size
 obtain⟨_,k5,b5,⟨tx,VB,rfl,KG,R5⟩⟩:=(yM j4.co (by omega) (ig.MC tO).sh ll (λh=>si3 (by rw[<-w3];exact h))).elim;rw[w3]at KG;rw[Pr.Zj KG]at RN;obtain⟨Cu,Le⟩:∃z:Bk,z={LM with tx:=tx}:=⟨_,rfl⟩
 obtain⟨k6,b6,j6,_⟩:=(j4.go R5).wr (o:=12) (v:=.int .i64 tx) (SP:=Cu) (by omega) (by rw[Le];rfl);rw[<-Le]at RN;have w4:VB.sd.writes=st.sd.writes:=(YS KG).trans w3;have sh4:ZD Cu=ZD b:=by rw[Le];exact tO
 have i65:k6.Zp t 5=some (.bool it):=by rw[j6.rd,Le,<-s32];rfl
 have rk4:k4.Ze t 0 23=some LM.cs:=by rw[ZU j4.bt (by simp)];rfl
 simp[E.T9,E.e7,E.e4,rk4,b5,b6]
 -- inter
 obtain⟨vD,Ld⟩:∃Pos:H->Prop,Pos=λk7=>(∃r Ux eE bb,RR=(r,Ux)/\Jb P P2 hk c q t z z (.cells YC.cs 42 false) (m+72) Ux eE bb k7/\(match r with|some r=>eE=0/\bb=r|none=>eE=4)):=⟨_,rfl⟩
 refine Ym (C:=λo=>RT Q (Zf.fin Tryz.prog _ _ o)) (λe k7=>E71 c g q t z key ll sc e/\vD k7) ?_ ?_
 .cases hit:it with
  |false =>
   rw[hit]at i65 RN;have pos:vD k6:=by rw[Ld];exact⟨some Cu,VB,0,Cu,RN,j6.more (by omega) hm,rfl,rfl⟩
   simp[E.e7,i65,XG];exact⟨⟨by simp[E.e0],by simp[E.e1],by simp[E.e3],by simp[E.e4],by simp[E.e7],by simp[E.Yu],by simp[E.TT],by simp[E.T9]⟩,pos⟩
  |true =>
   have C0:Cu={PO with tx:=tx}:=by rw[Le,ib3 hit]
   obtain⟨w,k7,b7,V7⟩:=(v8 j6.co (lE j6) dP (ig.MC sh4) (by omega) (by rw[C0];exact⟨AI.2.r,AI.2.mm,AI.2.fl,AI.2.m0,AI.2.m1⟩) (λh=>by
    rw[w4]at h;have:=(xR h).2.2.2;rw[<-wi h,hit,if_pos rfl]at this;rw[C0,kQ h];exact this) (λh=>by rw[w4]at h;rw[C0,RM,lV h];exact⟨rfl,rfl,rfl⟩)).elim
   rw[O4 G sh4]at V7;rw[hit]at i65 RN;have RN:RR=(YM (Zz G b) Cu).exec VB:=RN;rw[<-RN]at V7;generalize BqB:RR=RX at V7;obtain⟨o,Ux⟩:=RX;have rk6:k6.Ze t 0 23=some Cu.cs:=by rw[ZU j6.bt (by simp)];rfl
   have fin:∃r:Bk,w=r.v/\k7.X4 t 0 r.cs=some (k7.put t (.cells r.cs 42 false))/\vD (k7.put t (.cells r.cs 42 false)):=by
    rw[Ld];cases o with
    |some r =>
     obtain⟨rfl,R7⟩:=V7;exact⟨r,rfl,((j6.go R7).wrF r).2,some r,Ux,0,r,BqB,((j6.go R7).put r).more (by omega) hm,rfl,rfl⟩
    |none =>
     obtain⟨⟨r,rfl⟩,R7⟩:=V7;exact⟨r,rfl,((j6.go R7).wrF r).2,none,Ux,4,r,BqB,((j6.go R7).put r).more (by omega) hm,rfl⟩
   obtain⟨r,rfl,f2,pos⟩:=fin;simp[E.e7,i65,E.T9,E.e1,rk6,b7,f2,XG];exact⟨⟨by simp[E.e0],by simp[E.e1],by simp[E.e3],by simp[E.e4],by simp[E.e7],by simp[E.Yu],by simp[E.TT],by simp[E.T9]⟩,pos⟩
 rintro e k7 ⟨E,pos⟩;rw[Ld]at pos;obtain⟨r,Ux,eE,bb,hr,j7,JV⟩:=pos;obtain⟨_,q1,_⟩:=j7.co.wr;have rz:∀bq:Bk,(k7.put z (.cells bq.cs 42 false)).Ze z 0 23=some bq.cs:=λbq=>by rw[ZU (ZV (H.ZW j7.bz)) (by simp)];rfl
 have wz:∀bq:Bk,k7.X4 z 0 bq.cs=some (k7.put z (.cells bq.cs 42 false)):=λbq=>by
  rw[ZF j7.bz (by simp)];have:splice YC.cs 0 bq.cs=bq.cs:=by simp[splice]
  rw[this]
 cases r with
 |some r =>
  obtain⟨rfl,rfl⟩:=JV;have hq:=done (w:=.Zt [bb.v,.int .i64 0]) (X:=.cells bb.cs 42 false) hr j7 rfl;have rb:k7.Ze t 0 23=some bb.cs:=by rw[ZU j7.bt (by simp)];rfl
  simp[E.T9,q1,E.e7,rb,E.Yu,wz,rz];exact hq
 |none =>
  have JV:eE=4:=JV;subst JV;have hq:=done (w:=.Zt [YC.v,.int .i64 4]) (X:=.cells YC.cs 42 false) hr j7 rfl;have qf:(k7.put z (.cells YC.cs 42 false)).Zp q 1=some (.int .i64 4):=by
   have:=q1;unfold H.Zp at this ⊢;rw[ZX (by have:=j7.pz;omega)];exact this
  simp[E.T9,q1,E.Yu,wz,qf,rz];exact hq
end Go.Proofs.YtbkmdnmncaakdaaGreat
set_option linter.unusedVariables false
set_option linter.unusedSimpArgs false
set_option maxRecDepth 20000
namespace Go.Proofs.YtbkmdnmncaakdaaGreat
open Go Go.Zf
open Go.Zf (ZS)
variable{D Dg:Nat->Prop}{h:H}{c m g:Nat}{st:St}{G:Gr}{b:Bk}{key ll:Bool}
theorem v7(C:Zu D h c m st)(ga:YY Dg h g G)(hx:Vw b.x)(hy:Vw b.y)
  (no:¬(PV G b/\(st.sd.writes=true->WE key ll b/\Yl (Zz G b) b))) :
  RT (λw h'=>w=.Zt [YC.v,.int .i64 2]/\Ext h h') (KW 71 [.ptr c 0,.ptr g 0,b.v,.bool key,.bool ll] h):=by
 obtain⟨h1,ZL⟩:∃z,z=h.new (.cells b.cs 42 false):=⟨_,rfl⟩
 obtain⟨h2,Zq⟩:∃z,z=h1.new (.cells YC.cs 42 false):=⟨_,rfl⟩
 have n1:h1.n=h.n+1:=by rw[ZL,H.ZP]
 have n2:h2.n=h1.n+1:=by rw[Zq,H.ZP]
 have x2:Ext h h2:=by rw[Zq,ZL];exact ((Ext.refl h).new _).new _
 have t2:h2.get h.n=some (.cells b.cs 42 false):=by rw[Zq,ZR (by omega),ZL,ZY]
 have z2:h2.get h1.n=some (.cells YC.cs 42 false):=by rw[Zq,ZY]
 have Ql:h2.Ze h.n 0 23=some b.cs:=by rw[ZU t2 (by simp)];rfl
 obtain⟨_,h3,a3,rfl,x3⟩:=(ON b h2).elim;have t3:h3.get h.n=_:=(x3.get _ (H.ZW t2)).trans t2;have done:∀{hE:H},Ext h2 hE->hE.X4 h1.n 0 YC.cs=some (hE.put h1.n (.cells YC.cs 42 false))/\(hE.put h1.n (.cells YC.cs 42 false)).Ze h1.n 0 23=some YC.cs/\Ext h (hE.put h1.n (.cells YC.cs 42 false)):=λ{hE} xE=>by
  have zE:hE.get h1.n=_:=(xE.get _ (H.ZW z2)).trans z2;exact⟨by rw[ZF zE (by simp)];rfl,by rw[ZU (ZV (H.ZW zE)) (by simp)];rfl,(x2.trans xE).put (by omega) _⟩
 rw[W5 r71,s71];by_cases sh:YR b;rotate_left
 .obtain⟨k1,k2,k3⟩:=done x3
  simp[bx,nw,<-ZL,<-Zq,Ql,a3,sh,k1,k2];exact⟨rfl,k3⟩
 obtain⟨_,h4,a4,⟨sc,rfl,_⟩,x4⟩:=(Gc ((ga.ext x2).ext x3) hx hy).elim;have Aa:=x3.trans x4;have r3:h3.Zp h.n 0=some (.int .i64 b.x)/\h3.Zp h.n 1=some (.int .i64 b.y):=⟨by rw[ZZ t3];rfl,by rw[ZZ t3];rfl⟩
 by_cases cc:XA b.x b.y;rotate_left
 .rw[if_neg cc]at a4
  obtain⟨k1,k2,k3⟩:=done Aa;simp[bx,nw,<-ZL,<-Zq,Ql,a3,sh,r3.1,r3.2,a4,k1,k2];exact⟨rfl,k3⟩
 rw[if_pos cc]at a4;have ig:PV G b:=⟨sh,cc.2.2⟩
 have hw:st.sd.writes=true:=by
  cases WH:st.sd.writes with
  |true=>rfl
  |false=>exact (no ⟨ig,λh=>by rw[WH]at h;cases h⟩).elim
 have ue:=x2.trans Aa;have ao:=Tp (C.ext ue);rw[hw]at ao;have t4:h4.get h.n=_:=(x4.get _ (H.ZW t3)).trans t3;have CY:h4.Ze h.n 0 23=some b.cs:=by rw[ZU t4 (by simp)];rfl
 obtain⟨_,h5,a5,rfl,x5⟩:=(Jr b key ll h4).elim;have t5:h5.get h.n=_:=(x5.get _ (H.ZW t4)).trans t4;have zo:h5.Ze h.n 0 23=some b.cs:=by rw[ZU t5 (by simp)];rfl
 by_cases mb:WE key ll b
 .have nag:¬Yl (Zz G b) b:=λag=>no ⟨ig,λ_=>⟨mb,ag⟩⟩
  rw[if_pos mb]at a5;obtain⟨_,h6,a6,rfl,x6⟩:=(Mt ((ga.ext ue).ext x5) ig (λhi=>by have:=mb.2.2.2;rw[hi]at this;exact this)).elim;simp only[nag,decide_false]at a6;obtain⟨k1,k2,k3⟩:=done ((Aa.trans x5).trans x6);simp[bx,nw,<-ZL,<-Zq,Ql,a3,sh,r3.1,r3.2,a4,ao,CY,a5,zo,a6,k1,k2];exact⟨rfl,k3⟩
 .rw[if_neg mb]at a5
  obtain⟨k1,k2,k3⟩:=done (Aa.trans x5);simp[bx,nw,<-ZL,<-Zq,Ql,a3,sh,r3.1,r3.2,a4,ao,CY,a5,k1,k2];exact⟨rfl,k3⟩
def o7(D:Nat->Prop)(h:H)(c m:Nat)(st:St)(G:Gr)(x y s kind:Int)(w:V)(h':H):Prop :=
 (V1 st.sd.writes x y s kind/\w=.Zt [.int .i64 (st.ZC (MX s) (Fq G x y s) kind:Nat),.int .i64 0]/\Zu (grow D h h') h' c (m+1) (st.sym (MX s) (Fq G x y s) kind)/\Mod D h h') \/
 (¬V1 st.sd.writes x y s kind/\w=.Zt [.int .i64 0,.int .i64 2]/\Ext h h')
theorem Jq(C:Zu D h c m st)(ga:YY Dg h g G){x y s kind:Int}(hx:Vw x)(hy:Vw y)(hm:m+1<100000000):
  RT (λw h'=>o7 D h c m st G x y s kind w h') (KW 70 [.ptr c 0,.ptr g 0,.agg [.int .i64 x,.int .i64 y,.int .i64 s,.int .i64 s],.int .i64 kind] h):=by
 obtain⟨h1,ZL⟩:∃z,z=h.new (.cells [.int .i64 x,.int .i64 y,.int .i64 s,.int .i64 s] 36 false):=⟨_,rfl⟩
 have x1:Ext h h1:=by rw[ZL];exact (Ext.refl h).new _
 have g1:h1.get h.n=some (.cells [.int .i64 x,.int .i64 y,.int .i64 s,.int .i64 s] 36 false):=by rw[ZL,ZY]
 have r0:=ZZ (o:=0) g1;have r1:=ZZ (o:=1) g1;have r2:=ZZ (o:=2) g1;obtain⟨w,h3,a3,yqZ,x3⟩:=(zu (ga.ext x1) (s:=s) hx hy).elim;have A9:=x1.trans x3;have g3:h3.get h.n=_:=(x3.get _ (H.ZW g1)).trans g1;have HL:=ZZ (o:=2) g3;have Fl:=ZZ (o:=3) g3;have C3:=C.ext A9;subst yqZ;obtain⟨Q,hQ⟩:∃Q:V->H->Prop,Q=λw h'=>o7 D h c m st G x y s kind w h':=⟨_,rfl⟩
 rw[<-hQ,W4 r70,s70];by_cases p:ME x y s;rotate_left
 .rw[if_neg p]at a3
  simp[bx,<-ZL,r0,r1,r2,a3];rw[hQ];exact .inr ⟨λpm=>p pm.1,rfl,A9⟩
 rw[if_pos p]at a3;obtain⟨n,hn⟩:∃n,n=MF G x y s:=⟨_,rfl⟩
 have n4:n<4:=by rw[hn];exact Jc _ _ _ _
 have Av:Fq G x y s=n+if s=32 then 4 else 0:=by rw[hn];rfl
 rw[<-hn]at a3;have Ja:=Tp C3;have pk:=Fp s;have pc:=Fo G x y s;have z4:IntKind.i64.wrap (4+(n:Int))=((n+4:Nat):Int):=by rw[ZS (by omega) (by omega)];omega
 -- the last call
 have last:V1 st.sd.writes x y s kind->∃v h',KW 117 [.ptr c 0,.int .i64 (MX s:Nat),.int .i64 (Fq G x y s:Nat),.int .i64 kind] h3=some (.ret (.Zt [v,.int .i64 0]),h')/\Q (.Zt [v,.int .i64 0]) h':=λpm=>by
  obtain⟨w,h',e,rfl,co,md⟩:=(N3 C3 hm pk.1 pc pm.2).elim;have wqY:=A9.n;have cof:Zu (grow D h h') h' c (m+1) (st.sym (MX s) (Fq G x y s) kind):=co.mono λb hb hd=>by
   rcases hd with hd|hd
   .exact .inl hd
   .exact .inr ⟨by omega,hb⟩
  exact⟨_,h',e,by rw[hQ];exact .inl ⟨pm,rfl,cof,⟨Nat.le_trans A9.n md.n,λb hb hd=>by rw[md.get b (by omega) hd,A9.get b hb]⟩⟩⟩
 have bad:¬V1 st.sd.writes x y s kind->Q (.Zt [.int .i64 0,.int .i64 2]) h3:=λnp=>by
  rw[hQ];exact .inr ⟨np,rfl,A9⟩
 rw[Av]at last;unfold V1 at last bad;rw[pk.2]at last bad;have FE:s=64\/s=32\/s=16:=p.1;cases hw:st.sd.writes with
 |false =>
  rw[hw]at last Ja;obtain⟨v,h4,a4,q⟩:=last ⟨p,λh=>by cases h⟩;rcases FE with rfl|rfl|rfl<;>simp[MX,-Int.natCast_add]at a4<;>simp[bx,<-ZL,r0,r1,r2,a3,HL,Fl,z4,Ja,a4,-Int.natCast_add]<;>exact q
 |true =>
  rw[hw]at last bad Ja;have ew:=λm=>ZB kind 0 m h3;by_cases k:0<=kind/\kind<if s=16 then 8 else 10
  .obtain⟨v,h4,a4,q⟩:=last ⟨p,λ_=>⟨k.1,by have:=k.2;split at this<;>split<;>omega⟩⟩
   have k2:=k.2;rcases FE with rfl|rfl|rfl<;>simp at k2<;>simp[MX,-Int.natCast_add]at a4
   .simp[bx,<-ZL,r0,r1,r2,a3,HL,Fl,z4,ew,show 0<=kind/\kind<=9 by omega,Ja,a4,-Int.natCast_add]
    exact q
   .simp[bx,<-ZL,r0,r1,r2,a3,HL,Fl,z4,ew,show 0<=kind/\kind<=9 by omega,Ja,a4,-Int.natCast_add]
    exact q
   .simp[bx,<-ZL,r0,r1,r2,a3,HL,Fl,z4,ew,show 0<=kind/\kind<=7 by omega,Ja,a4,-Int.natCast_add]
    exact q
  .have q:=bad λh=>k ⟨(h.2 rfl).1,by have:=(h.2 rfl).2;split at this<;>split<;>omega⟩
   rcases FE with rfl|rfl|rfl<;>simp at k
   .simp[bx,<-ZL,r0,r1,r2,a3,HL,Fl,z4,ew,show ¬(0<=kind/\kind<=9)by omega,Ja,-Int.natCast_add]
    exact q
   .simp[bx,<-ZL,r0,r1,r2,a3,HL,Fl,z4,ew,show ¬(0<=kind/\kind<=9)by omega,Ja,-Int.natCast_add]
    exact q
   .simp[bx,<-ZL,r0,r1,r2,a3,HL,Fl,z4,ew,show ¬(0<=kind/\kind<=7)by omega,Ja,-Int.natCast_add]
    exact q
end Go.Proofs.YtbkmdnmncaakdaaGreat
