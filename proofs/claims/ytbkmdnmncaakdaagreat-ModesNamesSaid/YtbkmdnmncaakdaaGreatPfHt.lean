import Derived.Test.YtbkmdnmncaakdaaGreatPfHo
import Derived.Test.YtbkmdnmncaakdaaGreatPfMs
set_option linter.unusedVariables false
set_option linter.unusedSimpArgs false
set_option maxRecDepth 20000
namespace Go.Proofs.YtbkmdnmncaakdaaGreat
open Go Go.Zf
open Go.Zf (ZS)
structure Cr(P:Nat->Prop)(h:H)(c q m:Nat)(st:St)(e:Int):Prop where
 C:∃D,Zu D h c m st/\∀b,D b->b<h.n/\¬P b
 k:h.get q=some (.cells [.ptr c 0,.int .i64 e] 178 false)
 pq:P q
 lt:∀b,P b->b<h.n
variable{P:Nat->Prop}{h:H}{c q m m':Nat}{st:St}{e:Int}
theorem Cr.more(a:Cr P h c q m st e)(hm:m<=m')(M5:m'<100000000):Cr P h c q m' st e:=by
 obtain⟨⟨D,C,hD⟩,k,pq,lt⟩:=a;exact⟨⟨D,C.more hm M5,hD⟩,k,pq,lt⟩
theorem Cr.ok(a:Cr P h c q m st e):Yw st.S/\Yp m st.sd:=by
 obtain⟨⟨D,C,hD⟩,k,pq,lt⟩:=a;exact⟨C.ok.1,C.ok.2.1⟩
theorem Cr.ext{h':H}(a:Cr P h c q m st e)(x:Ext h h'):Cr P h' c q m st e:=by
 obtain⟨⟨D,C,hD⟩,k,pq,lt⟩:=a;have:=x.n;exact⟨⟨D,C.ext x,λb hb=>⟨by have:=(hD b hb).1;omega,(hD b hb).2⟩⟩,(x.get q (lt q pq)).trans k,pq,λb hb=>by have:=lt b hb;omega⟩
theorem Cr.less{Q:Nat->Prop}(a:Cr P h c q m st e)(hq:Q q)(hQ:∀b,Q b->P b):Cr Q h c q m st e:=by
 obtain⟨⟨D,C,hD⟩,k,pq,lt⟩:=a;exact⟨⟨D,C,λb hb=>⟨(hD b hb).1,λh=>(hD b hb).2 (hQ b h)⟩⟩,k,hq,λb hb=>lt b (hQ b hb)⟩
theorem Cr.box(a:Cr P h c q m st e)(X:WI):Cr (λb=>P b\/b=h.n) (h.new X) c q m st e:=by
 have x:Ext h (h.new X):=(Ext.refl h).new X;obtain⟨⟨D,C,hD⟩,k,pq,lt⟩:=a;refine⟨⟨D,C.ext x,λb hb=>⟨by have:=(hD b hb).1;rw[H.ZP];omega,?_⟩⟩,(x.get q (lt q pq)).trans k,.inl pq,?_⟩
 .rintro (h1|h1)
  .exact (hD b hb).2 h1
  .have:=(hD b hb).1;omega
 .rintro b (hb|hb)
  .have:=lt b hb;rw[H.ZP];omega
  .rw[H.ZP];omega
variable{t:Nat}
theorem Cr.put(a:Cr P h c q m st e)(pt:P t)(nt:t≠q)(X:WI):Cr P (h.put t X) c q m st e:=by
 obtain⟨⟨D,C,hD⟩,k,pq,lt⟩:=a;exact⟨⟨D,C.keep (by rw[H.ZJ];exact Nat.le_refl _) λb hb Yv=>ZX (by rintro rfl;exact (hD _ hb).2 pt),λb hb=>by rw[H.ZJ];exact hD b hb⟩,(ZX (Ne.symm nt)).trans k,pq,λb hb=>by rw[H.ZJ];exact lt b hb⟩
structure Rr(P:Nat->Prop)(h:H)(c q m:Nat)(st:St)(e:Int)(h':H):Prop where
 co:Cr P h' c q m st e
 kp:Kp (λb=>P b/\b≠q) h h'
variable{h1 h2:H}{YI:St}
theorem Rr.trans{e':Int}(a:Rr P h c q m st e h1)(b:Rr P h1 c q m' YI e' h2):Rr P h c q m' YI e' h2:=⟨b.co,a.kp.trans b.kp⟩
theorem Rr.more(a:Rr P h c q m st e h1)(hm:m<=m')(M5:m'<100000000):Rr P h c q m' st e h1:=⟨a.co.more hm M5,a.kp⟩
theorem Rr.ext(a:Rr P h c q m st e h1)(x:Ext h1 h2):Rr P h c q m st e h2:=⟨a.co.ext x,a.kp.trans (Kp.of x λi hi=>a.co.lt i hi.1)⟩
theorem Rr.get(a:Rr P h c q m st e h1){b:Nat}{X:WI}(pb:P b)(nb:b≠q)(hb:h.get b=some X):h1.get b=some X:=(a.kp.get b ⟨pb,nb⟩).trans hb
variable{n:Nat}
theorem Rr.less{h0:H}(a:Rr (λb=>P b\/b=n) h0 c q m st e h1)(x:Ext h h0)(pq:P q)(lt:∀b,P b->b<h.n):Rr P h c q m st e h1 :=
 ⟨a.co.less pq λb hb=>.inl hb,⟨Nat.le_trans x.n a.kp.n,λb hb=>by rw[a.kp.get b ⟨.inl hb.1,hb.2⟩,x.get b (lt b hb.1)]⟩⟩
theorem Rr.put(a:Rr (λb=>P b\/b=n) h c q m st e h1)(nq:n≠q)(np:¬P n)(X:WI):Rr P h c q m st e (h1.put n X)/\Cr (λb=>P b\/b=n) (h1.put n X) c q m st e :=
 ⟨⟨(a.co.put (.inr rfl) nq X).less (by rcases a.co.pq with h|h;exact h;exact absurd h.symm nq) λb hb=>.inl hb,⟨by rw[H.ZJ];exact a.kp.n,λb hb=>by rw[ZX (by rintro rfl;exact np hb.1),a.kp.get b ⟨.inl hb.1,hb.2⟩]⟩⟩,a.co.put (.inr rfl) nq X⟩
variable{D:Nat->Prop}
theorem Cr.step(hD:∀b,D b->b<h.n/\¬P b)(hq:h.get q=some (.cells [.ptr c 0,.int .i64 0] 178 false))(pq:P q)(lt:∀b,P b->b<h.n)
  (C1:Zu (grow D h h1) h1 c m' YI) (M1:Mod D h h1):h1.Zp q 1=some (.int .i64 0)/\h1.WO q 1 (.int .i64 0)=some (h1.put q (.cells [.ptr c 0,.int .i64 0] 178 false))/\Rr P h c q m' YI 0 (h1.put q (.cells [.ptr c 0,.int .i64 0] 178 false)):=by
 have jf:=M1.n;have q1:h1.get q=_:=(M1.get q (lt q pq) λhb=>(hD q hb).2 pq).trans hq;have nP:∀b,grow D h h1 b->¬P b:=λb hb hp=>by
  rcases hb with hb|hb
  .exact (hD b hb).2 hp
  .have:=lt b hp;omega
 refine⟨by rw[ZZ q1];rfl,by rw[Zw q1 (by simp)];rfl,⟨⟨_,C1.keep (by rw[H.ZJ];exact Nat.le_refl _) λb hb _=>ZX λe=>nP b hb (e▸pq),λb hb=>⟨?_,nP b hb⟩⟩,ZV (H.ZW q1),pq,λb hb=>by have:=lt b hb;rw[H.ZJ];omega⟩,⟨by rw[H.ZJ];exact jf,λb hb=>by rw[ZX hb.2,M1.get b (lt b hb.1) λhd=>(hD b hd).2 hb.1]⟩⟩;rw[H.ZJ];rcases hb with hb|hb
 .have:=(hD b hb).1;omega
 .exact hb.2
variable{k x:Nat}{v:Int}
theorem Uh(a:Cr P h c q m st 0)(hm:m+1<100000000)(hk:k<32)(hx:x<cx k)(hw:st.sd.writes=true->0<=v/\v<vl k):
  RT (λw h'=>w=.int .i64 (st.ZC k x v:Nat)/\Rr P h c q (m+1) (st.sym k x v) 0 h') (KW 120 [.ptr q 0,.int .i64 (k:Nat),.int .i64 (x:Nat),.int .i64 v] h):=by
 obtain⟨⟨D,C,hD⟩,hq,pq,lt⟩:=a;have r0:=ZZ (o:=0) hq;obtain⟨_,h1,a1,rfl,C1,M1⟩:=(N3 C hm hk hx hw).elim;obtain⟨r1,w1,R⟩:=Cr.step hD hq pq lt C1 M1;rw[W4 Wq6,je];simp[r0,a1,r1,w1];exact⟨rfl,R⟩
theorem Ht(a:Cr P h c q m st 0)(hm:m+n<100000000)(hn:n<=30)(hw:st.sd.writes=true->0<=v/\v<pw n):
  RT (λw h'=>w=.int .i64 (st.WG n v.toNat:Nat)/\Rr P h c q (m+n) (st.num n v.toNat) 0 h') (KW 175 [.ptr q 0,.int .i64 (n:Nat),.int .i64 v] h):=by
 obtain⟨⟨D,C,hD⟩,hq,pq,lt⟩:=a;have r0:=ZZ (o:=0) hq;obtain⟨_,h1,a1,rfl,C1,M1⟩:=(Cf C hn hm hw).elim;obtain⟨r1,w1,R⟩:=Cr.step hD hq pq lt C1 M1;rw[W3 Wq5,jd];simp[r0,a1,r1,w1];exact⟨rfl,R⟩
theorem Tp(C:Zu D h c m st):KW 115 [.ptr c 0] h=some (.ret (.bool st.sd.writes),h):=by
 obtain⟨vo,vi,vs,Ds,Dw,h1,h2,h3,_⟩:=C;rw[W1 Wq4,ja];generalize st.sd=sd at h3 ⊢;cases sd with
 |w out low ZH=>obtain⟨e,rfl,rfl,_⟩:=h3;simp[ZZ h1,YX.writes]
 |r rest code ZH=>obtain⟨e,rfl,rfl,_⟩:=h3;simp[ZZ h1,YX.writes]
theorem V2(b:Bool)(h:H):KW 121 [.bool b] h=some (.ret (.int .i64 (Yc b)),h):=by
 rw[W1 Wq3,iZ];cases b<;>simp<;>rfl
theorem zS(n:Int)(h:H):KW 159 [.int .i64 n] h=some (.ret (.int .i64 (Xv n:Nat)),h):=by
 rw[W1 Wq2,iY];unfold Xv;by_cases c1:n<0
 .simp[c1]
 .by_cases c2:0<n
  .simp[c1,c2,V2,Yc,show IntKind.i64.wrap 2=2 from rfl]
  .simp[c1,c2,V2,Yc,show IntKind.i64.wrap 0=0 from rfl]
theorem DP{n:Int}(hn : -1000000<=n/\n<=1000000)(h:H):KW 172 [.int .i64 n] h=some (.ret (.int .i64 (X3 n)),h):=by
 have z:IntKind.i64.wrap (-n)=-n:=ZS (by omega) (by omega);rw[W1 Wq1,iX];by_cases c1:n<0
 .simp[c1,z];have:=OR n;omega
 .simp[c1];have:=OR n;omega
theorem M0(h0:n≠0)(hn:n<1000000)(h:H):KW 158 [.int .i64 n] h=some (.ret (.int .i64 (Nat.log2 n:Nat)),h):=by
 rw[W1 iW,oI];have lb:∀x:Nat,1<x->Nat.log2 x=Nat.log2 (x/2)+1:=λx hx=>by rw[Nat.log2_def x,if_pos (by omega)]
 have ln:Nat.log2 n<20:=(Nat.log2_lt h0).2 (by omega);simp;refine XV (C:=λo=>Zf.fin Tryz.prog _ _ (sq (Y9 0 o) _)=_) (λx e g=>g=h/\1<=x/\x<=n/\e.s [0,2,3] 0=.int .i64 x/\∃k:Nat,e.s [0,2,3] 3=.int .i64 k/\Nat.log2 n=k+Nat.log2 x)
  (λs=>s.h=h/\s.x=.ex 0/\s.e.s [0,2,3] 3=.int .i64 (Nat.log2 n:Nat)) ?_ n ⟨rfl,by omega,Nat.le_refl _,by simp,0,by simp,by omega⟩ ?_
 .rintro x e g ⟨rfl,hx,hxn,p0,k,p3,hk⟩
  by_cases hc:1<x
  .have hd:(x:Int).tdiv 2=((x/2:Nat):Int):=by rw[Int.tdiv_eq_ediv_of_nonneg (by omega)];simp
   have z1:IntKind.i64.wrap ((x/2:Nat):Int)=((x/2:Nat):Int):=ZS (by omega) (by omega);have z2:IntKind.i64.wrap ((k:Int)+1)=k+1:=ZS (by omega) (by omega);have:=lb x hc;simp[OQ,p0,hc,show (1:Int)<x by omega,hd,p3,z2];exact⟨x/2,by omega,rfl,by omega,by omega,by simp;exact z1,k+1,by simp,by omega⟩
  .have:x=1:=by omega
   subst this;have l1:Nat.log2 1=0:=by decide
   simp[OQ,p0];exact⟨rfl,rfl,by simp[p3];omega⟩
 .rintro⟨sx,se,sh⟩ ⟨s1,s2,s3⟩
  simp only at s1 s2 s3;subst s1 s2;simp[s3]
end Go.Proofs.YtbkmdnmncaakdaaGreat
set_option linter.unusedVariables false
set_option linter.unusedSimpArgs false
set_option maxRecDepth 20000
namespace Go.Proofs.YtbkmdnmncaakdaaGreat
open Go Go.Zf
open Go.Zf (ZS)
variable{P:Nat->Prop}{h:H}{c q m:Nat}{st:St}{e:Int}
theorem Rr.refl(a:Cr P h c q m st e):Rr P h c q m st e h:=⟨a,Kp.refl _ _⟩
structure J(P P2:Nat->Prop)(h2:H)(c q m:Nat)(st:St)(g:H):Prop where
 co:Cr P2 g c q m st 0
 kp:Kp (λb=>P b/\b≠q) h2 g
 hP:∀b,P b->P2 b
variable{P2:Nat->Prop}{h2 g g':H}{m':Nat}{YI:St}
theorem J.step(a:J P P2 h2 c q m st g)(R:Rr P2 g c q m' YI 0 g'):J P P2 h2 c q m' YI g':=⟨R.co,a.kp.trans (R.kp.mono λb hb=>⟨a.hP b hb.1,hb.2⟩),a.hP⟩
theorem J.ext(a:J P P2 h2 c q m st g)(x:Ext g g'):J P P2 h2 c q m st g':=a.step ⟨a.co.ext x,Kp.of x λb hb=>a.co.lt b hb.1⟩
theorem J.more(a:J P P2 h2 c q m st g)(hm:m<=m')(M5:m'<100000000):J P P2 h2 c q m' st g:=⟨a.co.more hm M5,a.kp,a.hP⟩
variable{t:Nat}
theorem J.put(a:J P P2 h2 c q m st g)(pt:P2 t)(np:¬P t)(nt:t≠q)(X:WI):J P P2 h2 c q m st (g.put t X) :=
 ⟨a.co.put pt nt X,⟨by rw[H.ZJ];exact a.kp.n,λb hb=>by rw[ZX (by rintro rfl;exact np hb.1),a.kp.get b hb]⟩,a.hP⟩
theorem J.done(a:J P P2 h2 c q m st g)(x:Ext h h2)(pq:P q)(lt:∀b,P b->b<h.n):Rr P h c q m st 0 g :=
 ⟨a.co.less pq a.hP,⟨Nat.le_trans x.n a.kp.n,λb hb=>by rw[a.kp.get b hb,x.get b (lt b hb.1)]⟩⟩
def Rx{α:Type}(p:Pr α)(st:St)(en:α->V)(P:Nat->Prop)(h:H)(c q m:Nat)(w:V)(h':H):Prop:=∃r YI,w=en r/\p.exec st=(some r,YI)/\Rr P h c q m YI 0 h'
abbrev iC(n:Int):V:=.int .i64 n
theorem kC(x:Int):Rg [.int .i64 x,.int .i64 0]=some (.int .i64 (imax x 0)):=Fx _ _ _
variable{v:Int}
theorem DL(a:Cr P h c q m st 0){s i:Nat}(hm:m+1<100000000)(hi:i<2)(hs:s<=2)(hb : -1000<=v/\v<=1000)(hw:st.sd.writes=true->Xv v=s/\-16<=v/\v<=16):
  RT (λw h'=>Rx (Q9 s i v) st iC P h c q (m+1) w h') (KW 160 [.ptr q 0,.int .i64 (s:Nat),.int .i64 (i:Nat),.int .i64 v] h):=by
 rw[W4 WqZ,iB];by_cases s0:s=0
 .subst s0
  simp;exact⟨0,st,rfl,rfl,(Rr.refl a).more (by omega) hm⟩
 .have kB:¬(s:Int)=0:=by omega
  have ab:=OR v;have mb:=Tn (X3 v) 1;have mc:=Tn (X3 v-1) 0;have e1:imax (X3 v-1) 0=imax (X3 v) 1-1:=by omega
  have a0:=DP (n:=v) (by omega) h;have z1:IntKind.i64.wrap (X3 v-1)=X3 v-1:=ZS (by omega) (by omega);obtain⟨_,h1,a1,rfl,R⟩:=(Uh a (k:=9) (x:=i) (v:=imax (X3 v) 1-1) hm (by decide) hi (λh=>by have:=(hw h).2;show _/\_<16;omega)).elim;have sl:st.ZC 9 i (imax (X3 v) 1-1)<16:=St.YF a.ok.1 (k:=9) (by decide) hi (λh=>by have:=(hw h).2;show _/\_<16;omega);have ex:(Q9 s i v).exec st=(some (if s=1 then -((st.ZC 9 i (imax (X3 v) 1-1):Nat)+1:Int)else ((st.ZC 9 i (imax (X3 v) 1-1):Nat)+1:Int)),st.sym 9 i (imax (X3 v) 1-1)):=by
   unfold Q9;rw[if_neg s0];rfl
  rw[show ((9:Nat):Int)=9 from rfl,<-e1]at a1;rw[<-e1]at sl;rw[<-e1]at ex R;obtain⟨y,hy⟩:∃y,y=st.ZC 9 i (imax (X3 v-1) 0):=⟨_,rfl⟩
  rw[<-hy]at a1 sl ex;have z2:IntKind.i64.wrap ((y:Int)+1)=(y:Int)+1:=ZS (by omega) (by omega);have z3:IntKind.i64.wrap (-((y:Int)+1))=-((y:Int)+1):=ZS (by omega) (by omega);by_cases s1:s=1
  .subst s1
   rw[if_pos rfl]at ex;simp[a0,z1,kC,a1,z2,z3,-PK];exact⟨_,_,rfl,ex,R⟩
  .have s1':¬(s:Int)=1:=by omega
   rw[if_neg s1]at ex;simp[a0,z1,kC,a1,z2,s0,s1,kB,s1',-PK];exact⟨_,_,rfl,ex,R⟩
end Go.Proofs.YtbkmdnmncaakdaaGreat
set_option linter.unusedVariables false
set_option linter.unusedSimpArgs false
set_option maxRecDepth 20000
namespace Go.Proofs.YtbkmdnmncaakdaaGreat
open Go Go.Zf
open Go.Zf (ZS)
abbrev TC:List Nat:=[0,1,3,4,5,6,7,8,9]
structure wq0(P P2:Nat->Prop)(h2:H)(c q t z m:Nat)(st:St)(b:Bk)(e:E)(g:H):Prop where
 j:J P P2 h2 c q m st g
 bt:g.get t=some (.cells b.cs 42 false)
 bz:g.get z=some (.cells YC.cs 42 false)
 e0:e.s TC 0=.ptr q 0
 e3:e.s TC 3=.ptr t 0
 e4:e.s TC 4=.ptr z 0
variable{P P2:Nat->Prop}{h2 g:H}{c q t m k x:Nat}{st:St}{v:Int}
theorem Gl{z:Nat}{bb:Bk}{d:Int}(j:J P P2 h2 c q (m+1) (st.sym k x v) g)(bt:g.get t=some (.cells bb.cs 42 false))(bz:g.get z=some (.cells YC.cs 42 false))(pt:P2 t/\t≠q)(pz:P2 z/\z≠q)
  (hm:m+2<100000000) (so:Yw st.S) (hk:k<32) (hx:x<cx k) (hv:vl k<=14) (hw:st.sd.writes=true->(0<=v/\v<vl k)/\XX v d) (hz:st.sd.writes=false->d=0) :
  ∃(s:Nat) (d1:Int) (Xz:St) (g':H),s=st.ZC k x v/\s<14/\(JF k x (v,d)).exec st=(some ((s:Int),d1),Xz)/\(st.sd.writes=true->(s:Int)=v/\d1=d)/\J P P2 h2 c q (m+2) Xz g'/\g'.get t=some (.cells bb.cs 42 false)/\g'.get z=some (.cells YC.cs 42 false) /\
   (1<=s/\s<=8->∃y:Nat,KW 120 [.ptr q 0,.int .i64 5,.int .i64 ((s-1:Nat):Int),.int .i64 (d+3)] g=some (.ret (.int .i64 (y:Nat)),g')/\y<7/\d1=(y:Int)-3)/\(¬(1<=s/\s<=8)->g'=g/\d1=0):=by
 have sl:=St.YF so hk hx (v:=v) λh=>(hw h).1;have sw:st.sd.writes=true->((st.ZC k x v:Nat):Int)=v:=λh=>by rw[St.Yx h];have:=(hw h).1;omega
 have ex:(JF k x (v,d)).exec st=(if 1<=st.ZC k x v/\st.ZC k x v<=8 then Pr.sym 5 (st.ZC k x v-1) (d+3) λy=>.done (((st.ZC k x v:Nat):Int),(y:Int)-3)else .done (((st.ZC k x v:Nat):Int),d)).exec (st.sym k x v):=rfl;obtain⟨s,hs⟩:∃s,s=st.ZC k x v:=⟨_,rfl⟩
 rw[<-hs]at sl sw ex;by_cases c1:1<=s/\s<=8
 .rw[if_pos c1]at ex
  have dl:(st.sym k x v).sd.writes=true->0<=d+3/\d+3<(7:Nat):=λh=>by
   rw[St.YG]at h;have h3:=(hw h).2;have:=sw h;unfold XX at h3;omega
  obtain⟨_,g',a1,rfl,R⟩:=(Uh j.co (k:=5) (x:=s-1) (v:=d+3) hm (by decide) (by show s-1<8;omega) dl).elim;have yl:(st.sym k x v).ZC 5 (s-1) (d+3)<7:=St.YF j.co.ok.1 (k:=5) (x:=s-1) (by decide) (by show s-1<8;omega) dl;refine⟨s,_,_,g',hs,by omega,ex,λh=>⟨sw h,?_⟩,j.step R,R.get pt.1 pt.2 bt,R.get pz.1 pz.2 bz,λ_=>⟨_,a1,yl,rfl⟩,λn=>(n c1).elim⟩;have:=dl (by rw[St.YG];exact h);rw[St.Yx (by rw[St.YG];exact h)];omega
 .rw[if_neg c1]at ex
  have d0:d=0:=by
   cases WH:st.sd.writes with
   |false=>exact hz WH
   |true =>
    have h3:=(hw WH).2;have:=sw WH;unfold XX at h3;omega
  exact⟨s,d,_,g,hs,by omega,ex,λh=>⟨sw h,rfl⟩,j.more (by omega) hm,bt,bz,λc=>(c1 c).elim,λ_=>⟨rfl,d0⟩⟩
variable{h:H}
theorem A3(a:Cr P h c q m st 0){b:Bk}(hm:m+7<100000000)(sh:YR b)(sm:Sc b)(hw:st.sd.writes=true->Xc b)(hz:st.sd.writes=false->b.yd=0/\b.ud=0/\b.cu=0/\b.cv=0):
  RT (λw h'=>Rx (Xd b) st Bk.v P h c q (m+7) w h') (KW 123 [.ptr q 0,b.v] h):=by
 obtain⟨sy,syd,su,sud,scu,scv⟩:=sm;obtain⟨n,n3,n6,Dn,lg⟩:=sh.min;obtain⟨h1,ZL⟩:∃z,z=h.new (.cells b.cs 42 false):=⟨_,rfl⟩
 obtain⟨h2,Zq⟩:∃z,z=h1.new (.cells YC.cs 42 false):=⟨_,rfl⟩
 have n1:h1.n=h.n+1:=by rw[ZL,H.ZP]
 have n2:h2.n=h1.n+1:=by rw[Zq,H.ZP]
 have x2:Ext h h2:=by rw[Zq,ZL];exact ((Ext.refl h).new _).new _
 have t2:h2.get h.n=some (.cells b.cs 42 false):=by rw[Zq,ZR (by omega),ZL,ZY]
 have z2:h2.get h1.n=some (.cells YC.cs 42 false):=by rw[Zq,ZY]
 obtain⟨P2,LA⟩:∃P2:Nat->Prop,P2=λx=>(P x\/x=h.n)\/x=h1.n:=⟨_,rfl⟩
 have a2:Cr P2 h2 c q m st 0:=by rw[LA,Zq,ZL];exact (a.box _).box _
 have j2:J P P2 h2 c q m st h2:=⟨a2,Kp.refl _ _,λb hb=>by rw[LA];exact .inl (.inl hb)⟩
 have qn:=a.lt q a.pq;obtain⟨t,ht⟩:∃t,t=h.n:=⟨_,rfl⟩
 obtain⟨z,tZ⟩:∃z,z=h1.n:=⟨_,rfl⟩
 have pt:P2 t/\¬P t/\t≠q/\P2 z/\¬P z/\z≠q/\z≠t:=by
  rw[LA,ht,tZ];exact⟨.inl (.inr rfl),λhp=>by have:=a.lt _ hp;omega,by omega,.inr rfl,λhp=>by have:=a.lt _ hp;omega,by omega,by omega⟩
 obtain⟨pt,npt,zW,pz,npz,jD,nzt⟩:=pt;rw[<-ht]at t2;rw[<-tZ]at z2;obtain⟨Q,hQ⟩:∃Q:V->H->Prop,Q=λw h'=>Rx (Xd b) st Bk.v P h c q (m+7) w h':=⟨_,rfl⟩
 -- rO a field
 have wr:∀{m:Nat} {st:St} {bb:Bk} {g:H} {o:Nat} {v:V} {SP:Bk},J P P2 h2 c q m st g->g.get t=some (.cells bb.cs 42 false)->g.get z=some (.cells YC.cs 42 false)->o<23->bb.cs.set o v=SP.cs ->
   ∃g',g.WO t o v=some g'/\J P P2 h2 c q m st g'/\g'.get t=some (.cells SP.cs 42 false)/\g'.get z=some (.cells YC.cs 42 false):=λ{m st bb g o v SP} j bt bz ho hs =>
  ⟨_,Zw bt ho v,j.put pt npt zW _,by rw[ZV (H.ZW bt),hs],by rw[ZX nzt];exact bz⟩
 -- a symbol
 have sym:∀{m':Nat} {st:St} {bb:Bk} {g:H} {k x:Nat} {v:Int},J P P2 h2 c q m' st g->g.get t=some (.cells bb.cs 42 false)->g.get z=some (.cells YC.cs 42 false)->m'+1<100000000->k<32->x<cx k->(st.sd.writes=true->0<=v/\v<vl k) ->
   ∃g',KW 120 [.ptr q 0,.int .i64 (k:Nat),.int .i64 (x:Nat),.int .i64 v] g=some (.ret (.int .i64 (st.ZC k x v:Nat)),g')/\J P P2 h2 c q (m'+1) (st.sym k x v) g'/\g'.get t=some (.cells bb.cs 42 false)/\g'.get z=some (.cells YC.cs 42 false):=λ{m' st bb g k x v} j bt bz h1 h2 h3 h4=>by
  obtain⟨_,g',a1,rfl,R⟩:=(Uh j.co h1 h2 h3 h4).elim;exact⟨g',a1,j.step R,R.get pt zW bt,R.get pz jD bz⟩
 have wk:st.sd.writes=true->(0<=b.ym/\b.ym<=12)/\(0<=b.um/\b.um<=13)/\XX b.ym b.yd/\XX b.um b.ud/\S3 b:=λh=>(hw h).2;have pn:2^n≠0:=by have:=Nat.two_pow_pos n;omega
 have pn2:2^n<=2^6:=Nat.pow_le_pow_right (by decide) n6;have l1:=M0 pn (by omega) h2;rw[Nat.log2_two_pow]at l1;obtain⟨mn,TN⟩:∃z,z=2^n:=⟨_,rfl⟩
 rw[<-TN]at l1 Dn;have KH:(if b.h<b.w then b.h else b.w)=((mn:Nat):Int):=Dn;have y3:IntKind.i64.wrap ((n:Int)-3)=((n-3:Nat):Int):=by rw[ZS (by omega) (by omega)];omega
 have aZ:st.sd.writes=true->(0<=b.ym/\b.ym<(13:Nat))/\XX b.ym b.yd:=λh=>⟨by have:=(wk h).1;omega,(wk h).2.2.1⟩
 obtain⟨g1,a1,j1,bt1,bz1⟩:=sym (k:=4) (x:=n-3) (v:=b.ym) j2 t2 z2 (by omega) (by decide) (by show n-3<4;omega) λh=>(aZ h).1;obtain⟨g2,wa,j2',aY,bz2⟩:=wr (o:=6) (v:=.int .i64 (st.ZC 4 (n-3) b.ym:Nat)) (SP:={b with ym:=(st.ZC 4 (n-3) b.ym:Nat)}) j1 bt1 bz1 (by omega) rfl;obtain⟨s,d1,Xz,g3,hs,sl,exY,yw,j3,bt3,bz3,dy,dn⟩:=Gl j2' aY bz2 ⟨pt,zW⟩ ⟨pz,jD⟩ (by omega) a.ok.1 (by decide) (by show n-3<4;omega) (by decide) aZ λh=>(hz h).1;rw[<-hs]at a1 wa aY bt3;have w2:=YS exY;have QU:∀o,h2.Zp t o=b.cs[o]?:=λo=>ZZ t2;have BA:KW 120 [.ptr q 0,.int .i64 4,.int .i64 ((n-3:Nat):Int),.int .i64 b.ym] h2=some (.ret (.int .i64 (s:Nat)),g1):=a1;rw[<-hQ,W2 WqB,gj];simp[bx,nw,<-ZL,<-Zq,<-ht,<-tZ,QU,KH,l1,y3,BA,wa];obtain⟨b1,VJ⟩:∃z:Bk,z={b with ym:=(s:Nat)}:=⟨_,rfl⟩
 rw[<-VJ]at aY bt3;have rs:g2.Zp t 6=some (.int .i64 (s:Nat)):=by rw[ZZ aY,VJ];rfl
 have rsd:g2.Zp t 7=some (.int .i64 b.yd):=by rw[ZZ aY,VJ];rfl
 refine Ym (C:=λo=>RT Q (Zf.fin Tryz.prog _ _ o)) (λe g=>g=g3/\e.s TC 5=.int .i64 d1/\e.s TC 0=.ptr q 0/\e.s TC 3=.ptr t 0/\e.s TC 4=.ptr z 0) ?_ ?_
 .by_cases c1:1<=s/\s<=8
  .have Hy:1<=(s:Int)/\(s:Int)<=8:=by omega
   obtain⟨y,a3,y7,rfl⟩:=dy c1;have q1:IntKind.i64.wrap ((s:Int)-1)=((s-1:Nat):Int):=by rw[ZS (by omega) (by omega)];omega
   have q2:IntKind.i64.wrap (b.yd+3)=b.yd+3:=ZS (by omega) (by omega);have q3:IntKind.i64.wrap ((y:Int)-3)=(y:Int)-3:=ZS (by omega) (by omega);simp[rs,rsd,X8,Hy,q1,q2,a3,q3,XG]
  .have Hy:¬(1<=(s:Int)/\(s:Int)<=8):=by omega
   obtain⟨rfl,rfl⟩:=dn c1;simp[rs,X8,Hy,XG]
 rintro e g ⟨rfl,e5,e0,e3,e4⟩;obtain⟨b2,Yv⟩:∃z:Bk,z={b with ym:=(s:Nat),yd:=d1}:=⟨_,rfl⟩
 obtain⟨g4,wb,j4,bt4,bz4⟩:=wr (o:=7) (v:=.int .i64 d1) (SP:=b2) j3 bt3 bz3 (by omega) (by rw[VJ,Yv];rfl);simp[e3,e0,e4,e5,wb];have SB:∀o,g4.Zp t o=b2.cs[o]?:=λo=>ZZ bt4;have jC:g4.Zp t 2=some (.int .i64 b.w)/\g4.Zp t 3=some (.int .i64 b.h)/\g4.Zp t 8=some (.int .i64 b.um):=by rw[SB,SB,SB,Yv];exact⟨rfl,rfl,rfl⟩
 refine Ym (C:=λo=>RT Q (Zf.fin Tryz.prog _ _ o)) (λe g=>g=g4/\e.s TC 6=.int .i64 (Xw b:Nat)/\e.s TC 0=.ptr q 0/\e.s TC 3=.ptr t 0/\e.s TC 4=.ptr z 0) ?_ ?_
 .have mx:=Tn b.w b.h
  unfold Xw;by_cases c1:b.w<=32
  .by_cases c2:b.h<=32
   .simp[jC.1,jC.2.1,c1,c2,XG,show imax b.w b.h<=32 by omega]
   .simp[jC.1,jC.2.1,c1,c2,XG,show ¬imax b.w b.h<=32 by omega]
  .simp[jC.1,c1,XG,show ¬imax b.w b.h<=32 by omega]
 rintro e g ⟨rfl,e6,e0,e3,e4⟩
 -- aX mode
 have tY:Xw b<32/\cx (Xw b)=1/\vl (Xw b)=(if imax b.w b.h<=32 then 14 else 13):=by unfold Xw;split<;>exact⟨by decide,rfl,rfl⟩
 have kqa:vl (Xw b)<=14:=by rw[tY.2.2];split<;>decide
 have aW:Xz.sd.writes=true->(0<=b.um/\b.um<vl (Xw b))/\XX b.um b.ud:=λh=>by
  rw[w2]at h;obtain⟨_,h1,_,h3,h4⟩:=wk h;refine⟨⟨h1.1,?_⟩,h3⟩;unfold S3 at h4;rw[tY.2.2];by_cases Tq:b.um=13
  .rw[if_pos Tq]at h4;rw[if_pos h4.2.1];omega
  .split<;>omega
 obtain⟨g5,a5,j5,bt5,bz5⟩:=sym (k:=Xw b) (x:=0) (v:=b.um) j4 bt4 bz4 (by omega) tY.1 (by rw[tY.2.1];decide) λh=>(aW h).1;obtain⟨g6,wc,j6,aV,bz6⟩:=wr (o:=8) (v:=.int .i64 (Xz.ZC (Xw b) 0 b.um:Nat)) (SP:={b2 with um:=(Xz.ZC (Xw b) 0 b.um:Nat)}) j5 bt5 bz5 (by omega) rfl;obtain⟨r,d2,VB,g7,hr,rl,exU,uw,j7,bt7,bz7,ey,en⟩:=Gl j6 aV bz6 ⟨pt,zW⟩ ⟨pz,jD⟩ (by omega) j4.co.ok.1 tY.1 (by rw[tY.2.1];decide) kqa aW λh=>(hz (by rw[<-w2];exact h)).2.1;rw[<-hr]at a5 wc aV bt7;have w4:=(YS exU).trans w2;rw[show ((0:Nat):Int)=0 from rfl]at a5;simp[e0,e3,e4,e6,jC.2.2,a5,wc];obtain⟨b3,Gk⟩:∃z:Bk,z={b2 with um:=(r:Nat)}:=⟨_,rfl⟩
 rw[<-Gk]at aV bt7;have rr:g6.Zp t 8=some (.int .i64 (r:Nat)):=by rw[ZZ aV,Gk];rfl
 have rrd:g6.Zp t 9=some (.int .i64 b.ud):=by rw[ZZ aV,Gk,Yv];rfl
 refine Ym (C:=λo=>RT Q (Zf.fin Tryz.prog _ _ o)) (λe g=>g=g7/\e.s TC 5=.int .i64 d2/\e.s TC 0=.ptr q 0/\e.s TC 3=.ptr t 0/\e.s TC 4=.ptr z 0) ?_ ?_
 .by_cases c1:1<=r/\r<=8
  .have Hy:1<=(r:Int)/\(r:Int)<=8:=by omega
   obtain⟨y,a3,y7,rfl⟩:=ey c1;have q1:IntKind.i64.wrap ((r:Int)-1)=((r-1:Nat):Int):=by rw[ZS (by omega) (by omega)];omega
   have q2:IntKind.i64.wrap (b.ud+3)=b.ud+3:=ZS (by omega) (by omega);have q3:IntKind.i64.wrap ((y:Int)-3)=(y:Int)-3:=ZS (by omega) (by omega);simp[rr,rrd,X8,Hy,q1,q2,a3,q3,XG]
  .have Hy:¬(1<=(r:Int)/\(r:Int)<=8):=by omega
   obtain⟨rfl,rfl⟩:=en c1;simp[rr,X8,Hy,XG]
 rintro e g ⟨rfl,e5,e0,e3,e4⟩;obtain⟨b4,JI⟩:∃z:Bk,z={b with ym:=(s:Nat),yd:=d1,um:=(r:Nat),ud:=d2}:=⟨_,rfl⟩
 obtain⟨g8,wd,j8,bt8,bz8⟩:=wr (o:=9) (v:=.int .i64 d2) (SP:=b4) j7 bt7 bz7 (by omega) (by rw[Gk,Yv,JI];rfl);simp[e3,e0,e4,e5,wd];have rd8:∀o,g8.Zp t o=b4.cs[o]?:=λo=>ZZ bt8;have wc8:g8.Zp t 8=some (.int .i64 (r:Nat))/\g8.Zp t 10=some (.int .i64 b.cu)/\g8.Zp t 11=some (.int .i64 b.cv):=by rw[rd8,rd8,rd8,JI];exact⟨rfl,rfl,rfl⟩
 have Ju:(Xd b).exec st=(if (r:Int)=13 then (Rq (b.cu,b.cv)).bind λc=>.done {b4 with cu:=c.1,cv:=c.2}else .done b4).exec VB:=by
  unfold Xd;rw[lg,Pr.Zj exY,Pr.Zj exU,JI]
 obtain⟨Pos,Uy⟩:∃Pos:E->H->Prop,Pos=λe g=>∃u v Ux,(e.s TC 7=.int .i64 u/\e.s TC 8=.int .i64 v/\e.s TC 0=.ptr q 0/\e.s TC 3=.ptr t 0/\e.s TC 4=.ptr z 0)/\(Xd b).exec st=(some {b4 with cu:=u,cv:=v},Ux)/\J P P2 h2 c q (m+7) Ux g/\g.get t=some (.cells b4.cs 42 false)/\g.get z=some (.cells YC.cs 42 false):=⟨_,rfl⟩
 refine Ym (C:=λo=>RT Q (Zf.fin Tryz.prog _ _ o)) Pos ?_ ?_
 .by_cases Tq:r=13
  .rw[if_pos (by omega)]at Ju
   have b1:=JE b.cu;have b2:=JE b.cv;have cw:VB.sd.writes=true->(¬(b.cu=0/\b.cv=0))/\(-16<=b.cu/\b.cu<=16)/\(-16<=b.cv/\b.cv<=16):=λh=>by
    rw[w4]at h;have h4:=(wk h).2.2.2.2;have:=(uw (by rw[w2];exact h)).1;unfold S3 at h4;rw[if_pos (by omega)]at h4;exact⟨h4.1,h4.2.2.1,h4.2.2.2⟩
   have jl:VB.sd.writes=true->0<=3*(Xv b.cu:Int)+Xv b.cv-1/\3*(Xv b.cu:Int)+Xv b.cv-1<(8:Nat):=λh=>by have:=cw h;omega
   obtain⟨g9,a9,j9,bt9,bz9⟩:=sym (k:=8) (x:=0) (v:=3*(Xv b.cu:Int)+Xv b.cv-1) j8 bt8 bz8 (by omega) (by decide) (by decide) jl;have ll:VB.ZC 8 0 (3*(Xv b.cu:Int)+Xv b.cv-1)<8:=St.YF j8.co.ok.1 (k:=8) (by decide) (by decide) jl;have lw:VB.sd.writes=true->((VB.ZC 8 0 (3*(Xv b.cu:Int)+Xv b.cv-1):Nat):Int)=3*(Xv b.cu:Int)+Xv b.cv-1:=λh=>by rw[St.Yx h];have:=jl h;omega
   have exC:(Xd b).exec st=((Q9 ((VB.ZC 8 0 (3*(Xv b.cu:Int)+Xv b.cv-1)+1)/3) 0 b.cu).bind λu=>(Q9 ((VB.ZC 8 0 (3*(Xv b.cu:Int)+Xv b.cv-1)+1)%3) 1 b.cv).bind λw=>.done {b4 with cu:=u,cv:=w}).exec (VB.sym 8 0 (3*(Xv b.cu:Int)+Xv b.cv-1)):=by
    rw[Ju];unfold Rq;simp only[Pr.bind,Pr.X2];rw[Pr.bind_assoc]
    congr 1;congr 1;funext u
    rw[Pr.bind_assoc];rfl
   obtain⟨y,hy⟩:∃y,y=VB.ZC 8 0 (3*(Xv b.cu:Int)+Xv b.cv-1):=⟨_,rfl⟩
   rw[<-hy]at a9 ll lw exC;have w9:(VB.sym 8 0 (3*(Xv b.cu:Int)+Xv b.cv-1)).sd.writes=VB.sd.writes:=St.YG _ _ _ _;obtain⟨_,k1,c1,⟨u,Ux,rfl,exu,R1⟩⟩:=(DL j9.co (s:=(y+1)/3) (i:=0) (v:=b.cu) (by omega) (by decide) (by omega) scu (λh=>by rw[w9]at h;have:=cw h;have:=lw h;omega)).elim;rw[Pr.Zj exu]at exC;have w10:=(YS exu).trans w9;obtain⟨_,k2,c2,⟨v,T1,rfl,exv,R2⟩⟩:=(DL R1.co (s:=(y+1)%3) (i:=1) (v:=b.cv) (by omega) (by decide) (by omega) scv (λh=>by rw[w10]at h;have:=cw h;have:=lw h;omega)).elim;rw[Pr.Zj exv]at exC;have rM:=R1.get pt zW bt9;have lU:=R1.get pz jD bz9;have rc9:g9.Zp t 10=some (.int .i64 b.cu):=by rw[ZZ bt9,JI];rfl
   have yq9:k1.Zp t 11=some (.int .i64 b.cv):=by rw[ZZ rM,JI];rfl
   have q0:IntKind.i64.wrap (3*(Xv b.cu:Int))=3*(Xv b.cu:Int):=ZS (by omega) (by omega);have q1:IntKind.i64.wrap (3*(Xv b.cu:Int)+Xv b.cv)=3*(Xv b.cu:Int)+Xv b.cv:=ZS (by omega) (by omega);have q2:IntKind.i64.wrap (3*(Xv b.cu:Int)+Xv b.cv-1)=3*(Xv b.cu:Int)+Xv b.cv-1:=ZS (by omega) (by omega);have q3:IntKind.i64.wrap ((y:Int)+1)=((y+1:Nat):Int):=by rw[ZS (by omega) (by omega)];omega
   have q4:IntKind.i64.wrap (((y+1:Nat):Int)/3)=((y+1)/3:Nat):=by rw[ZS (by omega) (by omega)];omega
   have q5:((y+1:Nat):Int).tmod 3=((y+1)%3:Nat):=by rw[Int.tmod_eq_emod_of_nonneg (by omega)];omega
   have pE:KW 120 [.ptr q 0,.int .i64 8,.int .i64 0,.int .i64 (3*(Xv b.cu:Int)+Xv b.cv-1)] g8=some (.ret (.int .i64 (y:Nat)),g9):=a9;obtain⟨y3,uu⟩:∃z,z=(y+1)/3:=⟨_,rfl⟩
   obtain⟨z3,aU⟩:∃z,z=(y+1)%3:=⟨_,rfl⟩
   rw[<-uu]at q4 c1;rw[<-aU]at q5 c2;have Hy:KW 160 [.ptr q 0,.int .i64 (y3:Nat),.int .i64 0,.int .i64 b.cu] g9=some (.ret (.int .i64 u),k1):=c1;have jB:KW 160 [.ptr q 0,.int .i64 (z3:Nat),.int .i64 1,.int .i64 b.cv] k1=some (.ret (.int .i64 v),k2):=c2;have aT:(r:Int)=13:=by omega
   simp[wc8.1,Tq,wc8.2.1,wc8.2.2,zS,q0,q1,q2,pE,q3,q4,q5,rc9,yq9,Hy,jB,XG,-Int.natCast_add];rw[Uy];exact⟨u,v,T1,⟨by simp,by simp,by simp,by simp,by simp⟩,exC,((j9.step R1).step R2).more (by omega) hm,R2.get pt zW rM,R2.get pz jD lU⟩
  .rw[if_neg (by omega)]at Ju
   have aT:¬(r:Int)=13:=by omega
   have c0:b.cu=0/\b.cv=0:=by
    cases WH:st.sd.writes with
    |false=>exact (hz WH).2.2
    |true =>
     have h4:=(wk WH).2.2.2.2;have:=(uw (by rw[w2];exact WH)).1;unfold S3 at h4;rw[if_neg (by omega)]at h4;exact h4
   have ex0:(Xd b).exec st=(some {b4 with cu:=0,cv:=0},VB):=by
    rw[Ju,JI]
    show (some _,VB)=_
    congr 2
    rw[c0.1,c0.2]
   simp[wc8.1,Tq,aT,XG];rw[Uy];exact⟨0,0,VB,⟨by simp,by simp,by simp,by simp,by simp⟩,ex0,j8.more (by omega) hm,bt8,bz8⟩
 intro e g pos;rw[Uy]at pos;obtain⟨u,v,Ux,⟨e7,e8,e0,e3,e4⟩,ex,j9,bt9,bz9⟩:=pos;clear Uy;obtain⟨k1,wu,Ia,rM,lU⟩:=wr (o:=10) (v:=.int .i64 u) (SP:={b4 with cu:=u}) j9 bt9 bz9 (by omega) rfl;obtain⟨k2,wv,j11,aS,aR⟩:=wr (o:=11) (v:=.int .i64 v) (SP:={b4 with cu:=u,cv:=v}) Ia rM lU (by omega) rfl;obtain⟨b5,QX⟩:∃z:Bk,z={b4 with cu:=u,cv:=v}:=⟨_,rfl⟩
 rw[<-QX]at aS ex;have rb:k2.Ze t 0 23=some b5.cs:=by rw[ZU aS (by simp)];rfl
 have wz:k2.X4 z 0 b5.cs=some (k2.put z (.cells b5.cs 42 false)):=by
  rw[ZF aR (by simp)];have:splice YC.cs 0 b5.cs=b5.cs:=by simp[splice]
  rw[this]
 have rz:(k2.put z (.cells b5.cs 42 false)).Ze z 0 23=some b5.cs:=by rw[ZU (ZV (H.ZW aR)) (by simp)];rfl
 simp[e0,e3,e4,e7,e8,wu,wv,rb,wz,rz];rw[hQ];exact⟨b5,Ux,rfl,ex,(j11.put pz npz jD _).done x2 a.pq a.lt⟩
end Go.Proofs.YtbkmdnmncaakdaaGreat
set_option linter.unusedVariables false
set_option linter.unusedSimpArgs false
set_option maxRecDepth 20000
namespace Go.Proofs.YtbkmdnmncaakdaaGreat
open Go Go.Zf
open Go.Zf (ZS)
theorem Ch:∀(j v v' out:Nat) (sd:YX),sd.writes=false->bits j v out sd=bits j v' out sd
 |0,_,_,_,_,_=>rfl
 |j+1,v,v',out,sd,h=>by
  have e:∀x y,sd.bit x=sd.bit y:=λx y=>by cases sd with
   |w=>cases h
   |r=>rfl
  unfold bits;rw[e (v/2^j%2) (v'/2^j%2)];exact Ch j v v' _ _ (by rw[YX.Wt];exact h)
variable{st:St}
theorem qw(h:st.sd.writes=false)(n v v':Nat):st.num n v=st.num n v'/\st.WG n v=st.WG n v':=by
 unfold St.num St.WG;rw[Ch n v v' 0 _ h];exact⟨rfl,rfl⟩
variable{P:Nat->Prop}{h:H}{c q m:Nat}{e:Int}
theorem Cr.wr(a:Cr P h c q m st e):h.Zp q 0=some (.ptr c 0)/\h.Zp q 1=some (.int .i64 e)/\KW 115 [.ptr c 0] h=some (.ret (.bool st.sd.writes),h):=by
 obtain⟨⟨D,C,hD⟩,k,_⟩:=a;exact⟨by rw[ZZ k];rfl,by rw[ZZ k];rfl,Tp C⟩
variable{x:Nat}{v:Int}
theorem wqO(a:Cr P h c q m st 0)(hx:x<2)(hb : -20000<=v/\v<=20000)(hm:m+13<100000000)(hw:st.sd.writes=true->v≠0/\v.natAbs<=16376):
  RT (λw h'=>Rx (Po x v) st iC P h c q (m+13) w h'/\∃r:Int,w=.int .i64 r/\-20000<=r/\r<=20000) (KW 173 [.ptr q 0,.int .i64 (x:Nat),.int .i64 v] h):=by
 have ab:=OR v;have mc:=Tn (X3 v-1) 0;obtain⟨M,hM⟩:∃M,M=uj v:=⟨_,rfl⟩
 have Mb:M<=20000/\imax (X3 v-1) 0=(M:Int):=by rw[hM];unfold uj;omega
 have a0:=λg=>DP (n:=v) (by omega) g;have z0:IntKind.i64.wrap (X3 v-1)=X3 v-1:=ZS (by omega) (by omega);have fb:0<=Yc (decide (v<0))/\Yc (decide (v<0))<=1:=by cases decide (v<0)<;>decide
 obtain⟨_,h2,a2,rfl,R2⟩:=(Ht a (n:=1) (v:=Yc (decide (v<0))) (by omega) (by decide) (λ_=>by show _/\_<((2:Nat):Int);omega)).elim;have bw:st.sd.writes=true->st.WG 1 (Yc (decide (v<0))).toNat=(Yc (decide (v<0))).toNat:=λh=>St.Fu h 1 _ (by show _<2;omega);obtain⟨below,KQ⟩:∃z,z=st.WG 1 (Yc (decide (v<0))).toNat:=⟨_,rfl⟩
 obtain⟨Xz,Tz⟩:∃z,z=st.num 1 (Yc (decide (v<0))).toNat:=⟨_,rfl⟩
 rw[<-KQ]at a2 bw;rw[<-Tz]at R2;have w2:Xz.sd.writes=st.sd.writes:=by rw[Tz];exact St.Je _ _ _
 have L0:M/8+1≠0:=by omega
 have lb:=Fv L0;have L11:Nat.log2 (M/8+1)<12:=(Nat.log2_lt L0).2 (by omega);have lg:=M0 L0 (by omega) h2;obtain⟨L,hL⟩:∃L,L=Nat.log2 (M/8+1):=⟨_,rfl⟩
 rw[<-hL]at lb L11 lg;obtain⟨rest,Ph⟩:∃z,z=M/8+1-2^L:=⟨_,rfl⟩
 have pL:=Nat.pow_succ 2 L;have En:st.sd.writes=true->M<=16375/\L<11/\M+1=v.natAbs:=λh=>by
  obtain⟨h1,h2⟩:=hw h;have e:M+1=v.natAbs:=by rw[hM];unfold uj;omega
  refine⟨by omega,?_,e⟩;rw[hL];exact (Nat.log2_lt L0).2 (by omega)
 have cw:Xz.sd.writes=true->0<=(L:Int)/\(L:Int)<(vl 18:Nat):=λh=>by
  have:=En (by rw[<-w2];exact h)
  show _/\_<((11:Nat):Int);omega
 obtain⟨_,h6,a6,rfl,R6⟩:=(Uh R2.co (k:=18) (x:=x) (v:=(L:Nat)) (by omega) (by decide) hx cw).elim;have kY:Xz.ZC 18 x (L:Nat)<11:=St.YF R2.co.ok.1 (k:=18) (by decide) hx cw;have AL:Xz.sd.writes=true->Xz.ZC 18 x (L:Nat)=L:=λh=>by rw[St.Yx h];omega
 obtain⟨cl,V3⟩:∃z,z=Xz.ZC 18 x (L:Nat):=⟨_,rfl⟩
 obtain⟨T1,D4⟩:∃z,z=Xz.sym 18 x (L:Nat):=⟨_,rfl⟩
 rw[<-V3]at a6 kY AL;rw[<-D4]at R6;have w6:T1.sd.writes=st.sd.writes:=by rw[D4,St.YG,w2]
 -- what is more
 obtain⟨rI,uN⟩:∃rI:Int,rI=if st.sd.writes then ((M/8+1:Nat):Int)-((2^cl:Nat):Int)else 0:=⟨_,rfl⟩
 have rwr:T1.sd.writes=true->rI=rest/\0<=rI/\rI<pw cl:=λh=>by
  have h':st.sd.writes=true:=by rw[<-w6];exact h
  have:=AL (by rw[w2];exact h');rw[uN,if_pos h',this,Ph];unfold pw;omega
 obtain⟨_,h7,a7,rfl,R7⟩:=(Ht R6.co (n:=cl) (v:=rI) (by omega) (by omega) λh=>(rwr h).2).elim;have vK:=St.Jf (v:=rest) R6.co.ok.2 (n:=cl) (by omega);have same:T1.num cl rI.toNat=T1.num cl rest/\T1.WG cl rI.toNat=T1.WG cl rest:=by
  cases WH:T1.sd.writes with
  |true=>rw[(rwr WH).1,Int.toNat_natCast];exact⟨rfl,rfl⟩
  |false=>exact qw WH _ _ _
 rw[same.1]at R7;rw[same.2]at a7;obtain⟨re,pU⟩:∃z,z=T1.WG cl rest:=⟨_,rfl⟩
 obtain⟨HW,F9⟩:∃z,z=T1.num cl rest:=⟨_,rfl⟩
 rw[<-pU]at a7 vK;rw[<-F9]at R7;obtain⟨_,h8,a8,rfl,R8⟩:=(Uh R7.co (k:=19) (x:=x) (v:=((M%8:Nat):Int)) (by omega) (by decide) hx (λ_=>by show _/\_<((8:Nat):Int);omega)).elim;have f_l:HW.ZC 19 x ((M%8:Nat):Int)<8:=St.YF R7.co.ok.1 (k:=19) (by decide) hx (λ_=>by show _/\_<((8:Nat):Int);omega);obtain⟨f,hf⟩:∃z,z=HW.ZC 19 x ((M%8:Nat):Int):=⟨_,rfl⟩
 rw[<-hf]at a8 f_l;have exP:(Po x v).exec st=(some (U7 below cl re f),HW.sym 19 x ((M%8:Nat):Int)):=by
  unfold Po U7;rw[<-hM,<-hL,<-Ph];rw[Pr.SE,<-KQ,<-Tz,Pr.X2,<-V3,<-D4,Pr.SE,Int.toNat_natCast,<-pU,<-F9,Pr.X2,<-hf,Pr.VI]
 have RF:Rr P h c q (m+13) (HW.sym 19 x ((M%8:Nat):Int)) 0 h8:=(((R2.trans R6).trans R7).trans R8).more (by omega) hm;have pcl:2^cl<=2^10:=Nat.pow_le_pow_right (by decide) (by omega);have kX:=Nat.two_pow_pos cl;have s2:ZQ 0 .shl (.int .i64 1) (.int .i64 (cl:Nat))=some (.int .i64 ((2^cl:Nat):Int)):=by have:=vL (k:=cl) (by omega) (a:=1) (by decide);rw[Nat.one_mul]at this;exact this
 obtain⟨Fy,Av⟩:∃z,z=2^cl:=⟨_,rfl⟩
 have RA:U7 below cl re f=if below=1 then -((8*(Fy+re-1)+f:Nat):Int)-1 else ((8*(Fy+re-1)+f:Nat):Int)+1:=by
  unfold U7;rw[<-Av,Nat.mul_comm]
 rw[<-Av]at s2 pcl kX vK uN;obtain⟨A,hA⟩:∃A,A=Fy+re-1:=⟨_,rfl⟩
 rw[<-hA]at RA;have Ab:A<=2046:=by omega
 obtain⟨M8,hM8⟩:∃z,z=M/8:=⟨_,rfl⟩
 obtain⟨Mr,hMr⟩:∃z,z=M%8:=⟨_,rfl⟩
 rw[<-hM8]at uN lg;rw[<-hMr]at a8;have zq:IntKind.i64.wrap ((M:Int).tdiv 8)=(M8:Nat):=by rw[Int.tdiv_eq_ediv_of_nonneg (by omega),ZS (by omega) (by omega)];omega
 have zq':IntKind.i64.wrap ((M:Int)/8)=(M8:Nat):=by rw[ZS (by omega) (by omega)];omega
 have zr:(M:Int).tmod 8=(Mr:Nat):=by rw[Int.tmod_eq_emod_of_nonneg (by omega)];omega
 have qM:IntKind.i64.wrap ((M8:Int)+1)=((M8+1:Nat):Int):=by rw[ZS (by omega) (by omega)];omega
 have zR:IntKind.i64.wrap (((M8+1:Nat):Int)-(Fy:Nat))=((M8+1:Nat):Int)-(Fy:Nat):=ZS (by omega) (by omega);have qO:IntKind.i64.wrap ((Fy:Int)+re)=((Fy+re:Nat):Int):=by rw[ZS (by omega) (by omega)];omega
 have qN:IntKind.i64.wrap (((Fy+re:Nat):Int)-1)=(A:Nat):=by rw[ZS (by omega) (by omega)];omega
 have zz3:IntKind.i64.wrap (8*(A:Int))=((8*A:Nat):Int):=by rw[ZS (by omega) (by omega)];omega
 obtain⟨T,hT⟩:∃z,z=8*A+f:=⟨_,rfl⟩
 rw[<-hT]at RA;have zz4:IntKind.i64.wrap (((8*A:Nat):Int)+f)=(T:Nat):=by rw[ZS (by omega) (by omega)];omega
 obtain⟨A8,hA8⟩:∃z,z=8*A:=⟨_,rfl⟩
 rw[<-hA8]at zz3 zz4;have zT1:IntKind.i64.wrap (-(T:Int))=-(T:Int):=ZS (by omega) (by omega);have zT2:IntKind.i64.wrap (-(T:Int)-1)=-(T:Int)-1:=ZS (by omega) (by omega);have zT3:IntKind.i64.wrap ((T:Int)+1)=(T:Int)+1:=ZS (by omega) (by omega);obtain⟨Q,hQ⟩:∃Q:V->H->Prop,Q=λw h'=>Rx (Po x v) st iC P h c q (m+13) w h'/\∃r:Int,w=.int .i64 r/\-20000<=r/\r<=20000:=⟨_,rfl⟩
 rw[<-hQ];have hq:∀r,r=U7 below cl re f->Q (.int .i64 r) h8:=λr e=>by
  rw[hQ];exact⟨⟨r,_,rfl,by rw[exP,e],RF⟩,r,rfl,by rw[e,RA];split<;>omega⟩
 rw[RA]at hq;obtain⟨WO,_,Gb⟩:=R6.co.wr;rw[w6]at Gb;have KB:KW 175 [.ptr q 0,.int .i64 1,.int .i64 (Yc (decide (v<0)))] h=some (.ret (.int .i64 (below:Nat)),h2):=a2;have AX:KW 120 [.ptr q 0,.int .i64 18,.int .i64 (x:Nat),.int .i64 (L:Nat)] h2=some (.ret (.int .i64 (cl:Nat)),h6):=a6;have wg:KW 120 [.ptr q 0,.int .i64 19,.int .i64 (x:Nat),.int .i64 (Mr:Nat)] h7=some (.ret (.int .i64 (f:Nat)),h8):=a8;rw[W3 yqe,BqD];clear hQ;by_cases be:below=1
 .rw[if_pos be]at hq
  cases WH:st.sd.writes with
  |true =>
   rw[WH]at Gb;rw[WH,if_pos rfl]at uN;rw[uN]at a7;simp[V2,KB,a0,z0,kC,Mb.2,zq,zq',qM,lg,AX,WO,Gb,s2,zR,a7,qO,qN,zz3,zr,wg,zz4,be,zT1,zT2,-PK,-Int.natCast_add];exact hq _ rfl
  |false =>
   rw[WH]at Gb;rw[WH,if_neg (by decide)]at uN;rw[uN]at a7;simp[V2,KB,a0,z0,kC,Mb.2,zq,zq',qM,lg,AX,WO,Gb,s2,zR,a7,qO,qN,zz3,zr,wg,zz4,be,zT1,zT2,-PK,-Int.natCast_add];exact hq _ rfl
 .rw[if_neg be]at hq
  have be':¬(below:Int)=1:=by omega
  cases WH:st.sd.writes with
  |true =>
   rw[WH]at Gb;rw[WH,if_pos rfl]at uN;rw[uN]at a7;simp[V2,KB,a0,z0,kC,Mb.2,zq,zq',qM,lg,AX,WO,Gb,s2,zR,a7,qO,qN,zz3,zr,wg,zz4,be,be',zT3,-PK,-Int.natCast_add];exact hq _ rfl
  |false =>
   rw[WH]at Gb;rw[WH,if_neg (by decide)]at uN;rw[uN]at a7;simp[V2,KB,a0,z0,kC,Mb.2,zq,zq',qM,lg,AX,WO,Gb,s2,zR,a7,qO,qN,zz3,zr,wg,zz4,be,be',zT3,-PK,-Int.natCast_add];exact hq _ rfl
end Go.Proofs.YtbkmdnmncaakdaaGreat
set_option linter.unusedVariables false
set_option linter.unusedSimpArgs false
set_option maxRecDepth 20000
namespace Go.Proofs.YtbkmdnmncaakdaaGreat
open Go Go.Zf
open Go.Zf (ZS)
def Rv{α:Type}(en:α->V)(R:Option α×St)(P:Nat->Prop)(h:H)(c q m:Nat)(w:V)(h':H):Prop :=
 match R with
 |(some r,YI)=>w=en r/\Rr P h c q m YI 0 h'
 |(none,YI)=>(∃r:α,w=en r)/\Rr P h c q m YI 4 h'
variable{P:Nat->Prop}{h:H}{c q m:Nat}{st:St}
theorem Cr.err(a:Cr P h c q m st 0):h.WO q 1 (.int .i64 4)=some (h.put q (.cells [.ptr c 0,.int .i64 4] 178 false))/\Rr P h c q m st 4 (h.put q (.cells [.ptr c 0,.int .i64 4] 178 false)):=by
 obtain⟨⟨D,C,hD⟩,k,pq,lt⟩:=a;refine⟨by rw[Zw k (by simp)];rfl,⟨⟨D,C.keep (by rw[H.ZJ];exact Nat.le_refl _) λb hb _=>ZX λe=>(hD b hb).2 (e▸pq),λb hb=>by rw[H.ZJ];exact hD b hb⟩,ZV (H.ZW k),pq,λb hb=>by rw[H.ZJ];exact lt b hb⟩,⟨by rw[H.ZJ];exact Nat.le_refl _,λb hb=>ZX hb.2⟩⟩
variable{P2:Nat->Prop}{h2 g g':H}{m':Nat}{YI:St}{e:Int}
theorem J.aC(a:J P P2 h2 c q m st g)(R:Rr P2 g c q m' YI e g')(x:Ext h h2)(pq:P q)(lt:∀b,P b->b<h.n):Rr P h c q m' YI e g' :=
 ⟨R.co.less pq a.hP,⟨by have:=x.n;have:=a.kp.n;have:=R.kp.n;omega,λb hb=>by rw[R.kp.get b ⟨a.hP b hb.1,hb.2⟩,a.kp.get b hb,x.get b (lt b hb.1)]⟩⟩
variable{t:Nat}
theorem Rr.rC(a:Rr P h c q m st e g)(a2:Cr P2 g c q m st e)(pt:P2 t)(np:¬P t)(nt:t≠q)(hP:∀b,P b->P2 b)(X:WI):Rr P h c q m st e (g.put t X) :=
 ⟨(a2.put pt nt X).less a.co.pq hP,⟨by rw[H.ZJ];exact a.kp.n,λb hb=>by rw[ZX (by rintro rfl;exact np hb.1),a.kp.get b hb]⟩⟩
variable{x:Nat}{v:Int}
theorem CJ(j:J P P2 h2 c q m st g)(on:Bool)(hx:x<2){u:Int}(hu : -5000<=u/\u<=5000)(hv : -5000<=v/\v<=5000)(hm:m+13<100000000)(hw:st.sd.writes=true->on=true->v≠u/\(v-u).natAbs<=16376):
  ∃(r:Int) (YI:St) (g':H),(T8 on x u v).exec st=(some r,YI)/\J P P2 h2 c q (m+13) YI g'/\Rr P2 g c q (m+13) YI 0 g'/\(on=true->∃d,KW 173 [.ptr q 0,.int .i64 (x:Nat),.int .i64 (v-u)] g=some (.ret (.int .i64 d),g')/\r=u+d/\IntKind.i64.wrap (u+d)=r)/\(on=false->g'=g/\r=u):=by
 cases on with
 |false=>exact⟨u,st,g,rfl,j.more (by omega) hm,(Rr.refl j.co).more (by omega) hm,(λh=>by cases h),λ_=>⟨rfl,rfl⟩⟩
 |true =>
  obtain⟨_,g',a1,⟨d,YI,rfl,ex,R⟩,d',hd,db⟩:=(wqO j.co hx (v:=v-u) (by omega) hm λh=>by have:=hw h rfl;omega).elim;cases hd;exact⟨u+d,YI,g',by unfold T8;rw[if_pos rfl,Pr.Zj ex];rfl,j.step R,R,λ_=>⟨d,a1,rfl,ZS (by omega) (by omega)⟩,λh=>by cases h⟩
theorem Lq(a:Cr P h c q m st 0){mode:Nat}(h4:mode<4){l:Vc×Vc}{v:Vc}(hl:Y5 l.1)(hv:(-5000<=v.1/\v.1<=5000)/\(-5000<=v.2/\v.2<=5000))(hm:m+27<100000000)(hw:st.sd.writes=true->mode=3->Y5 v):
  RT (λw h'=>Rv IY ((Y8 (mode:Nat) (Y2 (mode:Nat) l) v).exec st) P h c q (m+27) w h') (KW 161 [.ptr q 0,.int .i64 (mode:Nat),.agg [.int .i64 l.1.1,.int .i64 l.1.2,.int .i64 l.2.1,.int .i64 l.2.2],IY v] h):=by
 obtain⟨h1,ZL⟩:∃z,z=h.new (.cells [.int .i64 l.1.1,.int .i64 l.1.2,.int .i64 l.2.1,.int .i64 l.2.2] 40 false):=⟨_,rfl⟩
 obtain⟨h2,Zq⟩:∃z,z=h1.new (.cells [.int .i64 v.1,.int .i64 v.2] 39 false):=⟨_,rfl⟩
 obtain⟨h3,Zc⟩:∃z,z=h2.new (.cells [.int .i64 0,.int .i64 0] 39 false):=⟨_,rfl⟩
 have n1:h1.n=h.n+1:=by rw[ZL,H.ZP]
 have n2:h2.n=h1.n+1:=by rw[Zq,H.ZP]
 have n3:h3.n=h2.n+1:=by rw[Zc,H.ZP]
 have x3:Ext h h3:=by rw[Zc,Zq,ZL];exact (((Ext.refl h).new _).new _).new _
 have bl:h3.get h.n=some (.cells [.int .i64 l.1.1,.int .i64 l.1.2,.int .i64 l.2.1,.int .i64 l.2.2] 40 false):=by rw[Zc,ZR (by omega),Zq,ZR (by omega),ZL,ZY]
 have bv:h3.get h1.n=some (.cells [.int .i64 v.1,.int .i64 v.2] 39 false):=by rw[Zc,ZR (by omega),Zq,ZY]
 have bo:h3.get h2.n=some (.cells [.int .i64 0,.int .i64 0] 39 false):=by rw[Zc,ZY]
 obtain⟨P2,LA⟩:∃P2:Nat->Prop,P2=λx=>((P x\/x=h.n)\/x=h1.n)\/x=h2.n:=⟨_,rfl⟩
 have a3:Cr P2 h3 c q m st 0:=by rw[LA,Zc,Zq,ZL];exact ((a.box _).box _).box _
 have j3:J P P2 h3 c q m st h3:=⟨a3,Kp.refl _ _,λb hb=>by rw[LA];exact .inl (.inl (.inl hb))⟩
 have qn:=a.lt q a.pq;have tV:P2 h2.n/\¬P h2.n/\h2.n≠q/\P2 h.n/\P2 h1.n:=by
  rw[LA];exact⟨.inr rfl,λhp=>by have:=a.lt _ hp;omega,by omega,.inl (.inl (.inr rfl)),.inl (.inr rfl)⟩
 obtain⟨tV,np2,uK,p2l,p2v⟩:=tV;obtain⟨Q,hQ⟩:∃Q:V->H->Prop,Q=λw h'=>Rv IY ((Y8 (mode:Nat) (Y2 (mode:Nat) l) v).exec st) P h c q (m+27) w h':=⟨_,rfl⟩
 rw[<-hQ,W4 yq3,aB];have wo:∀{g:H} {x y a b:Int},g.get h2.n=some (.cells [.int .i64 x,.int .i64 y] 39 false)->g.X4 h2.n 0 [.int .i64 a,.int .i64 b]=some (g.put h2.n (.cells [.int .i64 a,.int .i64 b] 39 false))/\(g.put h2.n (.cells [.int .i64 a,.int .i64 b] 39 false)).Ze h2.n 0 2=some [.int .i64 a,.int .i64 b]:=λhb=>⟨by rw[ZF hb (by simp)];rfl,by rw[ZU (ZV (H.ZW hb)) (by simp)];rfl⟩
 by_cases m3:mode=3;rotate_left
 .have ex:(Y8 (mode:Nat) (Y2 (mode:Nat) l) v).exec st=(some (Y2 (mode:Nat) l),st):=by
   unfold Y8;rw[if_pos (by omega)];rfl
  have hq:∀X,Q (IY (Y2 (mode:Nat) l)) (h3.put h2.n X):=λX=>by
   rw[hQ]
   show Rv IY ((Y8 (mode:Nat) (Y2 (mode:Nat) l) v).exec st) P h c q (m+27) _ _
   rw[ex];exact⟨rfl,((j3.put tV np2 uK X).done x3 a.pq a.lt).more (by omega) hm⟩
  have l0:h3.Ze h.n 0 2=some [.int .i64 l.1.1,.int .i64 l.1.2]:=by rw[ZU bl (by simp)];rfl
  have l1:h3.Ze h.n 2 2=some [.int .i64 l.2.1,.int .i64 l.2.2]:=by rw[ZU bl (by simp)];rfl
  rcases (by omega:mode=0\/mode=1\/mode=2)with rfl|rfl|rfl
  .simp[bx,nw,<-ZL,<-Zq,<-Zc,l0,(wo bo).1,(wo bo).2]
   exact hq _
  .simp[bx,nw,<-ZL,<-Zq,<-Zc,l1,(wo bo).1,(wo bo).2]
   exact hq _
  .simp[bx,nw,<-ZL,<-Zq,<-Zc,(wo bo).1,(wo bo).2]
   exact hq _
 subst m3;have hl:=hl;unfold Y5 at hl;have rl0:h3.Zp h.n 0=some (.int .i64 l.1.1):=by rw[ZZ bl];rfl
 have rl1:h3.Zp h.n 1=some (.int .i64 l.1.2):=by rw[ZZ bl];rfl
 have rv0:h3.Zp h1.n 0=some (.int .i64 v.1):=by rw[ZZ bv];rfl
 have rv1:h3.Zp h1.n 1=some (.int .i64 v.2):=by rw[ZZ bv];rfl
 obtain⟨J0,Hv⟩:∃J0:Int,J0=(if v.1≠l.1.1 then 1 else 0)+(if v.2≠l.1.2 then 2 else 0):=⟨_,rfl⟩
 have Jb:0<=J0/\J0<(4:Nat):=by rw[Hv];split<;>split<;>omega
 obtain⟨_,Od,a4,rfl,R4⟩:=(Uh a3 (k:=17) (x:=0) (v:=J0) (by omega) (by decide) (by decide) λ_=>Jb).elim;have jl:st.ZC 17 0 J0<4:=St.YF a.ok.1 (k:=17) (by decide) (by decide) λ_=>Jb;have jw:st.sd.writes=true->((st.ZC 17 0 J0:Nat):Int)=J0:=λh=>by rw[St.Yx h];omega
 have ex:(Y8 3 (Y2 3 l) v).exec st=((T8 (decide (st.ZC 17 0 J0%2=1)) 0 l.1.1 v.1).bind λx=>(T8 (decide (2<=st.ZC 17 0 J0)) 1 l.1.2 v.2).bind λy=>if Y5 (x,y)then .done (x,y)else .stop).exec (st.sym 17 0 J0):=by rw[Hv];rfl
 obtain⟨j,hj⟩:∃j,j=st.ZC 17 0 J0:=⟨_,rfl⟩
 obtain⟨VB,wj⟩:∃z,z=st.sym 17 0 J0:=⟨_,rfl⟩
 rw[<-hj]at a4 jl jw ex;rw[<-wj]at R4 ex;have w4:VB.sd.writes=st.sd.writes:=by rw[wj];exact St.YG _ _ _ _
 have q4n:=R4.kp.n;have bl4:=R4.get p2l (by omega) bl;have bv4:=R4.get p2v (by omega) bv;have bo4:=R4.get tV uK bo
 -- the wh that is made
 obtain⟨h5,Vv⟩:∃z,z=(Od.new (.cells [.int .i64 0,.int .i64 0] 39 false)).put Od.n (.cells [.int .i64 l.1.1,.int .i64 l.1.2] 39 false):=⟨_,rfl⟩
 have x5:Ext Od h5:=by rw[Vv];exact ((Ext.refl Od).new _).put (Nat.le_refl _) _
 have n5:h5.n=Od.n+1:=by rw[Vv,H.ZJ,H.ZP]
 have b5:h5.get Od.n=some (.cells [.int .i64 l.1.1,.int .i64 l.1.2] 39 false):=by rw[Vv,ZV (by rw[H.ZP];omega)]
 have w5:(Od.new (.cells [.int .i64 0,.int .i64 0] 39 false)).X4 Od.n 0 [.int .i64 l.1.1,.int .i64 l.1.2]=some h5:=by rw[ZF ZY (by simp),Vv];rfl
 obtain⟨P3,lI⟩:∃P3:Nat->Prop,P3=λx=>P2 x\/x=Od.n:=⟨_,rfl⟩
 have a5:Cr P3 h5 c q (m+1) VB 0:=by rw[lI,Vv];exact (R4.co.box _).put (.inr rfl) (by omega) _
 have j5:J P P3 h3 c q (m+1) VB h5:=⟨a5,⟨by omega,λb hb=>by rw[x5.get b (by have:=a.lt b hb.1;omega),R4.kp.get b ⟨j3.hP b hb.1,hb.2⟩]⟩,λb hb=>by rw[lI];exact .inl (j3.hP b hb)⟩
 have p3:∀{b},P2 b->P3 b:=λhb=>by rw[lI];exact .inl hb
 have zV:P3 Od.n/\¬P Od.n/\Od.n≠q:=⟨by rw[lI];exact .inr rfl,λhp=>by have:=a.lt _ hp;omega,by omega⟩
 have bl5:=(x5.get _ (H.ZW bl4)).trans bl4;have bv5:=(x5.get _ (H.ZW bv4)).trans bv4;have bo5:=(x5.get _ (H.ZW bo4)).trans bo4;have vw:st.sd.writes=true->Y5 v:=λh=>hw h rfl;obtain⟨X,T1,h6,exX,j6,R6,on6,aA⟩:=CJ j5 (decide (j%2=1)) (x:=0) (by decide) (u:=l.1.1) (v:=v.1) (by omega) hv.1 (by omega) λh ho=>by
  rw[w4]at h;have h1:=vw h;have h2:=jw h;unfold Y5 at h1;simp only[decide_eq_true_eq]at ho;rw[Hv]at h2;by_cases e:v.1=l.1.1
  .rw[if_neg (by simpa using e)]at h2;split at h2<;>omega
  .exact⟨e,by omega⟩
 rw[Pr.Zj exX]at ex;have w6:=(YS exX).trans w4;obtain⟨h7,Hu⟩:∃z,z=if j%2=1 then h6.put Od.n (.cells [.int .i64 X,.int .i64 l.1.2] 39 false)else h6:=⟨_,rfl⟩
 have b6:=R6.get zV.1 zV.2.2 b5;have HW:J P P3 h3 c q (m+14) T1 h7/\h7.get Od.n=some (.cells [.int .i64 X,.int .i64 l.1.2] 39 false)/\∀{b X},P2 b->b≠q->h5.get b=some X->h7.get b=some X:=by
  rw[Hu];split
  .exact⟨j6.put zV.1 zV.2.1 zV.2.2 _,ZV (H.ZW b6),λ{b X} hb hq hg=>by rw[ZX (by rintro rfl;have:=a3.lt _ hb;omega)];exact R6.get (p3 hb) hq hg⟩
  .rename_i ho
   have:=(aA (by simpa using ho)).2;exact⟨j6,by rw[this];exact b6,λ{b X} hb hq hg=>R6.get (p3 hb) hq hg⟩
 obtain⟨j7,b7,k7⟩:=HW;have bl7:=k7 p2l (by omega) bl5;have bv7:=k7 p2v (by omega) bv5;have bo7:=k7 tV uK bo5;obtain⟨Y,ru,h8,exY,j8,R8,on8,az⟩:=CJ j7 (decide (2<=j)) (x:=1) (by decide) (u:=l.1.2) (v:=v.2) (by omega) hv.2 (by omega) λh ho=>by
  rw[w6]at h;have h1:=vw h;have h2:=jw h;unfold Y5 at h1;simp only[decide_eq_true_eq]at ho;rw[Hv]at h2;by_cases e:v.2=l.1.2
  .rw[if_neg (show ¬v.2≠l.1.2 by simpa using e)]at h2;split at h2<;>omega
  .exact⟨e,by omega⟩
 rw[Pr.Zj exY]at ex;obtain⟨h9,Ih⟩:∃z,z=if 2<=j then h8.put Od.n (.cells [.int .i64 X,.int .i64 Y] 39 false)else h8:=⟨_,rfl⟩
 have b8:=R8.get zV.1 zV.2.2 b7;have st9:J P P3 h3 c q (m+27) ru h9/\h9.get Od.n=some (.cells [.int .i64 X,.int .i64 Y] 39 false)/\h9.get h2.n=some (.cells [.int .i64 0,.int .i64 0] 39 false):=by
  rw[Ih];split
  .exact⟨j8.put zV.1 zV.2.1 zV.2.2 _,ZV (H.ZW b8),by rw[ZX (by omega)];exact R8.get (p3 tV) uK bo7⟩
  .rename_i ho
   have:=(az (by simpa using ho)).2;exact⟨j8,by rw[this];exact b8,R8.get (p3 tV) uK bo7⟩
 obtain⟨j9,b9,bo9⟩:=st9;have r4:Od.Ze h.n 0 2=some [.int .i64 l.1.1,.int .i64 l.1.2]:=by rw[ZU bl4 (by simp)];rfl
 have tS:KW 120 [.ptr q 0,.int .i64 17,.int .i64 0,.int .i64 J0] h3=some (.ret (.int .i64 (j:Nat)),Od):=a4;have f1:∀b:Bool,IntKind.i64.wrap (2*Yc b)=2*Yc b:=λb=>by cases b<;>rfl
 have f2:IntKind.i64.wrap (Yc (!decide (v.1=l.1.1))+2*Yc (!decide (v.2=l.1.2)))=J0:=by
  rw[Hv];by_cases e1:v.1=l.1.1<;>by_cases e2:v.2=l.1.2<;>simp[e1,e2,Yc]<;>rfl
 simp[bx,nw,<-ZL,<-Zq,<-Zc,rl0,rl1,rv0,rv1,V2,f1,f2,tS,r4,w5];have qr:(j:Int).tmod 2=((j%2:Nat):Int):=by rw[Int.tmod_eq_emod_of_nonneg (by omega)];omega
 have qd:IntKind.i64.wrap ((j:Int).tdiv 2)=((j/2:Nat):Int):=by rw[Int.tdiv_eq_ediv_of_nonneg (by omega),ZS (by omega) (by omega)];omega
 have qd':IntKind.i64.wrap ((j:Int)/2)=((j/2:Nat):Int):=by rw[ZS (by omega) (by omega)];omega
 have rdv:∀{g:H} {b:Nat} {cs:List V} {t:TypeId} {ro:Bool} {o:Nat} {x:V},g.get b=some (.cells cs t ro)->cs[o]?=some x->g.Zp b o=some x:=λhb hx=>by rw[ZZ hb,hx]
 refine Ym (C:=λo=>RT Q (Zf.fin Tryz.prog _ _ o)) (λe g=>g=h7/\e.s [0,1,2,3,6,7,8,9,10] 0=.ptr q 0/\e.s [0,1,2,3,6,7,8,9,10] 6=.ptr h.n 0/\e.s [0,1,2,3,6,7,8,9,10] 7=.ptr h1.n 0/\e.s [0,1,2,3,6,7,8,9,10] 8=.ptr h2.n 0/\e.s [0,1,2,3,6,7,8,9,10] 9=.int .i64 (j:Nat)/\e.s [0,1,2,3,6,7,8,9,10] 10=.ptr Od.n 0) ?_ ?_
 .by_cases jx:j%2=1
  .obtain⟨d,a6,hX,zX⟩:=on6 (by simpa using jx)
   rw[if_pos jx]at Hu;have z1:IntKind.i64.wrap (v.1-l.1.1)=v.1-l.1.1:=ZS (by omega) (by omega);have AX:KW 173 [.ptr q 0,.int .i64 0,.int .i64 (v.1-l.1.1)] h5=some (.ret (.int .i64 d),h6):=a6;have w6':h6.WO Od.n 0 (.int .i64 X)=some h7:=by rw[Zw b6 (by simp),Hu];rfl
   simp[qr,jx,rdv bv5 (o:=0) rfl,rdv bl5 (o:=0) rfl,z1,AX,rdv b6 (o:=0) rfl,rdv b5 (o:=0) rfl,zX,w6',XG]
  .rw[if_neg jx]at Hu
   have:=(aA (by simpa using jx)).1;simp[qr,jx,show ¬(j:Int)%2=1 by omega,XG,Hu,this]
 rintro e g ⟨rfl,e0,e6,e7,e8,e9,Yu⟩;refine Ym (C:=λo=>RT Q (Zf.fin Tryz.prog _ _ o)) (λe g=>g=h9/\e.s [0,1,2,3,6,7,8,9,10] 0=.ptr q 0/\e.s [0,1,2,3,6,7,8,9,10] 8=.ptr h2.n 0/\e.s [0,1,2,3,6,7,8,9,10] 10=.ptr Od.n 0) ?_ ?_
 .by_cases jy:2<=j
  .obtain⟨d,a8,hY,zY⟩:=on8 (by simpa using jy)
   rw[if_pos jy]at Ih;have j1:j/2=1:=by omega
   have z1:IntKind.i64.wrap (v.2-l.1.2)=v.2-l.1.2:=ZS (by omega) (by omega);have wg:KW 173 [.ptr q 0,.int .i64 1,.int .i64 (v.2-l.1.2)] g=some (.ret (.int .i64 d),h8):=a8;have w8':h8.WO Od.n 1 (.int .i64 Y)=some h9:=by rw[Zw b8 (by simp),Ih];rfl
   simp[e9,qd,qd',j1,e0,e6,e7,e8,Yu,rdv bv7 (o:=1) rfl,rdv bl7 (o:=1) rfl,z1,wg,rdv b8 (o:=1) rfl,rdv b7 (o:=1) rfl,zY,w8',XG,-Int.natCast_ediv]
  .rw[if_neg jy]at Ih
   have j1:¬j/2=1:=by omega
   have:=(az (by simpa using jy)).1;simp[e9,qd,qd',j1,show ¬((j/2:Nat):Int)=1 by omega,e0,e8,Yu,XG,Ih,this,-Int.natCast_ediv]
 rintro e g ⟨rfl,e0,e8,Yu⟩;obtain⟨_,IE,lH,rfl,Ha⟩:=(IZ (X,Y) g).elim;have Ia:=j9.ext Ha;obtain⟨_,q1,_⟩:=j9.co.wr;have r9:g.Ze Od.n 0 2=some [.int .i64 X,.int .i64 Y]:=by rw[ZU b9 (by simp)];rfl
 have ju:=(Ha.get _ (H.ZW b9)).trans b9;have lG:=(Ha.get _ (H.ZW bo9)).trans bo9;have r10:IE.Ze Od.n 0 2=some [.int .i64 X,.int .i64 Y]:=by rw[ZU ju (by simp)];rfl
 by_cases vb:Y5 (X,Y)
 .rw[if_pos vb]at ex
  have hq:Q (IY (X,Y)) (IE.put h2.n (.cells [.int .i64 X,.int .i64 Y] 39 false)):=by
   rw[hQ]
   show Rv IY ((Y8 3 (Y2 3 l) v).exec st) P h c q (m+27) _ _
   rw[ex];exact⟨rfl,(Ia.put (p3 tV) np2 uK _).done x3 a.pq a.lt⟩
  simp[e0,q1,Yu,r9,lH,vb,r10,e8,(wo lG).1,(wo lG).2];exact hq
 .rw[if_neg vb]at ex
  obtain⟨we,Re⟩:=Ia.co.err;have bx:=Re.get zV.1 zV.2.2 ju;have box:=Re.get (p3 tV) uK lG;have r11:(IE.put q (.cells [.ptr c 0,.int .i64 4] 178 false)).Ze Od.n 0 2=some [.int .i64 X,.int .i64 Y]:=by rw[ZU bx (by simp)];rfl
  have hq:Q (IY (X,Y)) ((IE.put q (.cells [.ptr c 0,.int .i64 4] 178 false)).put h2.n (.cells [.int .i64 X,.int .i64 Y] 39 false)):=by
   rw[hQ]
   show Rv IY ((Y8 3 (Y2 3 l) v).exec st) P h c q (m+27) _ _
   rw[ex];exact⟨⟨(X,Y),rfl⟩,(Ia.aC Re x3 a.pq a.lt).rC Re.co (p3 tV) np2 uK Ia.hP _⟩
  simp[e0,q1,Yu,r9,lH,vb,we,r11,e8,(wo box).1,(wo box).2];exact hq
end Go.Proofs.YtbkmdnmncaakdaaGreat
