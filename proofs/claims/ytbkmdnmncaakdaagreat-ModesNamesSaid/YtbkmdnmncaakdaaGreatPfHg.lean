import Derived.Test.YtbkmdnmncaakdaaGreatPfMrb
set_option linter.unusedVariables false
set_option linter.unusedSimpArgs false
set_option maxRecDepth 20000
namespace Go.Proofs.YtbkmdnmncaakdaaGreat
open Go Go.Zf
open Go.Zf (ZS)
def XA(x y:Int):Prop:=x.tmod 8=0/\y.tmod 8=0/\Vd x y
variable{D:Nat->Prop}{h:H}{g:Nat}{G:Gr}{x y:Int}
theorem Me(a:Zl D h g G){f:V}(hx:Vw x)(hy:Vw y)(c:¬XA x y):
  KW 89 [.ptr g 0,.int .i64 x,.int .i64 y,f] h=some (.ret (.Zt [.int .i64 0,.int .i64 2]),h):=by
 have OU:=UN a;have PX:=Te a hx hy;rw[W4 r89,s89];by_cases t1:x.tmod 8=0
 .by_cases t2:y.tmod 8=0
  .have c3:¬Vd x y:=λh=>c ⟨t1,t2,h⟩
   simp[OU,PX,t1,t2,c3]
  .simp[OU,t1,t2]
 .simp[OU,t1]
theorem B4(a:Zl D h g G)(hx:Vw x)(hy:Vw y)(c:¬XA x y):
  KW 46 [.ptr g 0,.int .i64 x,.int .i64 y] h=some (.ret (.Zt [.int .i64 0,.int .i64 2]),h):=by
 have e:=Me a (f:=.fn (.func 90) [] []) hx hy c;rw[W3 r46,fq];simp[e]
theorem Fi(a:Zl D h g G)(hx:Vw x)(hy:Vw y)(c:¬XA x y):
  KW 47 [.ptr g 0,.int .i64 x,.int .i64 y] h=some (.ret (.Zt [.int .i64 0,.int .i64 2]),h):=by
 have e:=Me a (f:=.fn (.func 91) [] []) hx hy c;rw[W3 r47,s47];simp[e]
def ME(x y s:Int):Prop:=(s=64\/s=32\/s=16)/\x.tmod s=0/\y.tmod s=0/\Vd x y
instance(x y s:Int):Decidable (ME x y s):=inferInstanceAs (Decidable (_/\_))
def MF(G:Gr)(x y s:Int):Nat:=KU (λb=>decide (b.w<s)) (G.at x (y-1))+2*KU (λb=>decide (b.h<s)) (G.at (x-1) y)
theorem Jc(G:Gr)(x y s:Int):MF G x y s<4:=by
 have h1:=QG (λb=>decide (b.w<s)) (G.at x (y-1));have h2:=QG (λb=>decide (b.h<s)) (G.at (x-1) y);unfold MF;omega
abbrev fc:List Nat:=[0,1,2,3,8,9,10,11,12,13,14]
structure E41(g0:H)(g:Nat)(x y s:Int)(n:Nat)(e:E)(h:H):Prop where
 xx:Ext g0 h
 e0:e.s fc 0=.ptr g 0
 e1:e.s fc 1=.int .i64 x
 e2:e.s fc 2=.int .i64 y
 e3:e.s fc 3=.int .i64 s
 Yu:e.s fc 10=.int .i64 (n:Nat)
variable{s:Int}
theorem zC(a:Zl D h g G)(hx:Vw x)(hy:Vw y):
  RT (λw h'=>w=.Zt (if ME x y s then [.int .i64 (MF G x y s:Nat),.int .i64 0]else [.int .i64 0,.int .i64 2])/\Ext h h') (KW 41 [.ptr g 0,.int .i64 x,.int .i64 y,.int .i64 s] h):=by
 have OU:=UN a;have PX:=Te a hx hy;rw[W4 r41,s41];by_cases hs:s=64\/s=32\/s=16
 .have nz:s≠0:=by omega
  by_cases c:x.tmod s=0/\y.tmod s=0/\Vd x y
  .obtain⟨t1,t2,c3⟩:=c
   rw[if_pos ⟨hs,t1,t2,c3⟩];have cx:=c3;unfold Vd at cx;have z1:IntKind.i64.wrap (x-1)=x-1:=ZS (by omega) (by omega);have z2:IntKind.i64.wrap (y-1)=y-1:=ZS (by omega) (by omega);obtain⟨Q,hQ⟩:∃Q:V->H->Prop,Q=λw h'=>w=.Zt [.int .i64 (MF G x y s:Nat),.int .i64 0]/\Ext h h':=⟨_,rfl⟩
   rw[<-hQ];obtain⟨n1,Uo⟩:∃n,n=KU (λb=>decide (b.w<s)) (G.at x (y-1)):=⟨_,rfl⟩
   obtain⟨n2,U0⟩:∃n,n=KU (λb=>decide (b.h<s)) (G.at (x-1) y):=⟨_,rfl⟩
   have l1:n1<=1:=by rw[Uo];exact QG _ _
   have hN:MF G x y s=n1+2*n2:=by rw[Uo,U0];rfl
   rw[hN]at hQ;have fi:∀e h',E41 h g x y s (n1+2*n2) e h'->Q (.Zt [.int .i64 ((n1+2*n2:Nat):Int),.int .i64 0]) h':=λe h' he=>by rw[hQ];exact⟨rfl,he.xx⟩
   obtain⟨P1,Hn⟩:∃P:Nat->E->H->Prop,∀n e h',P n e h'↔E41 h g x y s n e h':=⟨_,λ_ _ _=>Iff.rfl⟩
   rcases hs with rfl|rfl|rfl <;>
   .simp[OU,PX,t1,t2,c3]
    refine Ym (C:=λo=>RT Q (Zf.fin Tryz.prog _ _ o)) (P1 n1) ?_ ?_
    .obtain⟨_,h1,a1,rfl,x1⟩:=(MT a (x:=x) (y:=y-1) hx (by omega)).elim
     cases ho:G.at x (y-1)with
     |none =>
      rw[ho]at a1 Uo;have hn:n1=0:=Uo;subst hn;simp[z2,a1,RD,nw,XG];exact (Hn _ _ _).2 ⟨x1.new _,by simp,by simp,by simp,by simp,by simp⟩
     |some b =>
      rw[ho]at a1 Uo;obtain⟨h2,Zq⟩:∃z,z=h1.new (.cells b.cs 42 false):=⟨_,rfl⟩
      have zw:(h1.new (.cells YC.cs 42 false)).X4 h1.n 0 b.cs=some h2:=by rw[Zq];exact YO _ _ _ _ (by simp)
      have rb:∀o,h2.Zp h1.n o=b.cs[o]?:=λo=>ZZ (by rw[Zq,ZY]);have x2:Ext h h2:=by rw[Zq];exact x1.new _
      simp only[KU,decide_eq_true_eq]at Uo;split at Uo
      .rename_i hb
       subst Uo;simp[z2,a1,RD,nw,zw,rb,hb,XG,show IntKind.i64.wrap 1=1 from rfl];exact (Hn _ _ _).2 ⟨x2,by simp,by simp,by simp,by simp,by simp⟩
      .rename_i hb
       subst Uo;simp[z2,a1,RD,nw,zw,rb,hb,XG];exact (Hn _ _ _).2 ⟨x2,by simp,by simp,by simp,by simp,by simp⟩
    rintro e h1 FG;obtain⟨x1,e0,e1,e2,e3,Yu⟩:=(Hn _ _ _).1 FG;refine Ym (C:=λo=>RT Q (Zf.fin Tryz.prog _ _ o)) (P1 (n1+2*n2)) ?_ ?_
    .obtain⟨_,h2,a2,rfl,x2⟩:=(MT (a.ext x1) (x:=x-1) (y:=y) (by omega) hy).elim
     cases ho:G.at (x-1) y with
     |none =>
      rw[ho]at a2 U0;have hn:n2=0:=U0;subst hn;simp[e0,e1,e2,e3,z1,a2,RD,nw,XG];exact (Hn _ _ _).2 ⟨(x1.trans x2).new _,by simp[e0],by simp[e1],by simp[e2],by simp[e3],by simp[Yu]⟩
     |some b =>
      rw[ho]at a2 U0;obtain⟨h3,Zc⟩:∃z,z=h2.new (.cells b.cs 42 false):=⟨_,rfl⟩
      have zw:(h2.new (.cells YC.cs 42 false)).X4 h2.n 0 b.cs=some h3:=by rw[Zc];exact YO _ _ _ _ (by simp)
      have rb:∀o,h3.Zp h2.n o=b.cs[o]?:=λo=>ZZ (by rw[Zc,ZY]);have x3:Ext h h3:=by rw[Zc];exact (x1.trans x2).new _
      simp only[KU,decide_eq_true_eq]at U0;split at U0
      .rename_i hb
       subst U0;have z3:IntKind.i64.wrap ((n1:Int)+2)=((n1+2*1:Nat):Int):=by rw[ZS (by omega) (by omega)];omega
       simp[e0,e1,e2,e3,z1,a2,RD,nw,zw,rb,hb,XG,Yu,z3,-Int.natCast_add];exact (Hn _ _ _).2 ⟨x3,by simp[e0],by simp[e1],by simp[e2],by simp[e3],by simp⟩
      .rename_i hb
       subst U0;simp[e0,e1,e2,e3,z1,a2,RD,nw,zw,rb,hb,XG];exact (Hn _ _ _).2 ⟨x3,by simp[e0],by simp[e1],by simp[e2],by simp[e3],by simp[Yu]⟩
    rintro e h2 Fk;have he:=(Hn _ _ _).1 Fk;have q:=fi e h2 he;simp[he.Yu,-Int.natCast_add];exact q
  .rw[if_neg λp=>c p.2]
   by_cases t1:x.tmod s=0
   .by_cases t2:y.tmod s=0
    .have c3:¬Vd x y:=λh=>c ⟨t1,t2,h⟩
     rcases hs with rfl|rfl|rfl<;>(simp[OU,PX,t1,t2,c3];exact⟨rfl,Ext.refl _⟩)
    .rcases hs with rfl|rfl|rfl<;>(simp[OU,t1,t2];exact⟨rfl,Ext.refl _⟩)
   .rcases hs with rfl|rfl|rfl<;>(simp[OU,t1];exact⟨rfl,Ext.refl _⟩)
 .rw[if_neg λp=>hs p.1]
  have c1:s≠64:=by omega
  have c2:s≠32:=by omega
  have c3:s≠16:=by omega
  simp[OU,c1,c2,c3];exact⟨rfl,Ext.refl _⟩
end Go.Proofs.YtbkmdnmncaakdaaGreat
set_option linter.unusedVariables false
set_option linter.unusedSimpArgs false
set_option maxRecDepth 20000
namespace Go.Proofs.YtbkmdnmncaakdaaGreat
open Go Go.Zf
open Go.Zf (ZS)
structure Kd(D:Nat->Prop)(h0:H)(c m:Nat)(st:St)(h:H):Prop where
 co:Zy (grow D h0 h) h c m st
 md:Mod D h0 h
variable{D:Nat->Prop}{h0 h h':H}{c m:Nat}{st:St}
theorem Kd.ext(a:Kd D h0 c m st h)(x:Ext h h'):Kd D h0 c m st h' :=
 ⟨(
  a.co.keep x.n λb _ hb=>x.get b hb).mono λb hb hd=>by
  have:=x.n;rcases hd with hd|hd
  .exact .inl hd
  .exact .inr ⟨hd.1,hb⟩,a.md.tr (Mod.of x)⟩
variable{m':Nat}
theorem Kd.step{YI:St}(a:Kd D h0 c m st h)(co:Zy (grow (grow D h0 h) h h') h' c m' YI)(md:Mod (grow D h0 h) h h'):Kd D h0 c m' YI h' :=
 ⟨co.mono λb hb hd=>by
  have:=a.md.n;rcases hd with (hd|hd)|hd
  .exact .inl hd
  .exact .inr ⟨hd.1,by have:=md.n;omega⟩
  .exact .inr ⟨by omega,hd.2⟩,a.md.trans md⟩
theorem Kd.of(a:Zy D h c m st):Kd D h c m st h:=⟨a.mono λb _ hd=>.inl hd,Mod.refl _ _⟩
theorem Kd.more(a:Kd D h0 c m st h)(hm:m<=m')(M5:m'<100000000):Kd D h0 c m' st h:=⟨a.co.more hm M5,a.md⟩
variable{Dg:Nat->Prop}{g:Nat}{G:Gr}
theorem Kd.iN(a:Kd D h0 c m st h)(ga:Zl Dg h0 g G)(KV:∀b,Dg b->¬D b):Zl Dg h g G :=
 ga.keep a.md.n λb hb=>a.md.get b (ga.hD b hb) (KV b hb)
theorem Kd.KV(hg:∀b,Dg b->b<h0.n)(KV:∀b,Dg b->¬D b):∀b,Dg b->¬grow D h0 h b:=by
 rintro b hb (hd|hd)
 .exact KV b hb hd
 .have:=hg b hb;omega
def MX(s:Int):Nat:=if s=16 then 1 else 0
def Fq(G:Gr)(x y s:Int):Nat:=MF G x y s+if s=32 then 4 else 0
theorem Fp(s:Int):MX s<32/\vl (MX s)=(if s=16 then 8 else 10):=by
 unfold MX;split<;>exact⟨by decide,rfl⟩
theorem Fo(G:Gr)(x y s:Int):Fq G x y s<cx (MX s):=by
 have:=Jc G x y s;unfold Fq MX;by_cases h:s=16
 .rw[if_pos h,if_neg (by omega)];show _<4;omega
 .rw[if_neg h];show _<8;split<;>omega
def V1(wr:Bool)(x y s kind:Int):Prop:=ME x y s/\(wr=true->0<=kind/\kind<vl (MX s))
def iM(D:Nat->Prop)(h:H)(c m:Nat)(st:St)(G:Gr)(x y s kind:Int)(w:V)(h':H):Prop :=
 (V1 st.sd.writes x y s kind->w=.Zt [.int .i64 (st.ZC (MX s) (Fq G x y s) kind:Nat),.int .i64 0]/\Kd D h c (m+1) (st.sym (MX s) (Fq G x y s) kind) h') /\
 (¬V1 st.sd.writes x y s kind->w=.Zt [.int .i64 0,.int .i64 2]/\Kd D h c m st h')
variable{x y s:Int}
theorem Km(C:Zy D h c m st)(hD:∀b,D b->b<h.n)(ga:Zl Dg h g G)(KV:∀b,Dg b->¬D b){kind:Int}(hx:Vw x)(hy:Vw y)(hm:m+1<100000000):
  RT (λw h'=>iM D h c m st G x y s kind w h') (KW 11 [.ptr c 0,.ptr g 0,.agg [.int .i64 x,.int .i64 y,.int .i64 s,.int .i64 s],.int .i64 kind] h):=by
 obtain⟨h1,ZL⟩:∃z,z=h.new (.cells [.int .i64 x,.int .i64 y,.int .i64 s,.int .i64 s] 36 false):=⟨_,rfl⟩
 have x1:Ext h h1:=by rw[ZL];exact (Ext.refl h).new _
 have n1:h1.n=h.n+1:=by rw[ZL,H.ZP]
 have g1:h1.get h.n=some (.cells [.int .i64 x,.int .i64 y,.int .i64 s,.int .i64 s] 36 false):=by rw[ZL,ZY]
 have K1:=(Kd.of C).ext x1;have nd:¬D h.n:=λhd=>by have:=hD _ hd;omega
 obtain⟨_,h2,a2,rfl,C2,M2⟩:=(QH (C.keep x1.n λb _ hb=>x1.get b hb) (by omega) (ga.ext x1) KV).elim;have K2:Kd D h c m st h2:=⟨C2.mono λb hb hd=>by
  rcases hd with hd|hd
  .exact .inl hd
  .exact .inr ⟨by omega,hb⟩,(Mod.of x1).tr M2⟩
 have M2n:=M2.n;have g2:h2.get h.n=_:=(M2.get _ (by omega) nd).trans g1;have ga2:=K2.iN ga KV;have r0:=ZZ (o:=0) g2;have r1:=ZZ (o:=1) g2;have r2:=ZZ (o:=2) g2;obtain⟨_,h3,a3,rfl,x3⟩:=(zC ga2 (s:=s) hx hy).elim;have g3:h3.get h.n=_:=(x3.get _ (by have:=M2.n;omega)).trans g2;have HL:=ZZ (o:=2) g3;have Fl:=ZZ (o:=3) g3;have K3:=K2.ext x3;obtain⟨Q,hQ⟩:∃Q:V->H->Prop,Q=λw h'=>iM D h c m st G x y s kind w h':=⟨_,rfl⟩
 rw[<-hQ];rw[W4 r11,s11];by_cases p:ME x y s
 .rw[if_pos p]at a3
  obtain⟨n,hn⟩:∃n,n=MF G x y s:=⟨_,rfl⟩
  have n4:n<4:=by rw[hn];exact Jc _ _ _ _
  have Av:Fq G x y s=n+if s=32 then 4 else 0:=by rw[hn];rfl
  rw[<-hn]at a3;have Ja:=Ug K3.co;have pk:=Fp s;have pc:=Fo G x y s;have z4:IntKind.i64.wrap ((n:Int)+4)=((n+4:Nat):Int):=by rw[ZS (by omega) (by omega)];omega
  have zm:IntKind.i64.wrap 9=9/\IntKind.i64.wrap 7=7:=⟨rfl,rfl⟩
  -- the last call
  have last:∀(pm:V1 st.sd.writes x y s kind),∃v h',KW 44 [.ptr c 0,.int .i64 (MX s:Nat),.int .i64 (Fq G x y s:Nat),.int .i64 kind] h3=some (.ret (.Zt [v,.int .i64 0]),h')/\Q (.Zt [v,.int .i64 0]) h':=λpm=>by
   obtain⟨w,h',e,rfl,co,md⟩:=(N1 K3.co hm pk.1 pc pm.2).elim;exact⟨_,h',e,by rw[hQ];exact⟨λ_=>⟨rfl,K3.step co md⟩,λnp=>(np pm).elim⟩⟩
  have bad:¬V1 st.sd.writes x y s kind->Q (.Zt [.int .i64 0,.int .i64 2]) h3:=λnp=>by
   rw[hQ];exact⟨λpm=>(np pm).elim,λ_=>⟨rfl,K3⟩⟩
  rw[Av]at last;unfold V1 at last bad;rw[pk.2]at last bad;cases hw:st.sd.writes with
  |false =>
   rw[hw]at last Ja;obtain⟨v,h4,a4,q⟩:=last ⟨p,λh=>by cases h⟩;rcases p.1 with rfl|rfl|rfl<;>simp[MX,-Int.natCast_add]at a4<;>simp[bx,<-ZL,a2,r0,r1,r2,a3,HL,Fl,z4,Ja,a4,-Int.natCast_add]<;>exact q
  |true =>
   rw[hw]at last bad Ja;have ew:=λm=>Zk kind 0 m h3;by_cases k:0<=kind/\kind<if s=16 then 8 else 10
   .obtain⟨v,h4,a4,q⟩:=last ⟨p,λ_=>⟨k.1,by have:=k.2;split at this<;>split<;>omega⟩⟩
    rcases p.1 with rfl|rfl|rfl
    .simp at k
     have k':¬(kind<0\/9<kind):=by omega
     simp[MX,-Int.natCast_add]at a4;simp[bx,<-ZL,a2,r0,r1,r2,a3,HL,Fl,z4,zm,ew,k',Ja,a4,-Int.natCast_add];exact q
    .simp at k
     have k':¬(kind<0\/9<kind):=by omega
     simp[MX,-Int.natCast_add]at a4;simp[bx,<-ZL,a2,r0,r1,r2,a3,HL,Fl,z4,zm,ew,k',Ja,a4,-Int.natCast_add];exact q
    .simp at k
     have k':¬(kind<0\/7<kind):=by omega
     simp[MX,-Int.natCast_add]at a4;simp[bx,<-ZL,a2,r0,r1,r2,a3,HL,Fl,z4,zm,ew,k',Ja,a4,-Int.natCast_add];exact q
   .have q:=bad λh=>k ⟨(h.2 rfl).1,by have:=(h.2 rfl).2;split at this<;>split<;>omega⟩
    rcases p.1 with rfl|rfl|rfl
    .simp at k
     have k':kind<0\/9<kind:=by omega
     simp[bx,<-ZL,a2,r0,r1,r2,a3,HL,Fl,z4,zm,ew,k',Ja,-Int.natCast_add];exact q
    .simp at k
     have k':kind<0\/9<kind:=by omega
     simp[bx,<-ZL,a2,r0,r1,r2,a3,HL,Fl,z4,zm,ew,k',Ja,-Int.natCast_add];exact q
    .simp at k
     have k':kind<0\/7<kind:=by omega
     simp[bx,<-ZL,a2,r0,r1,r2,a3,HL,Fl,z4,zm,ew,k',Ja,-Int.natCast_add];exact q
 .rw[if_neg p]at a3
  simp[bx,<-ZL,a2,r0,r1,r2,a3];rw[hQ];exact⟨λpm=>(p pm.1).elim,λ_=>⟨rfl,K3⟩⟩
end Go.Proofs.YtbkmdnmncaakdaaGreat
set_option linter.unusedVariables false
set_option linter.unusedSimpArgs false
set_option maxRecDepth 20000
namespace Go.Proofs.YtbkmdnmncaakdaaGreat
open Go Go.Zf
open Go.Zf (ZS)
variable{x y:Int}
theorem DK(c:XA x y):kz x y:=by
 obtain⟨t1,t2,i⟩:=c;unfold Vd at i;rw[Int.tmod_eq_emod_of_nonneg i.1]at t1;rw[Int.tmod_eq_emod_of_nonneg i.2.2.1]at t2;exact⟨by omega,by omega,t1,by omega,by omega,t2⟩
variable{D:Nat->Prop}{h:H}{g:Nat}{G:Gr}
theorem Fj(a:Zl D h g G)(hx:Vw x)(hy:Vw y):
  RT (λw h'=>(∃n e,w=.Zt [.int .i64 n,.int .i64 e]/\(XA x y->e=0)/\(¬XA x y->e=2))/\Ext h h') (KW 46 [.ptr g 0,.int .i64 x,.int .i64 y] h):=by
 by_cases c:XA x y
 .refine (OL a (DK c)).mono λw h' ⟨e,x⟩=>⟨?_,x⟩
  rw[if_pos c.2.2]at e;exact⟨_,_,e,λ_=>rfl,λnc=>(nc c).elim⟩
 .rw[B4 a hx hy c]
  exact⟨⟨_,_,rfl,λp=>(c p).elim,λ_=>rfl⟩,Ext.refl _⟩
theorem Hm(a:Zl D h g G)(hx:Vw x)(hy:Vw y):
  RT (λw h'=>(∃n e,w=.Zt [.int .i64 n,.int .i64 e]/\(XA x y->e=0)/\(¬XA x y->e=2))/\Ext h h') (KW 47 [.ptr g 0,.int .i64 x,.int .i64 y] h):=by
 by_cases c:XA x y
 .refine (Mx a (DK c)).mono λw h' ⟨e,x⟩=>⟨?_,x⟩
  rw[if_pos c.2.2]at e;exact⟨_,_,e,λ_=>rfl,λnc=>(nc c).elim⟩
 .rw[Fi a hx hy c]
  exact⟨⟨_,_,rfl,λp=>(c p).elim,λ_=>rfl⟩,Ext.refl _⟩
variable{c m:Nat}{st:St}{Dg:Nat->Prop}{b:Bk}{key ll:Bool}
theorem B3(C:Zy D h c m st)(hD:∀b,D b->b<h.n)(ga:Zl Dg h g G)(KV:∀b,Dg b->¬D b)(hx:Vw b.x)(hy:Vw b.y)(hm:m<100000000)
  (no:¬(PV G b/\(st.sd.writes=true->WE key ll b/\Yl (Zz G b) b))) :
  RT (λw h'=>w=.Zt [YC.v,.int .i64 2]/\Kd D h c m st h') (KW 13 [.ptr c 0,.ptr g 0,b.v,.bool key,.bool ll] h):=by
 obtain⟨h1,ZL⟩:∃z,z=h.new (.cells b.cs 42 false):=⟨_,rfl⟩
 obtain⟨h2,Zq⟩:∃z,z=h1.new (.cells YC.cs 42 false):=⟨_,rfl⟩
 have n1:h1.n=h.n+1:=by rw[ZL,H.ZP]
 have n2:h2.n=h1.n+1:=by rw[Zq,H.ZP]
 have x2:Ext h h2:=by rw[Zq,ZL];exact ((Ext.refl h).new _).new _
 have t2:h2.get h.n=some (.cells b.cs 42 false):=by rw[Zq,ZR (by omega),ZL,ZY]
 have z2:h2.get h1.n=some (.cells YC.cs 42 false):=by rw[Zq,ZY]
 have oh:¬D h.n/\¬D h1.n:=⟨λhd=>by have:=hD _ hd;omega,λhd=>by have:=hD _ hd;omega⟩
 have C2:Zy D h2 c m st:=C.keep x2.n λb _ hb=>x2.get b hb;obtain⟨_,h3,a3,rfl,C3,M3⟩:=(QH C2 hm (ga.ext x2) KV).elim;have M3n:=M3.n;have t3:h3.get h.n=_:=(M3.get _ (by omega) oh.1).trans t2;have z3:h3.get h1.n=_:=(M3.get _ (by omega) oh.2).trans z2;have tv:Zl Dg h3 g G:=(ga.ext x2).keep M3.n λb hb=>M3.get b ((ga.ext x2).hD b hb) (KV b hb);have RC:∀o,h3.Zp h.n o=b.cs[o]?:=λo=>ZZ t3;obtain⟨_,h4,a4,⟨v4,e4,rfl,p4,q4⟩,x4⟩:=(Fj tv hx hy).elim;have t4:h4.get h.n=_:=(x4.get _ (H.ZW t3)).trans t3;have SB:∀o,h4.Zp h.n o=b.cs[o]?:=λo=>ZZ t4;obtain⟨_,h5,a5,⟨v5,e5,rfl,p5,q5⟩,x5⟩:=(Hm (tv.ext x4) hx hy).elim;have t5:h5.get h.n=_:=(x5.get _ (H.ZW t4)).trans t4;have zo:h5.Ze h.n 0 23=some b.cs:=by rw[ZU t5 (by simp)];rfl
 obtain⟨_,h6,a6,rfl,x6⟩:=(SA b h5).elim;have B2:=(x4.trans x5).trans x6;have C6:Zy (grow D h2 h3) h6 c m st:=C3.keep B2.n λb _ hb=>B2.get b hb;have t6:h6.get h.n=_:=(x6.get _ (H.ZW t5)).trans t5;have z6:h6.get h1.n=_:=(B2.get _ (H.ZW z3)).trans z3;have hJ:h6.Ze h.n 0 23=some b.cs:=by rw[ZU t6 (by simp)];rfl
 have WqQ:=B2.n
 -- the end
 have done:∀{hE:H},Ext h6 hE->hE.X4 h1.n 0 YC.cs=some (hE.put h1.n (.cells YC.cs 42 false))/\(hE.put h1.n (.cells YC.cs 42 false)).Ze h1.n 0 23=some YC.cs/\Kd D h c m st (hE.put h1.n (.cells YC.cs 42 false)):=λ{hE} xE=>by
  have zE:hE.get h1.n=_:=(xE.get _ (H.ZW z6)).trans z6;have xEn:=xE.n;refine⟨by rw[ZF zE (by simp)];rfl,by rw[ZU (ZV (H.ZW zE)) (by simp)];rfl,⟨?_,⟨by rw[H.ZJ];omega,λx hxh Ap=>?_⟩⟩⟩
  .refine ((C6.keep xE.n λb _ hb=>xE.get b hb).keep (by rw[H.ZJ];exact Nat.le_refl _) λx hx DJ=>ZX (by
    rintro rfl;rcases hx with hd|hd
    .exact oh.2 hd
    .omega)).mono λx hx hd=>?_
   rw[H.ZJ]at hx;rcases hd with hd|hd
   .exact .inl hd
   .exact .inr ⟨by omega,by rw[H.ZJ];exact hx⟩
  .rw[ZX (by omega),xE.get x (by omega),B2.get x (by omega),M3.get x (by omega) Ap,x2.get x hxh]
 rw[W5 uH,qt];by_cases sh:YR b
 .by_cases cc:XA b.x b.y
  .have ig:PV G b:=⟨sh,cc.2.2⟩
   have hw:st.sd.writes=true:=by
    cases WH:st.sd.writes with
    |true=>rfl
    |false=>exact (no ⟨ig,λh=>by rw[WH]at h;cases h⟩).elim
   have qs:=Ug C6;rw[hw]at qs;have ga6:=tv.ext B2;obtain⟨_,h7,a7,rfl,x7⟩:=(Mw b key ll h6).elim;have t7:h7.get h.n=_:=(x7.get _ (H.ZW t6)).trans t6;have rb7:h7.Ze h.n 0 23=some b.cs:=by rw[ZU t7 (by simp)];rfl
   have e0:=p4 cc;have e1:=p5 cc;subst e0 e1;by_cases mb:WE key ll b
   .have nag:¬Yl (Zz G b) b:=λag=>no ⟨ig,λ_=>⟨mb,ag⟩⟩
    rw[if_pos mb]at a7;obtain⟨_,h8,a8,rfl,x8⟩:=(NW (ga6.ext x7) ig (λhi=>by have:=mb.2.2.2;rw[hi]at this;exact this)).elim;simp only[nag,decide_false]at a8;obtain⟨w8,r8,k8⟩:=done (x7.trans x8);simp[bx,nw,<-ZL,<-Zq,a3,RC,a4,SB,a5,zo,a6,sh,qs,hJ,a7,rb7,a8,w8,r8];exact⟨rfl,k8⟩
   .rw[if_neg mb]at a7
    obtain⟨w8,r8,k8⟩:=done x7;simp[bx,nw,<-ZL,<-Zq,a3,RC,a4,SB,a5,zo,a6,sh,qs,hJ,a7,w8,r8];exact⟨rfl,k8⟩
  .have e0:=q4 cc
   subst e0;obtain⟨w8,r8,k8⟩:=done (Ext.refl _);simp[bx,nw,<-ZL,<-Zq,a3,RC,a4,SB,a5,zo,a6,sh,w8,r8];exact⟨rfl,k8⟩
 .obtain⟨w8,r8,k8⟩:=done (Ext.refl _)
  simp[bx,nw,<-ZL,<-Zq,a3,RC,a4,SB,a5,zo,a6,sh,w8,r8];exact⟨rfl,k8⟩
end Go.Proofs.YtbkmdnmncaakdaaGreat
set_option linter.unusedVariables false
set_option linter.unusedSimpArgs false
set_option maxRecDepth 20000
namespace Go.Proofs.YtbkmdnmncaakdaaGreat
open Go Go.Zf
open Go.Zf (ZS)
open Pr (Rd)
structure PW(D0 F:Nat->Prop)(hS:H)(c g m:Nat)(st:St)(G:Gr)(h:H):Prop where
 md:Mod D0 hS h
 ex:∃Dc Dg,Zy Dc h c m st/\Zl Dg h g G/\(∀b,Dc b->b<h.n/\grow D0 hS h b)/\(∀b,Dg b->grow D0 hS h b)/\(∀b,Dg b->¬Dc b)/\(∀b,F b->b<h.n/\hS.n<=b/\¬Dc b/\¬Dg b)
variable{D0:Nat->Prop}{hS h h':H}
theorem Rz(hn:h.n<=h'.n){b:Nat}(a:grow D0 hS h b):grow D0 hS h' b:=a.imp id λx=>⟨x.1,by omega⟩
variable{F F':Nat->Prop}{c g m:Nat}{st:St}{G:Gr}
theorem PW.keep(a:PW D0 F hS c g m st G h)(hn:h.n<=h'.n)(hk:∀b,b<h.n->¬F b->h'.get b=h.get b)(hF:∀b,F' b->F b\/(h.n<=b/\b<h'.n)):PW D0 F' hS c g m st G h':=by
 obtain⟨md,Dc,Dg,C,ga,d1,d2,d3,d4⟩:=a;have mn:=md.n;exact⟨⟨by omega,λb hb hd=>by rw[hk b (by omega) λf=>by have:=d4 b f;omega,md.get b hb hd]⟩,Dc,Dg,C.keep hn λb hb Yv=>hk b Yv λf=>(d4 b f).2.2.1 hb,ga.keep hn λb hb=>hk b (ga.hD b hb) λf=>(d4 b f).2.2.2 hb,
  λb hb=>⟨by have:=d1 b hb;omega,Rz hn (d1 b hb).2⟩,λb hb=>Rz hn (d2 b hb),d3,λb hb=>by
   rcases hF b hb with hb|hb
   .have:=d4 b hb;exact⟨by omega,this.2⟩
   .exact⟨hb.2,by omega,λhd=>by have:=d1 b hd;omega,λhd=>by have:=ga.hD b hd;omega⟩⟩
theorem PW.ext(a:PW D0 F hS c g m st G h)(x:Ext h h'):PW D0 F hS c g m st G h':=a.keep x.n (λb hb _=>x.get b hb) λb hb=>.inl hb
theorem PW.new(a:PW D0 F hS c g m st G h)(x:WI):PW D0 (λb=>F b\/b=h.n) hS c g m st G (h.new x) :=
 a.keep (by rw[H.ZP];omega) (λb hb _=>ZR hb) λb hb=>hb.imp id λe=>⟨by omega,by rw[H.ZP];omega⟩
theorem PW.sub(a:PW D0 F hS c g m st G h)(hF:∀b,F' b->F b):PW D0 F' hS c g m st G h:=a.keep (Nat.le_refl _) (λ_ _ _=>rfl) λb hb=>.inl (hF b hb)
theorem PW.nb(a:PW D0 F hS c g m st G h):0<=st.n/\st.n<=100*m/\Yw st.S:=by
 obtain⟨md,Dc,Dg,C,_⟩:=a;exact⟨by have:=C.ok.2.2;omega,by have:=C.ok.2.2;omega,C.ok.1⟩
variable{Dg:Nat->Prop}
theorem PW.qu{Dc:Nat->Prop}(md:Mod D0 hS h)(C:∀b,Dc b->b<h.n/\grow D0 hS h b)(ga:Zl Dg h g G)(d2:∀b,Dg b->grow D0 hS h b)(d3:∀b,Dg b->¬Dc b)(d4:∀b,F b->b<h.n/\hS.n<=b/\¬Dc b/\¬Dg b)
  {h':H} {m':Nat} {YI:St} (K:Kd Dc h c m' YI h'):PW D0 F hS c g m' YI G h'/\∀b,F b->h'.get b=h.get b:=by
 have hn:=K.md.n;refine⟨⟨⟨by have:=md.n;omega,λb hb hd=>by
  have:=md.n;rw[K.md.get b (by omega) (λhc=>by rcases (C b hc).2 with h1|h1;exact hd h1;omega),md.get b hb hd]⟩,grow Dc h h',Dg,K.co,K.iN ga d3,?_,λb hb=>Rz hn (d2 b hb),Kd.KV ga.hD d3,?_⟩,λb hb=>K.md.get b (d4 b hb).1 (d4 b hb).2.2.1⟩
 .rintro b (hb|hb)
  .have:=C b hb;exact⟨by omega,Rz hn this.2⟩
  .exact⟨hb.2,.inr ⟨by have:=md.n;omega,hb.2⟩⟩
 .intro b hb
  have:=d4 b hb;refine⟨by omega,this.2.1,?_,this.2.2.2⟩;rintro (hd|hd)
  .exact this.2.2.1 hd
  .omega
variable{b:Bk}
theorem PW.put(a:PW D0 F hS c g m st G h)(sh:YR b)(hv:Y5 b.m0/\Y5 b.m1)(hn:G.bs.length<100000):
  RT (λw h'=>w=.int .i64 (VH G b).2/\PW D0 F hS c g m st (VH G b).1 h'/\∀b,F b->h'.get b=h.get b) (KW 15 [.ptr g 0,b.v] h):=by
 obtain⟨md,Dc,Dg,C,ga,d1,d2,d3,d4⟩:=a;refine (Ki ga sh hv hn).mono λw h' ⟨e,g',M⟩=>⟨e,⟨?_,Dc,grow Dg h h',?_,g',?_,?_,?_,?_⟩,λb hb=>M.get b (d4 b hb).1 (d4 b hb).2.2.2⟩
 all_goals have mn:=M.n
 all_goals have mm:=md.n
 .exact⟨by omega,λb hb hd=>by rw[M.get b (by omega) (λhg=>by rcases d2 b hg with h1|h1;exact hd h1;omega),md.get b hb hd]⟩
 .exact C.keep M.n λb hb Yv=>M.get b Yv λhg=>d3 b hg hb
 .exact λb hb=>⟨by have:=d1 b hb;omega,Rz M.n (d1 b hb).2⟩
 .rintro b (hb|hb)
  .exact Rz M.n (d2 b hb)
  .exact .inr ⟨by omega,hb.2⟩
 .rintro b (hb|hb) hc
  .exact d3 b hb hc
  .have:=d1 b hc;omega
 .intro b hb
  have:=d4 b hb;refine⟨by omega,this.2.1,this.2.2.1,?_⟩;rintro (hd|hd)
  .exact this.2.2.2 hd
  .omega
variable{x y s:Int}
theorem PW.part(a:PW D0 F hS c g m st G h){kind:Int}(hx:Vw x)(hy:Vw y)(hm:m+1<100000000):
  RT (λw h'=>((V1 st.sd.writes x y s kind/\w=.Zt [.int .i64 (st.ZC (MX s) (Fq G x y s) kind:Nat),.int .i64 0]/\PW D0 F hS c g (m+1) (st.sym (MX s) (Fq G x y s) kind) G h') \/
   (¬V1 st.sd.writes x y s kind/\w=.Zt [.int .i64 0,.int .i64 2]/\PW D0 F hS c g m st G h'))/\∀b,F b->h'.get b=h.get b) (KW 11 [.ptr c 0,.ptr g 0,.agg [.int .i64 x,.int .i64 y,.int .i64 s,.int .i64 s],.int .i64 kind] h):=by
 obtain⟨md,Dc,Dg,C,ga,d1,d2,d3,d4⟩:=a;refine (Km C (λb hb=>(d1 b hb).1) ga d3 (s:=s) (kind:=kind) hx hy hm).mono λw h' ⟨p1,p2⟩=>?_;by_cases p:V1 st.sd.writes x y s kind
 .obtain⟨e,K⟩:=p1 p
  obtain⟨k1,k2⟩:=PW.qu md d1 ga d2 d3 d4 K;exact⟨.inl ⟨p,e,k1⟩,k2⟩
 .obtain⟨e,K⟩:=p2 p
  obtain⟨k1,k2⟩:=PW.qu md d1 ga d2 d3 d4 K;exact⟨.inr ⟨p,e,k1⟩,k2⟩
structure Dq where
 b:Bk
 part:Bool
 side:Int
 kind:Int
def Dq.cs(d:Dq):List V:=d.b.cs++[.bool d.part,.int .i64 d.side,.int .i64 d.kind]
def dqZ:Dq:=⟨YC,false,0,0⟩
@[simp] theorem Bqz(d:Dq):d.cs.length=26:=id rfl
@[simp] theorem xqF(d:Dq):d.cs[0]?=some (.int .i64 d.b.x):=id rfl
@[simp] theorem xqE(d:Dq):d.cs[1]?=some (.int .i64 d.b.y):=id rfl
@[simp] theorem xqD(d:Dq):d.cs[2]?=some (.int .i64 d.b.w):=id rfl
@[simp] theorem xqC(d:Dq):d.cs[3]?=some (.int .i64 d.b.h):=id rfl
@[simp] theorem yqd(d:Dq):d.cs[23]?=some (.bool d.part):=id rfl
@[simp] theorem yqc(d:Dq):d.cs[24]?=some (.int .i64 d.side):=id rfl
@[simp] theorem yqb(d:Dq):d.cs[25]?=some (.int .i64 d.kind):=id rfl
@[simp] theorem xqB(d:Dq)(h:0<d.cs.length):d.cs[0]'h=.int .i64 d.b.x:=id rfl
@[simp] theorem xqA(d:Dq)(h:1<d.cs.length):d.cs[1]'h=.int .i64 d.b.y:=id rfl
@[simp] theorem xqz(d:Dq)(h:2<d.cs.length):d.cs[2]'h=.int .i64 d.b.w:=id rfl
@[simp] theorem xqy(d:Dq)(h:3<d.cs.length):d.cs[3]'h=.int .i64 d.b.h:=id rfl
@[simp] theorem yqa(d:Dq)(h:23<d.cs.length):d.cs[23]'h=.bool d.part:=id rfl
@[simp] theorem xq9(d:Dq)(h:24<d.cs.length):d.cs[24]'h=.int .i64 d.side:=id rfl
@[simp] theorem xq8(d:Dq)(h:25<d.cs.length):d.cs[25]'h=.int .i64 d.kind:=id rfl
@[simp] theorem xq7(d:Dq):(d.cs.drop 0).take 23=d.b.cs:=id rfl
@[simp] theorem xq6(d:Dq):(d.cs.drop 0).take 26=d.cs:=id rfl
theorem zdq:([.int .i64 0,.int .i64 0,.int .i64 0,.int .i64 0,.bool false,.bool false,.int .i64 0,.int .i64 0,.int .i64 0,.int .i64 0,.int .i64 0,.int .i64 0,.int .i64 0,.bool false,.int .i64 0,.int .i64 0,.int .i64 0,.int .i64 0,.int .i64 0,.int .i64 0,.int .i64 0,.int .i64 0,.bool false,.bool false,.int .i64 0,.int .i64 0]:List V)=dqZ.cs:=rfl
attribute [simp] zdq
@[simp] theorem xq5(a b:Dq):YD a.cs [(some (0,26),.agg b.cs)]=some b.cs:=id rfl
variable{key ll:Bool}
theorem ot(mb:WE key ll b):Y5 b.m0/\Y5 b.m1:=by
 obtain⟨_,_,_,iD⟩:=mb;cases Rf:b.inter with
 |true =>
  rw[Rf,if_pos rfl]at iD;refine⟨iD.2.2.2.1,?_⟩;have:=iD.2.2.2.2.2;unfold X9 at this;cases I2:b.comp with
  |true=>rw[I2,if_pos rfl]at this;exact this.2.1
  |false=>rw[I2,if_neg (by decide)]at this;rw[this.2];decide
 |false =>
  rw[Rf,if_neg (by decide)]at iD;obtain⟨⟨_,_,_,_,_,z6,z7,_⟩,_⟩:=iD;rw[z6,z7];exact⟨by decide,by decide⟩
theorem tA(G:Gr)(b:Bk):(VH G b).1.bs.length<=G.bs.length+1:=by
 unfold VH;split
 .split
  .simp only[List.length_append,List.length_singleton];omega
  .exact Nat.le_succ _
 .exact Nat.le_succ _
def Ho(key ll:Bool)(G:Gr)(d:Dq)(l:List Op)(G':Gr):Prop :=
 if d.part then ME d.b.x d.b.y d.side/\(∃k:Nat,d.kind=(k:Nat)/\k<vl (MX d.side)/\l=[.sym (MX d.side) (Fq G d.b.x d.b.y d.side) k])/\G'=G
 else PV G d.b/\WE key ll d.b/\Rd (oq false key ll G d.b) (some d.b) l/\G'=(VH G d.b).1
def KN(key ll:Bool):Gr->List Dq->List Op->Gr->Prop
 |G,[],l,G'=>l=[]/\G'=G
 |G,d::ds,l,G'=>∃l1 l2 G1,Ho key ll G d l1 G1/\KN key ll G1 ds l2 G'/\l=l1++l2
variable{d:Dq}{G':Gr}
theorem KN.snoc{l':List Op}{G'':Gr}(s:Ho key ll G' d l' G''):∀{ds:List Dq} {G:Gr} {l:List Op},KN key ll G ds l G'->KN key ll G (ds++[d]) (l++l') G''
 |[],G,l,⟨e1,e2⟩=>by subst e1 e2;exact⟨l',[],G'',s,⟨rfl,rfl⟩,by simp⟩
 |x::xs,G,l,⟨l1,l2,G1,s1,w,e⟩=>by subst e;exact⟨l1,l2++l',G1,s1,KN.snoc s w,by simp⟩
theorem Ho.ok{l:List Op}(s:Ho key ll G d l G'):∀o∈l,o.ok:=by
 unfold Ho at s;split at s
 .obtain⟨_,⟨k,_,hk,rfl⟩,_⟩:=s
  intro o ho;rcases List.mem_singleton.1 ho with rfl;exact⟨(Fp _).1,Fo _ _ _ _,hk⟩
 .exact s.2.2.1.ok
theorem KN.ok:∀{ds:List Dq} {G:Gr} {l:List Op},KN key ll G ds l G'->∀o∈l,o.ok
 |[],G,l,⟨e1,_⟩=>by subst e1;intro o ho;cases ho
 |x::xs,G,l,⟨l1,l2,G1,s1,w,e⟩=>by
  subst e;intro o ho;rcases List.mem_append.1 ho with ho|ho
  .exact s1.ok o ho
  .exact KN.ok w o ho
end Go.Proofs.YtbkmdnmncaakdaaGreat
set_option linter.unusedVariables false
set_option linter.unusedSimpArgs false
set_option maxRecDepth 20000
namespace Go.Proofs.YtbkmdnmncaakdaaGreat
open Go Go.Zf
open Go.Zf (ZS)
open Pr (Rd)
abbrev slF(v:V):Nat->Prop:=λb=>∃o n k,v=.sl b o n k
variable{D0 F:Nat->Prop}{hS h:H}{c g m:Nat}{st:St}{G:Gr}{dv:V}{dn:List Dq}
theorem PW.push(a:PW D0 F hS c g m st G h)(gv:Zv hS.n h dv 44 26 (dn.flatMap Dq.cs) dn.length)(hF:∀b,slF dv b->F b)(d:Dq)(hn:dn.length<1000):
  ∃v' h',Vk 44 26 200 (h.new (.cells d.cs 44 false)) dv (.sl h.n 0 1 (.ex 1))=some (v',h')/\PW D0 (slF v') hS c g m st G h'/\Zv hS.n h' v' 44 26 ((dn++[d]).flatMap Dq.cs) (dn++[d]).length:=by
 have hm:=a.md.n;obtain⟨v',h',e,gv',rG,k4,k5⟩:=Vq (bytes:=200) (gv.ext ((Ext.refl h).new (.cells d.cs 44 false))) (by rw[H.ZP];omega) (y:=.sl h.n 0 1 (.ex 1)) (m:=1) (new:=d.cs) rfl (Ic ZY rfl) rfl (by omega);rw[H.ZP]at rG;refine⟨v',h',e,(a.sub hF).keep (by omega) (λb hb hf=>?_) λb hb=>?_,by simpa [List.flatMap_append]using gv'⟩
 .rw[k4 b (by rw[H.ZP];omega) λo n k e=>hf ⟨o,n,k,e⟩,ZR hb]
 .rcases k5 with ⟨rfl,_⟩|k5
  .exact .inl hb
  .obtain⟨o,n,k,e⟩:=hb
   have:=k5 b o n k e;rw[H.ZP]at this;exact .inr ⟨by omega,gv'.under b o n k e⟩
structure MD(h:H)(v:V)(L:List Dq):Prop where
 len:Kc v=some (.int .i64 (L.length:Nat))
 at_:∀(i:Nat) (d:Dq),L[i]?=some d->∃b o,PY 26 v (.int .i64 (i:Nat))=some (.ptr b o)/\h.Ze b o 26=some d.cs
abbrev K3:List Nat:=[0,1,2,6,7,8,9,10,11,12,13,14,15,16,17,18,19,20,21,23,24,25,26,27,28,29]
structure BqA(key ll:Bool)(i:Nat)(st:St)(s:Sr)(G:Gr)(dn:List Dq):Prop where
 sd:st.sd=wS s
 ok:SOk s
 run:∃l,st=(rX QC true).run l/\KN key ll Nk dn l G
 gl:G.bs.length<=i
 dl:dn.length<=i
def Wt0(D0:Nat->Prop)(hS:H)(key ll:Bool)(w g i:Nat)(dv:V)(h:H):Prop :=
 ∃st s G dn,PW D0 (slF dv) hS w g (72*i) st G h/\BqA key ll i st s G dn/\Zv hS.n h dv 44 26 (dn.flatMap Dq.cs) dn.length
structure I0(D0:Nat->Prop)(hS:H)(lv:V)(key ll:Bool)(w g hg:Nat)(i:Nat)(e:E)(h:H):Prop where
 st:Wt0 D0 hS key ll w g i (e.s K3 13) h
 e0:e.s K3 0=lv
 e1:e.s K3 1=.bool key
 e2:e.s K3 2=.bool ll
 e7:e.s K3 7=.ptr w 0
 e9:e.s K3 9=.ptr g 0
 Vn:e.s K3 11=.ptr hg 0
 T9:e.s K3 14=.int .i64 (i:Nat)
end Go.Proofs.YtbkmdnmncaakdaaGreat
set_option linter.unusedVariables false
set_option linter.unusedSimpArgs false
set_option maxRecDepth 20000
namespace Go.Proofs.YtbkmdnmncaakdaaGreat
open Go Go.Zf
open Go.Zf (ZS)
open Pr (Rd)
theorem SX:∀(bs:List Dq),(bs.flatMap Dq.cs).length=bs.length*26/\∀(n:Nat) (b:Dq),bs[n]?=some b->((bs.flatMap Dq.cs).drop (n*26)).take 26=b.cs
 |[]=>⟨rfl,λn b h=>by simp at h⟩
 |x::bs=>by
  obtain⟨i1,i2⟩:=SX bs;refine⟨by rw[List.flatMap_cons,List.length_append,i1,Bqz,List.length_cons];omega,λn b h=>?_⟩;rw[List.flatMap_cons];cases n with
  |zero=>simp at h;subst h;rw[Nat.zero_mul,List.drop_zero,List.take_left' (Bqz x)]
  |succ n =>
   have e:(n+1)*26=26+n*26:=by omega
   rw[e,<-List.drop_drop,List.drop_left' (Bqz x)];exact i2 n b (by simpa using h)
variable{h:H}{dv:V}{dn:List Dq}
theorem BqT{p:Nat}(gv:Zv p h dv 44 26 (dn.flatMap Dq.cs) dn.length):MD h dv dn:=by
 refine⟨gv.len,λi d hd=>?_⟩;have hi:i<dn.length:=by
  rcases Nat.lt_or_ge i dn.length with h|h
  .exact h
  .rw[List.getElem?_eq_none h]at hd;cases hd
 rcases gv with ⟨rfl,h0,_⟩|⟨c,rfl,h2,h3,_⟩
 .omega
 .refine⟨c,i*26,by simp[hi],?_⟩
  rw[ZU h2 (by rw[(SX dn).1];omega),(SX dn).2 _ _ hd]
def R0(D0:Nat->Prop)(hS:H)(key ll:Bool)(r hg:Nat)(T:Sr)(nE:Int)(dn:List Dq)(i:Nat)(h:H):Prop :=
 ∃st s G d1 d2 l2 Wqa,dn=d1++d2/\d1.length=i/\PW D0 (λ_=>False) hS r hg (72*i) (fA (bytes T.1 T.2.1) s st) G h/\st.sd=wS s/\SOk s/\KN key ll G d2 l2 Wqa/\(st.run l2).sd=wS T/\G.bs.length<=i/\(st.run l2).n=nE
structure I1(D0:Nat->Prop)(hS:H)(dv:V)(key ll:Bool)(w r hg:Nat)(T:Sr)(nE:Int)(dn:List Dq)(i:Nat)(e:E)(h:H):Prop where
 st:R0 D0 hS key ll r hg T nE dn i h
 e1:e.s K3 1=.bool key
 e2:e.s K3 2=.bool ll
 e7:e.s K3 7=.ptr w 0
 Vn:e.s K3 11=.ptr hg 0
 TS:e.s K3 13=dv
 e23:e.s K3 23=.ptr r 0
 e24:e.s K3 24=.int .i64 (i:Nat)
end Go.Proofs.YtbkmdnmncaakdaaGreat
set_option linter.unusedVariables false
set_option linter.unusedSimpArgs false
set_option maxRecDepth 20000
namespace Go.Proofs.YtbkmdnmncaakdaaGreat
open Go Go.Zf
open Go.Zf (ZS)
open Go.ChangeShapes Go.WideShapes
variable{h h':H}
theorem zB{b o n:Nat}{l:List V}(hr:h.Ze b o n=some l)(hk:b<h.n->h'.get b=h.get b):h'.Ze b o n=some l:=by
 cases hg:h.get b with
 |none=>unfold H.Ze at hr;rw[hg]at hr;cases hr
 |some x=>unfold H.Ze at hr ⊢;rw[hk (H.ZW hg)];exact hr
theorem MD.ext{v:V}{L:List Dq}(a:MD h v L)(hk:∀b,b<h.n->h'.get b=h.get b):MD h' v L :=
 ⟨a.len,λi d hd=>by
  obtain⟨b,o,h1,h2⟩:=a.at_ i d hd;exact⟨b,o,h1,zB h2 (hk b)⟩⟩
theorem c3:Tryz.prog.cellsOf 3=1:=by kernel_rfl
theorem c4:Tryz.prog.cellsOf 4=1:=by kernel_rfl
instance:Inhabited Dq:=⟨dqZ⟩
section
variable{Hd:Type}
end
end Go.Proofs.YtbkmdnmncaakdaaGreat
