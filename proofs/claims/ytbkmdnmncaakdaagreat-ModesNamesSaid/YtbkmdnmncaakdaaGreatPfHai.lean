import Derived.Test.YtbkmdnmncaakdaaGreatPfHah
set_option linter.unusedVariables false
set_option linter.unusedSimpArgs false
set_option maxRecDepth 20000
namespace Go.Proofs.YtbkmdnmncaakdaaGreat
open Go Go.Zf
open Go.Zf (ZS)
variable{y:V}{h:H}
theorem Ln(hn:KW 58 [y] h=some (.ret (.bool true),h)):KW 46 [y,.int .i64 0,.int .i64 0] h=some (.ret (.Zt [.int .i64 0,.int .i64 1]),h):=by
 have e:KW 89 [y,.int .i64 0,.int .i64 0,.fn (.func 90) [] []] h=some (.ret (.Zt [.int .i64 0,.int .i64 1]),h):=by
  rw[W4 r89,s89];simp[hn]
 rw[W3 r46,fq];simp[e]
theorem PJ(y:V)(h:H):KW 40 [.Zh,y] h=some (.ret (.int .i64 1),h):=by
 have e1:KW 45 [.Zh] h=some (.ret (.bool true),h):=by rw[W1 r45,s45];simp
 have e2:KW 84 [.Zh,.int .i64 0,.int .i64 0] h=some (.ret (.Zt [.int .i64 0,.int .i64 1]),h):=by rw[W3 r84,s84];simp[e1]
 rw[W2 r40,s40];simp[e2]
variable{D:Nat->Prop}{c m:Nat}{st:St}
theorem Oe(C:Zy D h c m st)(hm:m<100000000)(hn:∀g,Mod D h g->KW 58 [y] g=some (.ret (.bool true),g)):
  RT (λw h'=>w=.int .i64 1/\Zy (grow D h h') h' c m st/\Mod D h h') (KW 40 [.ptr c 0,y] h):=by
 obtain⟨_,h1,a1,rfl,C1,M1⟩:=(JG C (n:=0) (v:=0) (by decide) (by omega) (λ_=>by decide)).elim;rw[Int.toNat_zero,St.zG]at C1;have BA:KW 84 [.ptr c 0,.int .i64 0,.int .i64 0] h=some (.ret (.Zt [.int .i64 (st.WG 0 0:Nat),.int .i64 0]),h1):=a1;rw[W2 r40,s40];simp[BA,Ln (hn h1 M1)];exact⟨rfl,C1,M1⟩
theorem HQ(y:V)(b:Bk)(h:H):RT (λw h'=>w=.Zt [YC.v,.int .i64 1]/\Ext h h') (KW 13 [.Zh,y,b.v,.bool false,.bool false] h):=by
 obtain⟨h1,ZL⟩:∃z,z=h.new (.cells b.cs 42 false):=⟨_,rfl⟩
 obtain⟨h2,Zq⟩:∃z,z=h1.new (.cells YC.cs 42 false):=⟨_,rfl⟩
 have x2:Ext h h2:=by rw[Zq,ZL];exact ((Ext.refl h).new _).new _
 have n1:h1.n=h.n+1:=by rw[ZL,H.ZP]
 have z2:h2.get h1.n=some (.cells YC.cs 42 false):=by rw[Zq,ZY]
 have w2:h2.X4 h1.n 0 YC.cs=some (h2.put h1.n (.cells YC.cs 42 false)):=by rw[ZF z2 (by simp)];rfl
 have r2:(h2.put h1.n (.cells YC.cs 42 false)).Ze h1.n 0 23=some YC.cs:=by rw[ZU (ZV (H.ZW z2)) (by simp)];rfl
 rw[W5 uH,qt];simp[bx,nw,<-ZL,<-Zq,PJ,w2,r2];exact⟨rfl,x2.put (by omega) _⟩
theorem oC(C:Zy D h c m st)(hD:∀b,D b->b<h.n)(hm:m<100000000)(b:Bk):
  RT (λw h'=>w=.Zt [YC.v,.int .i64 1]/\Zy (grow D h h') h' c m st/\Mod D h h') (KW 13 [.ptr c 0,.Zh,b.v,.bool false,.bool false] h):=by
 obtain⟨h1,ZL⟩:∃z,z=h.new (.cells b.cs 42 false):=⟨_,rfl⟩
 obtain⟨h2,Zq⟩:∃z,z=h1.new (.cells YC.cs 42 false):=⟨_,rfl⟩
 have x2:Ext h h2:=by rw[Zq,ZL];exact ((Ext.refl h).new _).new _
 have n1:h1.n=h.n+1:=by rw[ZL,H.ZP]
 have n2:h2.n=h1.n+1:=by rw[Zq,H.ZP]
 have z2:h2.get h1.n=some (.cells YC.cs 42 false):=by rw[Zq,ZY]
 obtain⟨_,h3,a3,rfl,C3,M3⟩:=(Oe (C.keep x2.n λb _ hb=>x2.get b hb) hm (y:=.Zh) λg _=>F1 g).elim;have M3n:=M3.n;have nz:¬D h1.n:=λhd=>by have:=hD _ hd;omega
 have z3:h3.get h1.n=_:=(M3.get _ (by omega) nz).trans z2;have w3:h3.X4 h1.n 0 YC.cs=some (h3.put h1.n (.cells YC.cs 42 false)):=by rw[ZF z3 (by simp)];rfl
 have r3:(h3.put h1.n (.cells YC.cs 42 false)).Ze h1.n 0 23=some YC.cs:=by rw[ZU (ZV (H.ZW z3)) (by simp)];rfl
 rw[W5 uH,qt];simp[bx,nw,<-ZL,<-Zq,a3,w3,r3];refine⟨rfl,(C3.keep (by rw[H.ZJ];exact Nat.le_refl _) λb hb _=>ZX ?_).mono λb hb hd=>?_,⟨by rw[H.ZJ];omega,λb hb hd=>by rw[ZX (by omega),M3.get b (by omega) hd,x2.get b hb]⟩⟩
 .rintro rfl
  rcases hb with hb|hb
  .exact nz hb
  .omega
 .rw[H.ZJ]at hb
  rcases hd with hd|hd
  .exact .inl hd
  .exact .inr ⟨by omega,by rw[H.ZJ];exact hb⟩
abbrev wqG:V:=.agg [.int .i64 0,.int .i64 0,.int .i64 64,.int .i64 64]
theorem F0(y:V)(h:H):RT (λw h'=>w=.Zt [.int .i64 0,.int .i64 1]/\Ext h h') (KW 11 [.Zh,y,wqG,.int .i64 0] h):=by
 rw[W4 r11,s11];simp[bx,PJ];exact⟨rfl,(Ext.refl h).new _⟩
theorem oB(C:Zy D h c m st)(hm:m<100000000)(hn:∀g,Mod D h g->KW 58 [y] g=some (.ret (.bool true),g)):
  RT (λw h'=>w=.Zt [.int .i64 0,.int .i64 1]/\Mod D h h') (KW 11 [.ptr c 0,y,wqG,.int .i64 0] h):=by
 obtain⟨h1,ZL⟩:∃z,z=h.new (.cells [.int .i64 0,.int .i64 0,.int .i64 64,.int .i64 64] 36 false):=⟨_,rfl⟩
 have x1:Ext h h1:=by rw[ZL];exact (Ext.refl h).new _
 obtain⟨_,h3,a3,rfl,C3,M3⟩:=(Oe (C.keep x1.n λb _ hb=>x1.get b hb) hm (y:=y) λg M=>hn g ⟨Nat.le_trans x1.n M.n,λb hb hd=>by rw[M.get b (by have:=x1.n;omega) hd,x1.get b hb]⟩).elim;rw[W4 r11,s11];simp[bx,<-ZL,a3];exact⟨rfl,⟨Nat.le_trans x1.n M3.n,λb hb hd=>by rw[M3.get b (by have:=x1.n;omega) hd,x1.get b hb]⟩⟩
end Go.Proofs.YtbkmdnmncaakdaaGreat
