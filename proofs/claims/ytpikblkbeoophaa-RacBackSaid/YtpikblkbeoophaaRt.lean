/- RacAll. -/
import Derived.Test.YtpikblkbeoophaaRs
set_option linter.unusedVariables false
set_option linter.unusedSimpArgs false
namespace Go.Proofs.Ytpikblkbeoophaa
open Go Go.Zf

theorem put_all {out : List Nat} {low rng : Nat} (h : 16777216 ≤ rng) : put out low rng 0 32768 = (out, low, rng) := by
  simp [put, part, renorm, show ¬ rng < 16777216 by omega]
theorem take_all {rest : List Nat} {code rng : Nat} (h : 16777216 ≤ rng) : take rest code rng 0 32768 = (rest, code, rng) := by
  simp [take, part, drenorm, show ¬ rng < 16777216 by omega]

/-- Two encoders and two decoders; X: what they write. -/
structure I4 (h : H) (n P Q R S : Nat) (X : Nat → Prop) (v w x y : V) (o1 : List Nat) (l1 r1 : Nat) (o2 : List Nat) (l2 r2 : Nat) (s1 : List Nat) (c1 g1 : Nat) (s2 : List Nat) (c2 g2 : Nat) : Prop where
  e1 : EncAt h P 52 v o1 l1 (.int .u32 r1)
  e2 : EncAt h Q 52 w o2 l2 (.int .u32 r2)
  d1 : DecAt h X R x s1 c1 g1
  d2 : DecAt h X S y s2 c2 g2
  f1 : ∀ c, fp P v c → X c
  f2 : ∀ c, fp Q w c → X c
  sep : ∀ c, fp P v c → fp Q w c → False
  p1 : ¬ fp P v R
  p2 : ¬ fp P v S
  q1 : ¬ fp Q w R
  q2 : ¬ fp Q w S
  rs : R ≠ S
  lo : ∀ c, X c → n ≤ c
  hi : ∀ c, X c → c < h.n

theorem I4.swapE {h : H} {n P Q R S : Nat} {X : Nat → Prop} {v w x y : V} {o1 : List Nat} {l1 r1 : Nat} {o2 : List Nat} {l2 r2 : Nat} {s1 : List Nat} {c1 g1 : Nat} {s2 : List Nat} {c2 g2 : Nat}
    (a : I4 h n P Q R S X v w x y o1 l1 r1 o2 l2 r2 s1 c1 g1 s2 c2 g2) : I4 h n Q P R S X w v x y o2 l2 r2 o1 l1 r1 s1 c1 g1 s2 c2 g2 :=
  ⟨a.e2, a.e1, a.d1, a.d2, a.f2, a.f1, fun c h1 h2 => a.sep c h2 h1, a.q1, a.q2, a.p1, a.p2, a.rs, a.lo, a.hi⟩
theorem I4.swapD {h : H} {n P Q R S : Nat} {X : Nat → Prop} {v w x y : V} {o1 : List Nat} {l1 r1 : Nat} {o2 : List Nat} {l2 r2 : Nat} {s1 : List Nat} {c1 g1 : Nat} {s2 : List Nat} {c2 g2 : Nat}
    (a : I4 h n P Q R S X v w x y o1 l1 r1 o2 l2 r2 s1 c1 g1 s2 c2 g2) : I4 h n P Q S R X v w y x o1 l1 r1 o2 l2 r2 s2 c2 g2 s1 c1 g1 :=
  ⟨a.e1, a.e2, a.d2, a.d1, a.f1, a.f2, a.sep, a.p2, a.p1, a.q2, a.q1, a.rs.symm, a.lo, a.hi⟩
theorem I4.keep {h h' : H} {n P Q R S : Nat} {X : Nat → Prop} {v w x y : V} {o1 : List Nat} {l1 r1 : Nat} {o2 : List Nat} {l2 r2 : Nat} {s1 : List Nat} {c1 g1 : Nat} {s2 : List Nat} {c2 g2 : Nat}
    (a : I4 h n P Q R S X v w x y o1 l1 r1 o2 l2 r2 s1 c1 g1 s2 c2 g2) (hk : ∀ c, c < h.n → h'.get c = h.get c) (hn : h.n ≤ h'.n) : I4 h' n P Q R S X v w x y o1 l1 r1 o2 l2 r2 s1 c1 g1 s2 c2 g2 :=
  ⟨a.e1.keep fun c _ hc => hk c hc, a.e2.keep fun c _ hc => hk c hc, a.d1.keep fun c hc _ => hk c hc, a.d2.keep fun c hc _ => hk c hc, a.f1, a.f2, a.sep, a.p1, a.p2, a.q1, a.q2, a.rs, a.lo, fun c hc => by have := a.hi c hc; omega⟩

theorem I4.put {h : H} {n P Q R S : Nat} {X : Nat → Prop} {v w x y : V} {o1 : List Nat} {l1 r1 : Nat} {o2 : List Nat} {l2 r2 : Nat} {s1 : List Nat} {c1 g1 : Nat} {s2 : List Nat} {c2 g2 : Nat}
    (a : I4 h n P Q R S X v w x y o1 l1 r1 o2 l2 r2 s1 c1 g1 s2 c2 g2) (inv : EInv l1 r1) (hlen : o1.length < 1099511627000) {lo hi : Nat} (h2 : lo < hi) (h3 : hi ≤ 32768) :
    ∃ h' X' v', KK 12 [.ptr P 0, .int .u32 lo, .int .u32 hi] h = some (.ret (.int .i64 0), h') ∧
      I4 h' n P Q R S X' v' w x y (Ytpikblkbeoophaa.put o1 l1 r1 lo hi).1 (Ytpikblkbeoophaa.put o1 l1 r1 lo hi).2.1 (Ytpikblkbeoophaa.put o1 l1 r1 lo hi).2.2 o2 l2 r2 s1 c1 g1 s2 c2 g2 ∧
      h.n ≤ h'.n ∧ (∀ c, c < h.n → ¬ X c → h'.get c = h.get c) ∧ ∀ c, c < h.n → ¬ X c → ¬ X' c := by
  obtain ⟨h', v', k1, k2, k3⟩ := put12_ok a.e1 inv hlen h2 h3
  have hn := k3.fr.1
  have hfp := k3.fp
  have hk := k3.fr.2
  have hnp : n ≤ h.n := by have := a.lo R a.d1.own; have := a.hi R a.d1.own; omega
  refine ⟨h', fun c => X c ∨ (h.n ≤ c ∧ c < h'.n), v', k1, ⟨k2, a.e2.keep fun c hc hl => hk c hl fun hf => a.sep c hf hc, ?_, ?_, ?_, fun c hc => .inl (a.f2 c hc), ?_, ?_, ?_, a.q1, a.q2, a.rs, ?_, ?_⟩, hn, fun c hc hX => hk c hc fun hf => hX (a.f1 c hf), fun c hc hX h4 => ?_⟩
  · have := a.d1.keep (h' := h') fun c hc hx => hk c hc (by rcases hx with rfl | hx; exact a.p1; exact fun e => hx (a.f1 c e))
    refine ⟨this.cell, .inl a.d1.own, ?_, this.byte⟩
    rcases a.d1.sl with g | g | ⟨b, o, c, e, ro, b1, b2, b3, b4⟩
    · exact .inl g
    · exact .inr (.inl g)
    · have hbl := H.get_lt b3
      exact .inr (.inr ⟨b, o, c, e, ro, b1, fun h => by rcases h with h | h; exact b2 h; omega, by rw [hk b hbl fun hf => b2 (a.f1 b hf), b3], b4⟩)
  · have := a.d2.keep (h' := h') fun c hc hx => hk c hc (by rcases hx with rfl | hx; exact a.p2; exact fun e => hx (a.f1 c e))
    refine ⟨this.cell, .inl a.d2.own, ?_, this.byte⟩
    rcases a.d2.sl with g | g | ⟨b, o, c, e, ro, b1, b2, b3, b4⟩
    · exact .inl g
    · exact .inr (.inl g)
    · have hbl := H.get_lt b3
      exact .inr (.inr ⟨b, o, c, e, ro, b1, fun h => by rcases h with h | h; exact b2 h; omega, by rw [hk b hbl fun hf => b2 (a.f1 b hf), b3], b4⟩)
  · intro c hc
    rcases hfp c hc with h4 | h4
    · exact .inl (a.f1 c h4)
    · exact .inr ⟨h4, k2.fp_lt c hc⟩
  · intro c hc hd
    rcases hfp c hc with h4 | h4
    · exact a.sep c h4 hd
    · have := a.e2.fp_lt c hd; omega
  · intro hf
    rcases hfp R hf with h4 | h4
    · exact a.p1 h4
    · have := a.hi R a.d1.own; omega
  · intro hf
    rcases hfp S hf with h4 | h4
    · exact a.p2 h4
    · have := a.hi S a.d2.own; omega
  · intro c hc
    rcases hc with h4 | h4
    · exact a.lo c h4
    · omega
  · intro c hc
    rcases hc with h4 | h4
    · have := a.hi c h4; omega
    · omega
  · rcases h4 with h4 | h4
    · exact hX h4
    · omega

theorem I4.take {h : H} {n P Q R S : Nat} {X : Nat → Prop} {v w x y : V} {o1 : List Nat} {l1 r1 : Nat} {o2 : List Nat} {l2 r2 : Nat} {s1 : List Nat} {c1 g1 : Nat} {s2 : List Nat} {c2 g2 : Nat}
    (a : I4 h n P Q R S X v w x y o1 l1 r1 o2 l2 r2 s1 c1 g1 s2 c2 g2) (inv : DInv c1 g1) {lo hi : Nat} (h1 : lo ≤ value c1 g1) (h2 : value c1 g1 < hi) (h3 : hi ≤ 32768) :
    ∃ h' x', KK 24 [.ptr R 0, .int .u32 lo, .int .u32 hi] h = some (.ret (.int .i64 0), h') ∧
      I4 h' n P Q R S X v w x' y o1 l1 r1 o2 l2 r2 (Ytpikblkbeoophaa.take s1 c1 g1 lo hi).1 (Ytpikblkbeoophaa.take s1 c1 g1 lo hi).2.1 (Ytpikblkbeoophaa.take s1 c1 g1 lo hi).2.2 s2 c2 g2 ∧ Only h h' R := by
  obtain ⟨h', x', k1, k2, k3⟩ := take24_ok a.d1 inv h1 h2 h3
  exact ⟨h', x', k1, ⟨a.e1.keep fun c hc _ => k3.2 c fun e => a.p1 (e ▸ hc), a.e2.keep fun c hc _ => k3.2 c fun e => a.q1 (e ▸ hc), k2, a.d2.keep fun c hc hx => k3.2 c (by rcases hx with rfl | hx; exact a.rs.symm; exact fun e => hx (e ▸ a.d1.own)),
    a.f1, a.f2, a.sep, a.p1, a.p2, a.q1, a.q2, a.rs, a.lo, fun c hc => by rw [k3.1]; exact a.hi c hc⟩, k3⟩

/-- A part that may be, in a block of its own. -/
theorem may_new {h : H} {lo hi : Nat} (b3 : lo < 4294967296) (b4 : hi < 4294967296) :
    ∃ g1 g2 g3, KK 26 [.agg [.int .u32 lo, .int .u32 hi]] h = some (.ret (.agg [.int .u32 (may lo hi).1, .int .u32 (may lo hi).2]), g1) ∧
      nw g1 31 [.int .u32 0, .int .u32 0] = some (.ptr g1.n 0, g2) ∧ stZ 2 g2 (.ptr g1.n 0) (.agg [.int .u32 (may lo hi).1, .int .u32 (may lo hi).2]) = some (.und, g3) ∧
      g3.get g1.n = some (.cells [.int .u32 (may lo hi).1, .int .u32 (may lo hi).2] 31 false) ∧ h.n ≤ g1.n ∧ g3.n = g1.n + 1 ∧ ∀ c, c < h.n → g3.get c = h.get c := by
  obtain ⟨g1, a1, a2, a3⟩ := may26_ok h lo hi b3 b4
  obtain ⟨g2, hg2⟩ : ∃ g, g = g1.new (.cells [.int .u32 0, .int .u32 0] 31 false) := ⟨_, rfl⟩
  have c2 : g2.get g1.n = some (.cells [.int .u32 0, .int .u32 0] 31 false) := by rw [hg2]; exact get_new_same
  have w := wrN_of c2 (o := 0) (vs := [.int .u32 (may lo hi).1, .int .u32 (may lo hi).2]) (by simp)
  refine ⟨g1, g2, g2.put g1.n (.cells [.int .u32 (may lo hi).1, .int .u32 (may lo hi).2] 31 false), a1, by rw [hg2]; rfl, ?_, get_put_same (H.get_lt c2), a2, by rw [H.n_put, hg2, H.n_new], fun c hc => by rw [get_put_ne (by omega), hg2, get_new_lt (by omega), a3 c hc]⟩
  simp [stZ, w, splice]

theorem loop8_0 {lv : V} {ps : List (Nat × Nat)} {n P Q R S : Nat} : ∀ (m i : Nat) (h : H) (e : E) (X : Nat → Prop) (v w x y : V) (out : List Nat) (low rng : Nat) (rest : List Nat) (code grng : Nat), m + i = 100 → PartsAt h lv ps → ps.length < 9223372036854775808 →
    (∀ b o l k, lv = .sl b o l k → b < n) → I4 h n P Q R S X v w x y out low rng out low rng rest code grng rest code grng → EInv low rng → DInv code grng → out.length ≤ 3 * i →
    e.s [0, 1, 4, 5, 6, 7, 8, 9, 10, 11, 13, 15] 0 = lv → e.s [0, 1, 4, 5, 6, 7, 8, 9, 10, 11, 13, 15] 5 = .ptr P 0 → e.s [0, 1, 4, 5, 6, 7, 8, 9, 10, 11, 13, 15] 6 = .ptr Q 0 → e.s [0, 1, 4, 5, 6, 7, 8, 9, 10, 11, 13, 15] 7 = .ptr R 0 →
    e.s [0, 1, 4, 5, 6, 7, 8, 9, 10, 11, 13, 15] 8 = .ptr S 0 → e.s [0, 1, 4, 5, 6, 7, 8, 9, 10, 11, 13, 15] 9 = .int .i64 i →
    ∃ e' h', loopZ (l8_0 KK loopZ) e h = some ⟨.ex 0, e', h'⟩ := by
  intro m
  induction m with
  | zero =>
    intro i h e X v w x y out low rng rest code grng hm hP hpl hlv hT hI hJ hout h0 h5 h6 h7 h8 h9
    have h100 : ¬ i < 100 := by omega
    by_cases hlt : i < ps.length
    · rw [loopZ_eq]
      simp [l8_0, h0, h5, h6, h7, h8, h9, hP.len, hlt, show (i : Int) < ps.length by omega, h100, show ¬ (i : Int) < 100 by omega]
    · rw [loopZ_eq]
      simp [l8_0, h0, h5, h6, h7, h8, h9, hP.len, hlt, show ¬ (i : Int) < ps.length by omega]
  | succ m ih =>
    intro i h e X v w x y out low rng rest code grng hm hP hpl hlv hT hI hJ hout h0 h5 h6 h7 h8 h9
    have h100 : i < 100 := by omega
    by_cases hlt : i < ps.length
    · have _ := hlt
      obtain ⟨lo, hi, hps⟩ : ∃ lo hi, ps[i]? = some (lo, hi) := ⟨_, _, List.getElem?_eq_getElem hlt⟩
      obtain ⟨pb, b1, b2, b3, b4⟩ := hP.rd2 hps
      have hnn : n ≤ h.n := by have := hT.lo R hT.d1.own; have := hT.hi R hT.d1.own; omega
      have hpbn : pb < n := by
        rcases hP with ⟨rfl, rfl⟩ | ⟨b', k', c', e', ro', rfl, g2, g3⟩
        · simp at hps
        · simp [hlt] at b1; subst b1; exact hlv _ _ _ _ rfl
      -- the part
      obtain ⟨m1, m2, m3⟩ := (⟨(may_ok lo hi).1, (may_ok lo hi).2, trivial⟩ : (may lo hi).1 < (may lo hi).2 ∧ (may lo hi).2 ≤ 32768 ∧ True)
      obtain ⟨f1, f2, f3, a1, a2, a3, a4, a5, a6, a7⟩ := may_new (h := h) b3 b4
      have I0 := hT.keep a7 (by omega)
      have nX0 : ¬ X f1.n := fun hx => by have := hT.hi _ hx; omega
      obtain ⟨g1, X1, v1, k1, I1, n1, u1, x1⟩ := I0.put hI (by omega) m1 m2
      have t1 : g1.get f1.n = some (.cells [.int .u32 (may lo hi).1, .int .u32 (may lo hi).2] 31 false) := by rw [u1 _ (by omega) nX0, a4]
      have nX1 := x1 _ (by omega) nX0
      obtain ⟨g2, X2, w2, k2, I2, n2, u2, x2⟩ := I1.swapE.put (lo := 0) (hi := 32768) hI (by omega) (by omega) (by omega)
      simp only [put_all hI.1] at I2
      have t2 : g2.get f1.n = some (.cells [.int .u32 (may lo hi).1, .int .u32 (may lo hi).2] 31 false) := by rw [u2 _ (by omega) nX1, t1]
      have nX2 := x2 _ (by omega) nX1
      have k3 := put12_no (lo := (may lo hi).2) (hi := (may lo hi).1) I2.e1 hI (by omega)
      obtain ⟨g4, X4, w4, k4, I4', n4, u4, x4⟩ := I2.put hI (by omega) m1 m2
      have I4'' := I4'.swapE
      have hput := put_inv (out := out) hI m1 m2
      obtain ⟨g5, y5, k5, s5, n5, r5⟩ := bytes14_wr I4''.e1 hput.1 (by omega)
      have I5 := I4''.keep r5 n5
      obtain ⟨g6, y6, k6, s6, n6, r6⟩ := bytes14_wr I5.e2 hput.1 (by omega)
      have I6 := I5.keep r6 n6
      have hbl : (bytes (Ytpikblkbeoophaa.put out low rng (may lo hi).1 (may lo hi).2).1 (Ytpikblkbeoophaa.put out low rng (may lo hi).1 (may lo hi).2).2.1).length < 9223372036854775807 := by
        rw [bytes_len]
        have := trimN_le (emits 4 (Ytpikblkbeoophaa.put out low rng (may lo hi).1 (may lo hi).2).1 (Ytpikblkbeoophaa.put out low rng (may lo hi).1 (may lo hi).2).2.1).1 ((Ytpikblkbeoophaa.put out low rng (may lo hi).1 (may lo hi).2).1.length + 4)
        omega
      have k7 := eq15_ok (s5.slb.keep r6).at s6.slb.at hbl
      -- the decoders
      have hv1 := value21_ok I6.d1 hJ
      have hv2 := value21_ok I6.d2 hJ
      have hvl : value code grng ≤ 32767 := by unfold value; omega
      obtain ⟨q1, q2, q3⟩ := abt_ok (value code grng) lo hi hvl
      obtain ⟨j1, j2, j3, z1, z2, z3, z4, z5, z6, z7⟩ := about_new (h := g6) (vl := value code grng) b3 b4
      have I7 := I6.keep z7 (by omega)
      obtain ⟨g8, x8, k8, I8, o8⟩ := I7.take hJ q1 q2 q3
      have d8 : g8.get j1.n = some (.cells [.int .u32 (abt (value code grng) lo hi).1, .int .u32 (abt (value code grng) lo hi).2] 31 false) := by
        rw [o8.2 _ (fun e => by have := I6.hi R I6.d1.own; omega), z4]
      obtain ⟨g9, x9, k9, I9, o9⟩ := I8.swapD.take hJ (lo := 0) (hi := 32768) (by omega) (by omega) (by omega)
      simp only [take_all hJ.1] at I9
      have d9 : g9.get j1.n = some (.cells [.int .u32 (abt (value code grng) lo hi).1, .int .u32 (abt (value code grng) lo hi).2] 31 false) := by
        rw [o9.2 _ (fun e => by have := I6.hi S I6.d2.own; omega), d8]
      obtain ⟨ga, xa, ka, Ia, oa⟩ := I9.take hJ q1 q2 q3
      have Ib := Ia.swapD
      have hti := take_inv hJ q1 q2 q3 I6.d1.byte
      have hwr : IntKind.i64.wrap ((i : Int) + 1) = ((i + 1 : Nat) : Int) := by rw [wi64 (by omega) (by omega)]; simp
      obtain ⟨i1, hi1⟩ : ∃ i1, i1 = i + 1 := ⟨_, rfl⟩
      rw [← hi1] at hwr
      have key : ∀ c, c < n → ga.get c = h.get c ∧ g6.get c = h.get c := by
        intro c hc
        have hX : ∀ {g : H} {Y : Nat → Prop} {a1 a2 a3 a4 : V} {p1 p2 : List Nat} {u1 u2 u3 u4 : Nat} {q1 q2 : List Nat} {u5 u6 u7 u8 : Nat} {A B C D : Nat}, I4 g n A B C D Y a1 a2 a3 a4 p1 u1 u2 p2 u3 u4 q1 u5 u6 q2 u7 u8 → ¬ Y c := fun a hY => by have := a.lo c hY; omega
        have e6 : g6.get c = h.get c := by
          rw [r6 c (by omega), r5 c (by omega), u4 c (by omega) (hX I2), u2 c (by omega) (hX I1), u1 c (by omega) (hX I0), a7 c (by omega)]
        refine ⟨?_, e6⟩
        rw [oa.2 c (fun e => hX I9 (e ▸ I9.d1.own)), o9.2 c (fun e => hX I8 (e ▸ I8.d2.own)), o8.2 c (fun e => hX I7 (e ▸ I7.d1.own)), z7 c (by omega), e6]
      have hPp : PartsAt ga lv ps := by
        rcases hP with a | ⟨b', k', c', e', ro', e1, e2, e3⟩
        · exact .inl a
        · exact .inr ⟨b', k', c', e', ro', e1, by rw [(key b' (hlv _ _ _ _ e1)).1, e2], e3⟩
      have b2' : g6.rdN pb (i * 2) 2 = some [.int .u32 lo, .int .u32 hi] := by
        rw [← b2]; simp only [H.rdN, (key pb hpbn).2]
      obtain ⟨vl, hvv⟩ : ∃ x, x = value code grng := ⟨_, rfl⟩
      rw [← hvv] at hv1 hv2 z1 z3 z4 k8 d8 d9 ka
      obtain ⟨ab, hab⟩ : ∃ ab, ab = abt vl lo hi := ⟨_, rfl⟩
      rw [← hab] at z1 z3 z4 k8 d8 d9 ka
      obtain ⟨my, hmy⟩ : ∃ my, my = may lo hi := ⟨_, rfl⟩
      rw [← hmy] at a1 a3 a4 k1 t1 t2 k3 k4
      simp at k2 k9
      rw [loopZ_eq]
      simp [l8_0, h0, h5, h6, h7, h8, h9, hP.len, hlt, show (i : Int) < ps.length by omega, h100, show (i : Int) < 100 by omega, b1, b2, a1, a2, a3, rd1_of a4, k1, k2, rd1_of t2, k3, k4, k5, k6, k7, hv1, hv2, b2', z1, z2, z3, rd1_of z4, k8, k9, rd1_of d9, ka, hwr]
      exact ih i1 ga ⟨[lv, _, _, .ptr P 0, .ptr Q 0, .ptr R 0, .ptr S 0, .int .i64 i1, _, _, _, _], 9, .int .i64 i1⟩ _ _ _ _ _ _ _ _ _ _ _ (by omega) hPp hpl hlv Ib hput.1 hti.1 (by have := hput.2; omega) (by simp) (by simp) (by simp) (by simp) (by simp) (by simp)
    · rw [loopZ_eq]
      simp [l8_0, h0, h5, h6, h7, h8, h9, hP.len, hlt, show ¬ (i : Int) < ps.length by omega]

theorem all8_ok {h : H} {lv bv : V} {ps : List (Nat × Nat)} {l : List Nat} (hP : PartsAt h lv ps) (hpl : ps.length < 9223372036854775808) (hB : SlB h bv l) (hl : l.length < 140737488355329) (hb : ∀ x ∈ l, x < 256) :
    ∃ h', KK 8 [lv, bv] h = some (.ret (.bool true), h') := by
  obtain ⟨h1, w1, w2, w3⟩ := works17_ok h
  obtain ⟨h2, a2, b2, m2, d2⟩ := new10_ok h1
  obtain ⟨h3, a3, b3, m3, d3⟩ := new10_ok h2
  obtain ⟨h4, R, x4, a4, b4, m4, m4', d4⟩ := read19_ok (((hB.keep w3).keep d2).keep d3) hl hb
  obtain ⟨h5, S, x5, a5, b5, m5, m5', d5⟩ := read19_ok ((((hB.keep w3).keep d2).keep d3).keep d4) hl hb
  have Y4 := b4 (fun c => c = h1.n ∨ c = h2.n ∨ c = R ∨ c = S) (.inr (.inr (.inl rfl))) (fun c h1 h2 h3 h4 => by rcases h4 with e | e | e | e <;> omega)
  have Y5 := b5 (fun c => c = h1.n ∨ c = h2.n ∨ c = R ∨ c = S) (.inr (.inr (.inr rfl))) (fun c h1 h2 h3 h4 => by rcases h4 with e | e | e | e <;> omega)
  have Y4' := Y4.keep (h' := h5) fun c hc _ => d5 c hc
  have E2 := ((b2.keep (h' := h3) fun c _ hc => d3 c hc).keep (h' := h4) fun c _ hc => d4 c hc).keep (h' := h5) fun c _ hc => d5 c hc
  have E3 := (b3.keep (h' := h4) fun c _ hc => d4 c hc).keep (h' := h5) fun c _ hc => d5 c hc
  have hf : ∀ {p c : Nat}, fp p .nils c → c = p := fun hc => by
    rcases hc with e | ⟨o, n, k, e⟩
    · exact e
    · cases e
  have I : I4 h5 h1.n h1.n h2.n R S (fun c => c = h1.n ∨ c = h2.n ∨ c = R ∨ c = S) .nils .nils x4 x5 [] 0 4294967295 [] 0 4294967295 _ _ 4294967295 _ _ 4294967295 :=
    ⟨E2, E3, Y4', Y5, fun c hc => .inl (hf hc), fun c hc => .inr (.inl (hf hc)), fun c h1 h2 => by have := hf h1; have := hf h2; omega, fun h => by have := hf h; omega, fun h => by have := hf h; omega, fun h => by have := hf h; omega, fun h => by have := hf h; omega,
      by omega, fun c hc => by rcases hc with e | e | e | e <;> omega, fun c hc => by rcases hc with e | e | e | e <;> omega⟩
  have hk5 : ∀ c, c < h.n → h5.get c = h.get c := fun c hc => by rw [d5 c (by omega), d4 c (by omega), d3 c (by omega), d2 c (by omega), w3 c hc]
  have hP5 : PartsAt h5 lv ps := hP.keep (n := 0) hk5
  have hlv : ∀ b o l k, lv = .sl b o l k → b < h1.n := fun b o l k e => by
    rcases hP with ⟨g, _⟩ | ⟨b', k', c', e', ro', g1, g2, g3⟩
    · rw [g] at e; cases e
    · rw [g1] at e; cases e; have := H.get_lt g2; omega
  obtain ⟨e6, h6, a6⟩ := loop8_0 100 0 h5 ⟨[lv, bv, .bool false, .ptr h1.n 0, .ptr h2.n 0, .ptr R 0, .ptr S 0, .int .i64 0, .und, .und, .und, .und], 9, .int .i64 0⟩ _ _ _ _ _ _ _ _ _ _ _ (by omega) hP5 hpl hlv I ⟨by omega, by omega, by omega⟩ (dread_inv hb).1 (by simp) (by simp) (by simp) (by simp) (by simp) (by simp) (by simp)
  refine ⟨h6, ?_⟩
  rw [KK, c8, f8, s8]
  simp at a6
  simp [w1, a2, a3, a4, a5, a6]

theorem core8 {Hd : Type} {enc : TypeId × Value → Hd} {W : World} {base : Nat} {v0 v1 : Value} {d0 d1 : DataW Hd} {p0 p1 : List MemPlace}
    (hok1 : Value.okWide Try.prog W .any base 22 v0) (hd1 : DataW.Trod enc Try.prog W 0 (fun _ => true) true 22 v0 d0 p0)
    (hok : Value.okWide Try.prog W .any base 32 v1) (hd : DataW.Trod enc Try.prog W 0 (fun _ => true) true 32 v1 d1 p1)
    (hk : (DataW.weightsEach Try.prog [22, 32] [d0, d1]).all (· ≤ reachBytes) = true) :
    Calls Try.prog 8 #[v0, v1] W fun e W' => e = .returned (.bool true) ∧ Go.RowKit.Below W.heap.size W W' := by
  obtain ⟨i, h, x, l, a, _, hx, hB, n1, k1, hl, hb, hr, _⟩ := argBytes (ArgH.empty W) hok hd
  obtain ⟨i', h', y, ps, a', le, hy, hP, n2, k2, hpl⟩ := argParts a hok1 hd1
  have hl' := reach hk (j := 1) rfl rfl hr
  obtain ⟨h'', hrun⟩ := all8_ok hP hpl (hB.keep k2) (by omega) hb
  exact law_calls (us := [v0, v1]) (callZ_ok mixed kp hrun) a'.rel (.cons hy (.cons (hx.mono le) .nil)) a'.dom a'.no
end Go.Proofs.Ytpikblkbeoophaa
