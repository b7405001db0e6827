/- RacTakes. -/
import Derived.Test.YtpikblkbeoophaaRo
set_option linter.unusedVariables false
set_option linter.unusedSimpArgs false
namespace Go.Proofs.Ytpikblkbeoophaa
open Go Go.Zf

def abt (v lo hi : Nat) : Nat × Nat := (lo % (min v 32767 + 1), min v 32767 + 1 + hi % (32768 - min v 32767))
def may (lo hi : Nat) : Nat × Nat := (lo % 32768, lo % 32768 + 1 + hi % (32768 - lo % 32768))
theorem abt_ok (v lo hi : Nat) (hv : v ≤ 32767) : (abt v lo hi).1 ≤ v ∧ v < (abt v lo hi).2 ∧ (abt v lo hi).2 ≤ 32768 := by
  unfold abt
  rw [Nat.min_eq_left hv]
  have h1 := Nat.mod_lt lo (show 0 < v + 1 by omega)
  have h2 := Nat.mod_lt hi (show 0 < 32768 - v by omega)
  simp only
  omega
theorem may_ok (lo hi : Nat) : (may lo hi).1 < (may lo hi).2 ∧ (may lo hi).2 ≤ 32768 := by
  unfold may
  have h1 := Nat.mod_lt lo (show 0 < 32768 by omega)
  have h2 := Nat.mod_lt hi (show 0 < 32768 - lo % 32768 by omega)
  simp only
  omega

theorem resCell {s : Nat → V} {h : H} {t b : Nat} {c : List V} {e : Nat} {ro : Bool} (hs : s t = .ptr b 0) (hb : h.get b = some (.cells c e ro)) (hc : c.length = 2) : resVs Try.prog s h [.cell t 31] = some [.agg c] := by
  have h31 : szT Try.prog 31 = some 2 := by kernel_rfl
  have h31' : isAggT Try.prog 31 = some true := by kernel_rfl
  simp [resVs, resV, hs, ldV, h31, h31', rdN_of hb (o := 0) (n := 2) (by omega), List.take_of_length_le, hc]

theorem about23_ok (h : H) (v lo hi : Nat) (hl : lo < 4294967296) (hh : hi < 4294967296) :
    ∃ h', KK 23 [.int .u32 v, .agg [.int .u32 lo, .int .u32 hi]] h = some (.ret (.agg [.int .u32 (abt v lo hi).1, .int .u32 (abt v lo hi).2]), h') ∧ h.n ≤ h'.n ∧ ∀ c, c < h.n → h'.get c = h.get c := by
  obtain ⟨m, hm⟩ : ∃ m, m = min v 32767 := ⟨_, rfl⟩
  have hml : m ≤ 32767 := by omega
  have e4 : minV [.int .u32 (v : Int), .int .u32 32767] = some (.int .u32 (m : Int)) := by
    simp [minV, foldV, min2V]
    split <;> omega
  have ha : abt v lo hi = (lo % (m + 1), m + 1 + hi % (32768 - m)) := by rw [abt, ← hm]
  have w1 : IntKind.u32.wrap ((m : Int) + 1) = ((m + 1 : Nat) : Int) := by rw [w32 (by omega) (by omega)]; simp
  have w2 : IntKind.u32.wrap ((32768 : Int) - m) = ((32768 - m : Nat) : Int) := by rw [w32 (by omega) (by omega)]; omega
  have z1 := Nat.mod_lt lo (show 0 < m + 1 by omega)
  have z2 := Nat.mod_lt hi (show 0 < 32768 - m by omega)
  obtain ⟨d1, hd1⟩ : ∃ d, d = m + 1 := ⟨_, rfl⟩
  obtain ⟨d2, hd2⟩ : ∃ d, d = 32768 - m := ⟨_, rfl⟩
  rw [← hd1] at w1 z1 ha
  rw [← hd2] at w2 z2 ha
  have t1 : (lo : Int).tmod d1 = ((lo % d1 : Nat) : Int) := by rw [Int.tmod_eq_emod_of_nonneg (by omega)]; rfl
  have t2 : (hi : Int).tmod d2 = ((hi % d2 : Nat) : Int) := by rw [Int.tmod_eq_emod_of_nonneg (by omega)]; rfl
  obtain ⟨r1, hr1⟩ : ∃ d, d = lo % d1 := ⟨_, rfl⟩
  obtain ⟨r2, hr2⟩ : ∃ d, d = hi % d2 := ⟨_, rfl⟩
  rw [← hr1] at t1 ha z1
  rw [← hr2] at t2 ha z2
  have w3 : IntKind.u32.wrap ((d1 : Int) + r2) = ((d1 + r2 : Nat) : Int) := by rw [w32 (by omega) (by omega)]; simp
  obtain ⟨s, hs⟩ : ∃ d, d = d1 + r2 := ⟨_, rfl⟩
  rw [← hs] at w3 ha
  obtain ⟨h1, hh1⟩ : ∃ h1, h1 = h.new (.cells [.int .u32 lo, .int .u32 hi] 31 false) := ⟨_, rfl⟩
  have g1 : h1.get h.n = some (.cells [.int .u32 lo, .int .u32 hi] 31 false) := by rw [hh1]; exact get_new_same
  have n1 : h1.n = h.n + 1 := by rw [hh1, H.n_new]
  obtain ⟨h2, hh2⟩ : ∃ h2, h2 = h1.new (.cells [.int .u32 0, .int .u32 0] 31 false) := ⟨_, rfl⟩
  have g2 : h2.get h.n = some (.cells [.int .u32 lo, .int .u32 hi] 31 false) := by rw [hh2, get_new_lt (by omega), g1]
  have g3 : h2.get h1.n = some (.cells [.int .u32 0, .int .u32 0] 31 false) := by rw [hh2]; exact get_new_same
  have hw := fun (vs : List V) (hv : vs.length = 2) => wrN_of g3 (o := 0) (vs := vs) (by simp [hv])
  obtain ⟨h3, hh3⟩ : ∃ h3, h3 = h2.put h1.n (.cells [.int .u32 r1, .int .u32 s] 31 false) := ⟨_, rfl⟩
  have g4 : h3.get h1.n = some (.cells [.int .u32 r1, .int .u32 s] 31 false) := by rw [hh3]; exact get_put_same (H.get_lt g3)
  refine ⟨h3, ?_, by rw [hh3, H.n_put, hh2, H.n_new]; omega, fun c hc => by rw [hh3, get_put_ne (by omega), hh2, get_new_lt (by omega), hh1, get_new_lt hc]⟩
  rw [ha]
  rw [KK, c23, f23, s23]
  have hd20 : ¬ d2 = 0 := by omega
  have hd10 : ¬ d1 = 0 := by omega
  simp [bx, V.cells, ← hh1, nw, ← hh2, e4, rd1_of g2, w1, t1, w2, t2, hd10, hd20, w3, bl, fillW, splice, stZ, hw, ← hh3]
  rw [resCell (by simp) g4 rfl]
  simp

theorem may26_ok (h : H) (lo hi : Nat) (hl : lo < 4294967296) (hh : hi < 4294967296) :
    ∃ h', KK 26 [.agg [.int .u32 lo, .int .u32 hi]] h = some (.ret (.agg [.int .u32 (may lo hi).1, .int .u32 (may lo hi).2]), h') ∧ h.n ≤ h'.n ∧ ∀ c, c < h.n → h'.get c = h.get c := by
  have z0 := Nat.mod_lt lo (show 0 < 32768 by omega)
  have t0 : (lo : Int).tmod 32768 = ((lo % 32768 : Nat) : Int) := by rw [Int.tmod_eq_emod_of_nonneg (by omega)]; rfl
  have ha : may lo hi = (lo % 32768, lo % 32768 + 1 + hi % (32768 - lo % 32768)) := rfl
  obtain ⟨m, hm⟩ : ∃ m, m = lo % 32768 := ⟨_, rfl⟩
  rw [← hm] at z0 t0 ha
  have w1 : IntKind.u32.wrap ((m : Int) + 1) = ((m + 1 : Nat) : Int) := by rw [w32 (by omega) (by omega)]; simp
  have w2 : IntKind.u32.wrap ((32768 : Int) - m) = ((32768 - m : Nat) : Int) := by rw [w32 (by omega) (by omega)]; omega
  have z2 := Nat.mod_lt hi (show 0 < 32768 - m by omega)
  obtain ⟨d1, hd1⟩ : ∃ d, d = m + 1 := ⟨_, rfl⟩
  obtain ⟨d2, hd2⟩ : ∃ d, d = 32768 - m := ⟨_, rfl⟩
  rw [← hd1] at w1 ha
  rw [← hd2] at w2 z2 ha
  have t2 : (hi : Int).tmod d2 = ((hi % d2 : Nat) : Int) := by rw [Int.tmod_eq_emod_of_nonneg (by omega)]; rfl
  obtain ⟨r2, hr2⟩ : ∃ d, d = hi % d2 := ⟨_, rfl⟩
  rw [← hr2] at t2 ha z2
  have w3 : IntKind.u32.wrap ((d1 : Int) + r2) = ((d1 + r2 : Nat) : Int) := by rw [w32 (by omega) (by omega)]; simp
  obtain ⟨s, hs⟩ : ∃ d, d = d1 + r2 := ⟨_, rfl⟩
  rw [← hs] at w3 ha
  obtain ⟨h1, hh1⟩ : ∃ h1, h1 = h.new (.cells [.int .u32 lo, .int .u32 hi] 31 false) := ⟨_, rfl⟩
  have g1 : h1.get h.n = some (.cells [.int .u32 lo, .int .u32 hi] 31 false) := by rw [hh1]; exact get_new_same
  have n1 : h1.n = h.n + 1 := by rw [hh1, H.n_new]
  obtain ⟨h2, hh2⟩ : ∃ h2, h2 = h1.new (.cells [.int .u32 0, .int .u32 0] 31 false) := ⟨_, rfl⟩
  have g2 : h2.get h.n = some (.cells [.int .u32 lo, .int .u32 hi] 31 false) := by rw [hh2, get_new_lt (by omega), g1]
  have g3 : h2.get h1.n = some (.cells [.int .u32 0, .int .u32 0] 31 false) := by rw [hh2]; exact get_new_same
  have hw := fun (vs : List V) (hv : vs.length = 2) => wrN_of g3 (o := 0) (vs := vs) (by simp [hv])
  obtain ⟨h3, hh3⟩ : ∃ h3, h3 = h2.put h1.n (.cells [.int .u32 m, .int .u32 s] 31 false) := ⟨_, rfl⟩
  have g4 : h3.get h1.n = some (.cells [.int .u32 m, .int .u32 s] 31 false) := by rw [hh3]; exact get_put_same (H.get_lt g3)
  refine ⟨h3, ?_, by rw [hh3, H.n_put, hh2, H.n_new]; omega, fun c hc => by rw [hh3, get_put_ne (by omega), hh2, get_new_lt (by omega), hh1, get_new_lt hc]⟩
  rw [ha]
  rw [KK, c26, f26, s26]
  have hd20 : ¬ d2 = 0 := by omega
  simp [bx, V.cells, ← hh1, nw, ← hh2, rd1_of g2, w1, t0, w2, t2, hd20, w3, bl, fillW, splice, stZ, hw, ← hh3]
  rw [resCell (by simp) g4 rfl]
  simp

/-- The bytes that were handed to Read are spoilt. -/
theorem loop4_0 {x : V} {len : Nat} (hx : lnS x = some (.int .i64 len)) {b : Nat} (hlen : len < 9223372036854775807) : ∀ (m i : Nat) (h : H) (e : E), m + i = len →
    (0 < len → ∃ k c, x = .sl b 0 len k ∧ h.get b = some (.cells c 5 false) ∧ ∀ j, j < len → ∃ x : Int, c[j]? = some (.int .u8 x)) →
    e.s [0, 1, 4, 5, 6, 7, 8, 9, 10, 11, 12, 13, 14, 15, 17] 5 = x → e.s [0, 1, 4, 5, 6, 7, 8, 9, 10, 11, 12, 13, 14, 15, 17] 8 = .int .i64 i →
    ∃ e' h', loopZ (l4_0 KK loopZ) e h = some ⟨.ex 0, e', h'⟩ ∧ h'.n = h.n ∧ (∀ c, c ≠ b → h'.get c = h.get c) ∧
      e'.s [0, 1, 4, 5, 6, 7, 8, 9, 10, 11, 12, 13, 14, 15, 17] 1 = e.s [0, 1, 4, 5, 6, 7, 8, 9, 10, 11, 12, 13, 14, 15, 17] 1 ∧ e'.s [0, 1, 4, 5, 6, 7, 8, 9, 10, 11, 12, 13, 14, 15, 17] 6 = e.s [0, 1, 4, 5, 6, 7, 8, 9, 10, 11, 12, 13, 14, 15, 17] 6 ∧ e'.s [0, 1, 4, 5, 6, 7, 8, 9, 10, 11, 12, 13, 14, 15, 17] 7 = e.s [0, 1, 4, 5, 6, 7, 8, 9, 10, 11, 12, 13, 14, 15, 17] 7
  | 0, i, h, e, hm, hc, h6, h7 => by
    rw [loopZ_eq]
    simp [l4_0, h6, h7, hx, show ¬ (i : Int) < len by omega, show ¬ i < len by omega]
    exact ⟨_, _, ⟨rfl, rfl⟩, rfl, fun _ _ => rfl, by simp, by simp, by simp⟩
  | m + 1, i, h, e, hm, hc', h6, h7 => by
    obtain ⟨k, c, rfl, hb, hc⟩ := hc' (by omega)
    obtain ⟨x, hx⟩ := hc i (by omega)
    have hcl : i < c.length := (List.getElem?_eq_some_iff.mp hx).1
    have hw := fun v => wr1_of hb (o := i) hcl v
    have hwr : IntKind.i64.wrap ((i : Int) + 1) = ((i + 1 : Nat) : Int) := by rw [wi64 (by omega) (by omega)]; simp
    obtain ⟨y, hy⟩ : ∃ y : Int, y = IntKind.u8.wrap (BitVec.ofInt IntKind.u8.bits x ^^^ BitVec.ofInt IntKind.u8.bits 255).toNat := ⟨_, rfl⟩
    have hbin : binK 0 .xor (.int .u8 x) (.int .u8 255) = some (.int .u8 y) := by rw [binK_xor, hy]
    obtain ⟨h1, hh1⟩ : ∃ h1, h1 = h.put b (.cells (c.set i (.int .u8 y)) 5 false) := ⟨_, rfl⟩
    obtain ⟨i1, hi1⟩ : ∃ i1, i1 = i + 1 := ⟨_, rfl⟩
    rw [← hi1] at hwr
    rw [loopZ_eq]
    simp [l4_0, h6, h7, show (i : Int) < len by omega, show i < len by omega, rd1_of hb, hx, -binK_xor, hbin, hw, ← hh1, hwr]
    obtain ⟨e', h', k1, k2, k3, k4, k5, k6⟩ := loop4_0 (x := .sl b 0 len k) rfl (b := b) hlen m i1 h1 ⟨[e.s [0, 1, 4, 5, 6, 7, 8, 9, 10, 11, 12, 13, 14, 15, 17] 0, e.s [0, 1, 4, 5, 6, 7, 8, 9, 10, 11, 12, 13, 14, 15, 17] 1, e.s [0, 1, 4, 5, 6, 7, 8, 9, 10, 11, 12, 13, 14, 15, 17] 4, .sl b 0 len k, e.s [0, 1, 4, 5, 6, 7, 8, 9, 10, 11, 12, 13, 14, 15, 17] 6, e.s [0, 1, 4, 5, 6, 7, 8, 9, 10, 11, 12, 13, 14, 15, 17] 7, .int .i64 i1,
      e.s [0, 1, 4, 5, 6, 7, 8, 9, 10, 11, 12, 13, 14, 15, 17] 9, e.s [0, 1, 4, 5, 6, 7, 8, 9, 10, 11, 12, 13, 14, 15, 17] 10, e.s [0, 1, 4, 5, 6, 7, 8, 9, 10, 11, 12, 13, 14, 15, 17] 11, e.s [0, 1, 4, 5, 6, 7, 8, 9, 10, 11, 12, 13, 14, 15, 17] 12, e.s [0, 1, 4, 5, 6, 7, 8, 9, 10, 11, 12, 13, 14, 15, 17] 13, e.s [0, 1, 4, 5, 6, 7, 8, 9, 10, 11, 12, 13, 14, 15, 17] 14, e.s [0, 1, 4, 5, 6, 7, 8, 9, 10, 11, 12, 13, 14, 15, 17] 15, e.s [0, 1, 4, 5, 6, 7, 8, 9, 10, 11, 12, 13, 14, 15, 17] 17], 8, .int .i64 i1⟩ (by omega)
      (fun _ => ⟨k, _, rfl, by rw [hh1]; exact get_put_same (H.get_lt hb), fun j hj => by
        by_cases hji : i = j
        · subst hji; exact ⟨y, by simp [hcl]⟩
        · rw [List.getElem?_set_ne hji]; exact hc j hj⟩) (by simp) (by simp)
    refine ⟨e', h', k1, by rw [k2, hh1, H.n_put], fun d hd => by rw [k3 d hd, hh1, get_put_ne hd], ?_, ?_, ?_⟩
    · rw [k4]; simp
    · rw [k5]; simp
    · rw [k6]; simp

/-- The program's decoder and the reference's, alike. -/
structure DTwo (h : H) (n p q at_ : Nat) (rest : List Nat) (code rng : Nat) : Prop where
  d : ∃ v, DecAt h (fun c => c = p ∨ c = q) p v rest code rng
  r : RefAt h (fun c => c = p ∨ c = q) q at_ rest code rng
  ne : p ≠ q
  np : n ≤ p
  nq : n ≤ q
  lp : p < h.n
  lq : q < h.n
theorem DecAt.keep {h h' : H} {X : Nat → Prop} {p : Nat} {v : V} {rest : List Nat} {code rng : Nat} (a : DecAt h X p v rest code rng) (hk : ∀ c, c < h.n → (c = p ∨ ¬ X c) → h'.get c = h.get c) : DecAt h' X p v rest code rng :=
  ⟨by rw [hk p (H.get_lt a.cell) (.inl rfl), a.cell], a.own, a.sl.keep fun b hb hX => hk b hb (.inr hX), a.byte⟩
theorem RefAt.keep {h h' : H} {X : Nat → Prop} {p at_ : Nat} {rest : List Nat} {code rng : Nat} (a : RefAt h X p at_ rest code rng) (hk : ∀ c, c < h.n → (c = p ∨ ¬ X c) → h'.get c = h.get c) : RefAt h' X p at_ rest code rng := by
  obtain ⟨⟨v, B, h1, h2, h3, h4⟩, h5, h6⟩ := a
  exact ⟨⟨v, B, by rw [hk p (H.get_lt h1) (.inl rfl), h1], h2.keep fun b hb hX => hk b hb (.inr hX), h3, h4⟩, h5, h6⟩
theorem DTwo.keep {h h' : H} {n p q at_ : Nat} {rest : List Nat} {code rng : Nat} (a : DTwo h n p q at_ rest code rng) (hk : ∀ c, c < h.n → h'.get c = h.get c) (hn : h.n ≤ h'.n) : DTwo h' n p q at_ rest code rng := by
  obtain ⟨⟨v, a1⟩, a2, a3, a4, a5, a6, a7⟩ := a
  exact ⟨⟨v, a1.keep fun c hc _ => hk c hc⟩, a2.keep fun c hc _ => hk c hc, a3, a4, a5, by omega, by omega⟩

theorem dtwo_take {h : H} {n p q at_ : Nat} {rest : List Nat} {code rng : Nat} (a : DTwo h n p q at_ rest code rng) (inv : DInv code rng) (far : at_ + 3 < 4611686018427387904) (lo hi : Nat) :
    ∃ r h1 h2 at' rest' code' rng', KK 24 [.ptr p 0, .int .u32 lo, .int .u32 hi] h = some (.ret (.int .i64 r), h1) ∧ KK 25 [.ptr q 0, .int .u32 lo, .int .u32 hi] h1 = some (.ret (.int .i64 r), h2) ∧
      DTwo h2 n p q at' rest' code' rng' ∧ DInv code' rng' ∧ at' ≤ at_ + 3 ∧ h1.n = h.n ∧ h2.n = h.n ∧ (∀ c, c ≠ p → h1.get c = h.get c) ∧ (∀ c, c ≠ q → h2.get c = h1.get c) := by
  obtain ⟨⟨v, a1⟩, a2, a3, a4, a5, a6, a7⟩ := a
  by_cases hc : lo ≤ value code rng ∧ value code rng < hi ∧ hi ≤ 32768
  · obtain ⟨h1, v1, k1, k2, k3⟩ := take24_ok a1 inv hc.1 hc.2.1 hc.2.2
    have a2' : RefAt h1 (fun c => c = p ∨ c = q) q at_ rest code rng := a2.keep fun c hc hx => k3.2 c (by rcases hx with rfl | hx; exact fun e => a3 e.symm; exact fun e => hx (.inl e))
    obtain ⟨h2, at', l1, l2, l3, l4⟩ := take25_ok a2' far inv hc.1 hc.2.1 hc.2.2
    have k2' := k2.keep (h' := h2) fun c hc hx => l4.2 c (by rcases hx with rfl | hx; exact a3; exact fun e => hx (.inr e))
    have hti := take_inv inv hc.1 hc.2.1 hc.2.2 a1.byte
    exact ⟨0, h1, h2, at', _, _, _, k1, l1, ⟨⟨v1, k2'⟩, l3, a3, a4, a5, by rw [l4.1, k3.1]; exact a6, by rw [l4.1, k3.1]; exact a7⟩, hti.1, l2, k3.1, by rw [l4.1, k3.1], k3.2, l4.2⟩
  · exact ⟨2, h, h, at_, rest, code, rng, take24_no a1 inv hc, take25_no a2 inv hc, ⟨⟨v, a1⟩, a2, a3, a4, a5, a6, a7⟩, inv, by omega, rfl, rfl, fun _ _ => rfl, fun _ _ => rfl⟩
end Go.Proofs.Ytpikblkbeoophaa
