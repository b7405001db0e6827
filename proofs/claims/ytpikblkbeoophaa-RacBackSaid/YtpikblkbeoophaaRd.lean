/- Put, of both encoders. -/
import Derived.Test.YtpikblkbeoophaaRc
set_option linter.unusedVariables false
set_option linter.unusedSimpArgs false
namespace Go.Proofs.Ytpikblkbeoophaa
open Go Go.Zf

/-- What changes is an encoder's own: its cells, its bytes; its new bytes are the old ones or lie in a new block. -/
structure Own (h h' : H) (p : Nat) (v v' : V) : Prop where
  fr : Fram h h' (fp p v)
  nw : v' = v ∨ ∀ c o n k, v' = .sl c o n k → h.n ≤ c
theorem Own.refl (h : H) (p : Nat) (v : V) : Own h h p v v := ⟨⟨Nat.le_refl _, fun _ _ _ => rfl⟩, .inl rfl⟩
theorem Own.trans {h h1 h2 : H} {p : Nat} {v v1 v2 : V} (a : Own h h1 p v v1) (b : Own h1 h2 p v1 v2) : Own h h2 p v v2 := by
  refine ⟨⟨Nat.le_trans a.fr.1 b.fr.1, fun c hc hs => ?_⟩, ?_⟩
  · have h1n := a.fr.1
    rw [b.fr.2 c (by omega) ?_, a.fr.2 c hc hs]
    rintro (e | ⟨o, n, k, e⟩)
    · exact hs (.inl e)
    · rcases a.nw with e1 | e1
      · exact hs (.inr ⟨o, n, k, by rw [← e1, e]⟩)
      · have := e1 c o n k e; omega
  · have h1n := a.fr.1
    rcases b.nw with e | e
    · rw [e]; exact a.nw
    · exact .inr fun c o n k e1 => by have := e c o n k e1; omega

def renorm : Nat → List Nat → Nat → Nat → List Nat × Nat × Nat
  | 0, out, low, wide => (out, low, wide)
  | n + 1, out, low, wide => if wide < 16777216 then renorm n (emit out low).1 (emit out low).2 (wide * 256) else (out, low, wide)

theorem loop12 (p : Nat) (t : TypeId) (rng : V) : ∀ (n : Nat) (h : H) (v : V) (out : List Nat) (low wide : Nat) (e : E), EncAt h p t v out low rng → low < 8589934592 → 16777216 ≤ wide * 256 ^ n → wide < 4294967296 → out.length + n < 1099511627775 →
    e.s [0, 1, 2, 6, 7, 8] 0 = .ptr p 0 → e.s [0, 1, 2, 6, 7, 8] 8 = .int .u32 wide →
    ∃ e' h' v', loopZ (l12_0 KK loopZ) e h = some ⟨.ex 1, e', h'⟩ ∧ e'.s [0, 1, 2, 6, 7, 8] 0 = .ptr p 0 ∧ e'.s [0, 1, 2, 6, 7, 8] 8 = .int .u32 (renorm n out low wide).2.2 ∧
      EncAt h' p t v' (renorm n out low wide).1 (renorm n out low wide).2.1 rng ∧ Own h h' p v v'
  | n, h, v, out, low, wide, e, a, hlow, hw, hw32, hlen, he0, he8 => by
    by_cases hc : wide < 16777216
    · cases n with
      | zero => simp at hw; omega
      | succ n =>
        obtain ⟨h1, v1, k1, k2, k3, k4⟩ := shift_ok a (by omega) hlow
        have hm : IntKind.u32.wrap ((wide : Int) * 2 ^ (min 8 IntKind.u32.bits)) = ((wide * 256 : Nat) : Int) := by
          rw [show IntKind.u32.bits = 32 from rfl, w32 (by simp; omega) (by simp; omega)]; simp
        rw [loopZ_eq]
        simp [l12_0, he0, he8, show (wide : Int) ≤ 16777215 by omega, k1]
        rw [hm]
        obtain ⟨e', h', v', i1, i2, i3, i4, i5⟩ := loop12 p t rng n h1 v1 _ _ (wide * 256) ⟨[.ptr p 0, e.s [0, 1, 2, 6, 7, 8] 1, e.s [0, 1, 2, 6, 7, 8] 2, e.s [0, 1, 2, 6, 7, 8] 6, e.s [0, 1, 2, 6, 7, 8] 7, .int .u32 ((wide * 256 : Nat) : Int)], 8, .int .u32 ((wide * 256 : Nat) : Int)⟩ k2
          (by have := emit_lt out low; omega) (by rw [Nat.mul_assoc, ← Nat.pow_succ']; exact hw) (by omega) (by rw [emit_length]; omega) (by simp) (by simp)
        simp only [renorm, if_pos hc]
        exact ⟨e', h', i1, i2, i3, v', i4, (Own.trans ⟨k3, .inr k4⟩ i5)⟩
    · rw [loopZ_eq]
      simp [l12_0, he0, he8, show ¬ (wide : Int) ≤ 16777215 by omega]
      have hr : renorm n out low wide = (out, low, wide) := by cases n <;> simp [renorm, hc]
      rw [hr]
      exact ⟨_, _, ⟨rfl, rfl⟩, by simp, by simp, v, a, Own.refl _ _ _⟩

theorem loop13 (p : Nat) (t : TypeId) : ∀ (n : Nat) (h : H) (v : V) (out : List Nat) (low wide : Nat) (e : E), EncAt h p t v out low (.int .u64 wide) → low < 8589934592 → 16777216 ≤ wide * 256 ^ n → wide < 4294967296 → out.length + n < 1099511627775 →
    e.s [0, 1, 2, 6, 7, 8] 0 = .ptr p 0 →
    ∃ e' h' v', loopZ (l13_0 KK loopZ) e h = some ⟨.ex 0, e', h'⟩ ∧ e'.s [0, 1, 2, 6, 7, 8] 0 = .ptr p 0 ∧
      EncAt h' p t v' (renorm n out low wide).1 (renorm n out low wide).2.1 (.int .u64 (renorm n out low wide).2.2) ∧ Own h h' p v v'
  | n, h, v, out, low, wide, e, a, hlow, hw, hw32, hlen, he0 => by
    by_cases hc : wide < 16777216
    · cases n with
      | zero => simp at hw; omega
      | succ n =>
        obtain ⟨h1, v1, k1, k2, k3, k4⟩ := goes_ok a (by omega) hlow
        have hm : IntKind.u64.wrap ((wide : Int) * 256) = ((wide * 256 : Nat) : Int) := by
          rw [w64 (by omega) (by omega)]; simp
        have hw1 := fun v => wr1_of k2.cell (o := 2) (by simp) v
        have hp1 := H.get_lt k2.cell
        obtain ⟨h2, hh2⟩ : ∃ h2, h2 = h1.put p (.cells [v1, .int .u64 ((emit out low).2 : Int), .int .u64 ((wide * 256 : Nat) : Int)] t false) := ⟨_, rfl⟩
        have k5 : EncAt h2 p t v1 (emit out low).1 (emit out low).2 (.int .u64 ((wide * 256 : Nat) : Int)) := by
          refine ⟨by rw [hh2, get_put_same hp1], ?_, k2.byte, k2.low64⟩
          rcases k2.grow with g | ⟨b, g1, g2, g3⟩
          · exact .inl g
          · exact .inr ⟨b, g1, g2, by rw [hh2, get_put_ne (fun e => sl_ne k2.cell g3 (by simp [g1]) e.symm), g3]⟩
        have k6 : Own h h2 p v v1 := by
          refine ⟨⟨by rw [hh2, H.n_put]; exact k3.1, fun c hc hs => ?_⟩, .inr k4⟩
          rw [hh2, get_put_ne (fun e => hs (.inl e)), k3.2 c hc hs]
        rw [loopZ_eq]
        simp [l13_0, he0, rd1_of a.cell, show (wide : Int) < 16777216 by omega, k1, rd1_of k2.cell, hw1]
        rw [hm, ← hh2]
        obtain ⟨e', h', v', i1, i2, i4, i5⟩ := loop13 p t n h2 v1 _ _ (wide * 256) ⟨[.ptr p 0, e.s [0, 1, 2, 6, 7, 8] 1, e.s [0, 1, 2, 6, 7, 8] 2, e.s [0, 1, 2, 6, 7, 8] 6, e.s [0, 1, 2, 6, 7, 8] 7, e.s [0, 1, 2, 6, 7, 8] 8], 0, .ptr p 0⟩ k5
          (by have := emit_lt out low; omega) (by rw [Nat.mul_assoc, ← Nat.pow_succ']; exact hw) (by omega) (by rw [emit_length]; omega) (by simp)
        simp only [renorm, if_pos hc]
        exact ⟨e', h', i1, i2, v', i4, k6.trans i5⟩
    · rw [loopZ_eq]
      simp [l13_0, he0, rd1_of a.cell, show ¬ (wide : Int) < 16777216 by omega]
      have hr : renorm n out low wide = (out, low, wide) := by cases n <;> simp [renorm, hc]
      rw [hr]
      exact ⟨_, _, ⟨rfl, rfl⟩, by simp, v, a, Own.refl _ _ _⟩

def part (rng lo hi : Nat) : Nat × Nat := (rng / 32768 * lo, if hi = 32768 then rng - rng / 32768 * lo else rng / 32768 * (hi - lo))
theorem part_bounds {rng lo hi : Nat} (h0 : 16777216 ≤ rng) (h1 : rng < 4294967296) (h2 : lo < hi) (h3 : hi ≤ 32768) :
    (part rng lo hi).1 + (part rng lo hi).2 ≤ rng ∧ 512 ≤ (part rng lo hi).2 := by
  unfold part
  have hq : 512 ≤ rng / 32768 := by omega
  have hq2 : rng / 32768 * 32768 ≤ rng := by omega
  generalize rng / 32768 = q at *
  have m1 : q * lo + q * (hi - lo) ≤ q * 32768 := by rw [← Nat.mul_add]; exact Nat.mul_le_mul_left _ (by omega)
  have m2 : q * 1 ≤ q * (hi - lo) := Nat.mul_le_mul_left _ (by omega)
  split
  · subst_vars; constructor <;> simp only <;> omega
  · constructor <;> simp only <;> omega
/-- What low and range of an encoder are at any time. -/
def EInv (low rng : Nat) : Prop := 16777216 ≤ rng ∧ rng < 4294967296 ∧ low + rng < 8589934592
theorem renorm_inv : ∀ {n : Nat} {out : List Nat} {low wide : Nat}, 16777216 ≤ wide * 256 ^ n → wide < 4294967296 → low + wide < 8589934592 →
    EInv (renorm n out low wide).2.1 (renorm n out low wide).2.2 ∧ (renorm n out low wide).1.length ≤ out.length + n
  | 0, out, low, wide, h1, h2, h3 => ⟨⟨by simpa [renorm] using h1, h2, h3⟩, Nat.le_refl _⟩
  | n + 1, out, low, wide, h1, h2, h3 => by
    unfold renorm
    split
    · have hl : (emit out low).2 ≤ 4294967040 := by unfold emit; split <;> simp <;> omega
      have := renorm_inv (n := n) (out := (emit out low).1) (low := (emit out low).2) (wide := wide * 256) (by rw [Nat.mul_assoc, ← Nat.pow_succ']; exact h1) (by omega) (by omega)
      refine ⟨this.1, ?_⟩
      have := this.2; rw [emit_length] at this; omega
    · rename_i hc
      exact ⟨⟨by show _ ≤ wide; omega, h2, h3⟩, by simp⟩

def put (out : List Nat) (low rng lo hi : Nat) : List Nat × Nat × Nat := renorm 3 out (low + (part rng lo hi).1) (part rng lo hi).2
theorem put_inv {out : List Nat} {low rng lo hi : Nat} (hi0 : EInv low rng) (h2 : lo < hi) (h3 : hi ≤ 32768) :
    EInv (put out low rng lo hi).2.1 (put out low rng lo hi).2.2 ∧ (put out low rng lo hi).1.length ≤ out.length + 3 := by
  obtain ⟨a, b, c⟩ := hi0
  obtain ⟨m1, m2⟩ := part_bounds a b h2 h3
  exact renorm_inv (by omega) (by omega) (by omega)

/-- The program's encoder, with its range. -/
theorem put12_ok {h : H} {p : Nat} {t : TypeId} {v : V} {out : List Nat} {low rng lo hi : Nat} (a : EncAt h p t v out low (.int .u32 rng)) (inv : EInv low rng) (hlen : out.length < 1099511627000) (h2 : lo < hi) (h3 : hi ≤ 32768) :
    ∃ h' v', KK 12 [.ptr p 0, .int .u32 lo, .int .u32 hi] h = some (.ret (.int .i64 0), h') ∧
      EncAt h' p t v' (put out low rng lo hi).1 (put out low rng lo hi).2.1 (.int .u32 (put out low rng lo hi).2.2) ∧ Own h h' p v v' := by
  obtain ⟨i1, i2, i3⟩ := inv
  obtain ⟨m1, m2⟩ := part_bounds i1 i2 h2 h3
  have hpl := H.get_lt a.cell
  have hna := narrow_ok rng lo hi (by omega) (by omega) (by omega) (by omega) (by omega) h
  obtain ⟨at_, hat⟩ : ∃ x, x = (part rng lo hi).1 := ⟨_, rfl⟩
  obtain ⟨wd, hwd⟩ : ∃ x, x = (part rng lo hi).2 := ⟨_, rfl⟩
  have e1 : (rng : Int) / 32768 * lo = (at_ : Int) := by rw [hat, part]; simp
  have e2 : (if (hi : Int) = 32768 then (rng : Int) - rng / 32768 * lo else rng / 32768 * (hi - lo)) = (wd : Int) := by
    rw [hwd, part]
    have := m1; rw [part] at this
    by_cases hc : hi = 32768
    · have hc' : (hi : Int) = 32768 := by omega
      simp only [if_pos hc, if_pos hc'] at *
      rw [Int.natCast_sub (by omega)]; simp
    · have hc' : ¬ (hi : Int) = 32768 := by omega
      simp only [if_neg hc, if_neg hc']
      rw [Int.natCast_mul, Int.natCast_sub (by omega)]; simp
  rw [← hat, ← hwd] at m1
  rw [← hwd] at m2
  rw [e2, e1] at hna
  have hw1 := fun v => wr1_of a.cell (o := 1) (by simp) v
  obtain ⟨h1, hh1⟩ : ∃ h1, h1 = h.put p (.cells [v, .int .u64 ((low : Int) + at_), .int .u32 rng] t false) := ⟨_, rfl⟩
  have a1 : EncAt h1 p t v out (low + at_) (.int .u32 rng) := by
    refine ⟨by rw [hh1, get_put_same hpl]; simp, ?_, a.byte, by omega⟩
    rcases a.grow with g | ⟨b, g1, g2, g3⟩
    · exact .inl g
    · exact .inr ⟨b, g1, g2, by rw [hh1, get_put_ne (fun e => sl_ne a.cell g3 (by simp [g1]) e.symm), g3]⟩
  have o1 : Own h h1 p v v := ⟨⟨by rw [hh1, H.n_put]; exact Nat.le_refl _, fun c hc hs => by rw [hh1, get_put_ne fun e => hs (.inl e)]⟩, .inl rfl⟩
  have ml : IntKind.u64.wrap ((low : Int) + at_) = (low : Int) + at_ := w64 (by omega) (by omega)
  have ma : IntKind.u64.wrap (at_ : Int) = at_ := w64 (by omega) (by omega)
  obtain ⟨e', h', v', k1, k2, k3, k4, k5⟩ := loop12 p t (.int .u32 rng) 3 h1 v out (low + at_) wd ⟨[.ptr p 0, .int .u32 lo, .int .u32 hi, .int .i64 0, .int .u32 at_, .int .u32 wd], 0, .ptr p 0⟩ a1 (by omega) (by omega) (by omega) (by omega) (by simp) (by simp)
  have hput : put out low rng lo hi = renorm 3 out (low + at_) wd := by rw [put, ← hat, ← hwd]
  rw [hput]
  have hpl' := H.get_lt k4.cell
  obtain ⟨r, hr⟩ : ∃ r, r = renorm 3 out (low + at_) wd := ⟨_, rfl⟩
  rw [← hr] at k3 k4 ⊢
  have hw3 := fun v => wr1_of k4.cell (o := 2) (by simp) v
  refine ⟨h'.put p (.cells [v', .int .u64 r.2.1, .int .u32 r.2.2] t false), v', ?_, ⟨get_put_same hpl', ?_, k4.byte, k4.low64⟩, o1.trans (k5.trans ⟨⟨by rw [H.n_put]; exact Nat.le_refl _, fun c hc hs => by rw [get_put_ne fun e => hs (.inl e)]⟩, .inl rfl⟩)⟩
  · rw [KK, c12, f12, s12]
    simp only [u32] at hna
    have hz : ¬ (rng = 0) := by omega
    have hz' : ¬ (hi ≤ lo) := by omega
    have hz'' : ¬ (32768 < hi) := by omega
    have hz1 : ¬ ((hi : Int) ≤ lo) := by omega
    have hz2 : ¬ ((32768 : Int) < hi) := by omega
    simp [rd1_of a.cell, hz, hz1, hz2, hz', hz'', hna, hw1, ma, ml, ← hh1, k1, k2, k3, hw3]
  · rcases k4.grow with g | ⟨b, g1, g2, g3⟩
    · exact .inl g
    · exact .inr ⟨b, g1, g2, by rw [get_put_ne (fun e => sl_ne k4.cell g3 (by simp [g1]) e.symm), g3]⟩

theorem part30_ok {rng lo hi : Nat} (h0 : 16777216 ≤ rng) (h1 : rng < 4294967296) (h2 : lo < hi) (h3 : hi ≤ 32768) (h : H) :
    KK 30 [.int .u64 rng, .int .u32 lo, .int .u32 hi] h = some (.ret (.tup [.int .u64 (part rng lo hi).1, .int .u64 (part rng lo hi).2]), h) := by
  obtain ⟨m1, m2⟩ := part_bounds h0 h1 h2 h3
  unfold part at *
  have hq : rng / 32768 < 131072 := by omega
  have e0 : (rng : Int).tdiv 32768 = ((rng / 32768 : Nat) : Int) := by rw [Int.tdiv_eq_ediv_of_nonneg (by omega)]; rfl
  obtain ⟨q, hqq⟩ : ∃ q, q = rng / 32768 := ⟨_, rfl⟩
  rw [← hqq] at m1 m2 e0 hq ⊢
  have n1 : q * lo ≤ q * 32768 := Nat.mul_le_mul_left _ (by omega)
  have n2 : q * (hi - lo) ≤ q * 32768 := Nat.mul_le_mul_left _ (by omega)
  have w0 : IntKind.u64.wrap (q : Int) = q := w64 (by omega) (by omega)
  have c1 : (q : Int) * lo = ((q * lo : Nat) : Int) := (Int.natCast_mul q lo).symm
  have w1 : IntKind.u64.wrap ((q : Int) * lo) = (q : Int) * lo := by rw [c1]; exact w64 (by omega) (by omega)
  have w2 : IntKind.u64.wrap (lo : Int) = lo := w64 (by omega) (by omega)
  rw [KK, c30, f30, s30]
  by_cases hc : hi = 32768
  · subst hc
    simp only [if_true] at m1 m2 ⊢
    have w3 : IntKind.u64.wrap ((rng : Int) - (q : Int) * lo) = (rng : Int) - (q : Int) * lo := by rw [c1]; exact w64 (by omega) (by omega)
    have w4 : ((rng - q * lo : Nat) : Int) = (rng : Int) - (q : Int) * lo := by rw [c1]; omega
    simp [e0, w0, w1, w2, w3, w4]
  · have hc' : ¬ (hi : Int) = 32768 := by omega
    have w3 : IntKind.u32.wrap ((hi : Int) - lo) = ((hi - lo : Nat) : Int) := by rw [w32 (by omega) (by omega)]; omega
    have w5 : IntKind.u64.wrap ((hi - lo : Nat) : Int) = ((hi - lo : Nat) : Int) := w64 (by omega) (by omega)
    have w4 : IntKind.u64.wrap ((q : Int) * ((hi - lo : Nat) : Int)) = (q : Int) * ((hi - lo : Nat) : Int) := by
      rw [← Int.natCast_mul]; exact w64 (by omega) (by omega)
    obtain ⟨d, hd⟩ : ∃ d, d = hi - lo := ⟨_, rfl⟩
    rw [← hd] at w3 w4 w5 ⊢
    simp [e0, w0, w1, w2, w3, w4, w5, hc, hc']

/-- The reference's encoder. -/
theorem put13_ok {h : H} {p : Nat} {t : TypeId} {v : V} {out : List Nat} {low rng lo hi : Nat} (a : EncAt h p t v out low (.int .u64 rng)) (inv : EInv low rng) (hlen : out.length < 1099511627000) (h2 : lo < hi) (h3 : hi ≤ 32768) :
    ∃ h' v', KK 13 [.ptr p 0, .int .u32 lo, .int .u32 hi] h = some (.ret (.int .i64 0), h') ∧
      EncAt h' p t v' (put out low rng lo hi).1 (put out low rng lo hi).2.1 (.int .u64 (put out low rng lo hi).2.2) ∧ Own h h' p v v' := by
  obtain ⟨i1, i2, i3⟩ := inv
  obtain ⟨m1, m2⟩ := part_bounds i1 i2 h2 h3
  have hpl := H.get_lt a.cell
  have hna := part30_ok i1 i2 h2 h3 h
  obtain ⟨at_, hat⟩ : ∃ x, x = (part rng lo hi).1 := ⟨_, rfl⟩
  obtain ⟨wd, hwd⟩ : ∃ x, x = (part rng lo hi).2 := ⟨_, rfl⟩
  rw [← hat, ← hwd] at m1 hna
  rw [← hwd] at m2
  have hw1 := fun v => wr1_of a.cell (o := 1) (by simp) v
  obtain ⟨h0, hh0⟩ : ∃ h0, h0 = h.put p (.cells [v, .int .u64 ((low : Int) + at_), .int .u64 rng] t false) := ⟨_, rfl⟩
  have hc0 : h0.get p = some (.cells [v, .int .u64 ((low : Int) + at_), .int .u64 rng] t false) := by rw [hh0, get_put_same hpl]
  have hw2 := fun v => wr1_of hc0 (o := 2) (by simp) v
  obtain ⟨h1, hh1⟩ : ∃ h1, h1 = h0.put p (.cells [v, .int .u64 ((low : Int) + at_), .int .u64 wd] t false) := ⟨_, rfl⟩
  have a1 : EncAt h1 p t v out (low + at_) (.int .u64 wd) := by
    refine ⟨by rw [hh1, get_put_same (H.get_lt hc0)]; simp, ?_, a.byte, by omega⟩
    rcases a.grow with g | ⟨b, g1, g2, g3⟩
    · exact .inl g
    · have := fun e => sl_ne a.cell g3 (by simp [g1]) (Eq.symm e)
      exact .inr ⟨b, g1, g2, by rw [hh1, get_put_ne this, hh0, get_put_ne this, g3]⟩
  have o1 : Own h h1 p v v := ⟨⟨by rw [hh1, H.n_put, hh0, H.n_put]; exact Nat.le_refl _, fun c hc hs => by rw [hh1, get_put_ne fun e => hs (.inl e), hh0, get_put_ne fun e => hs (.inl e)]⟩, .inl rfl⟩
  have ml : IntKind.u64.wrap ((low : Int) + at_) = (low : Int) + at_ := w64 (by omega) (by omega)
  obtain ⟨e', h', v', k1, k2, k4, k5⟩ := loop13 p t 3 h1 v out (low + at_) wd ⟨[.ptr p 0, .int .u32 lo, .int .u32 hi, .int .i64 0, .int .u64 at_, .int .u64 wd], 0, .ptr p 0⟩ a1 (by omega) (by omega) (by omega) (by omega) (by simp)
  have hput : put out low rng lo hi = renorm 3 out (low + at_) wd := by rw [put, ← hat, ← hwd]
  rw [hput]
  refine ⟨h', v', ?_, k4, o1.trans k5⟩
  rw [KK, c13, f13, s13]
  have hz1 : ¬ ((hi : Int) ≤ lo) := by omega
  have hz2 : ¬ ((32768 : Int) < hi) := by omega
  have hz' : ¬ (hi ≤ lo) := by omega
  have hz'' : ¬ (32768 < hi) := by omega
  simp [rd1_of a.cell, hz1, hz2, hz', hz'', hna, hw1, ml, ← hh0, hw2, ← hh1, k1, k2]
end Go.Proofs.Ytpikblkbeoophaa
