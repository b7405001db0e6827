/- The decoders: Value, Take. -/
import Derived.Test.YtpikblkbeoophaaRh
set_option linter.unusedVariables false
set_option linter.unusedSimpArgs false
namespace Go.Proofs.Ytpikblkbeoophaa
open Go Go.Zf

theorem value21_ok {h : H} {X : Nat → Prop} {p : Nat} {v : V} {rest : List Nat} {code rng : Nat} (a : DecAt h X p v rest code rng) (inv : DInv code rng) :
    KK 21 [.ptr p 0] h = some (.ret (.tup [.int .u32 (value code rng), .int .i64 0]), h) := by
  have h1 := value35_ok a inv
  have hz : ¬ (rng = 0) := by have := inv.1; omega
  rw [KK, c21, f21, s21]
  simp [rd1_of a.cell, hz, h1]

theorem value22_ok {h : H} {X : Nat → Prop} {p at_ : Nat} {rest : List Nat} {code rng : Nat} (a : RefAt h X p at_ rest code rng) (inv : DInv code rng) :
    KK 22 [.ptr p 0] h = some (.ret (.tup [.int .u32 (value code rng), .int .i64 0]), h) := by
  obtain ⟨⟨v, B, hp, hs, hr, hB⟩, hX, far⟩ := a
  obtain ⟨i1, i2, i3⟩ := inv
  have e1 : (rng : Int).tdiv 32768 = ((rng / 32768 : Nat) : Int) := by rw [Int.tdiv_eq_ediv_of_nonneg (by omega)]; rfl
  obtain ⟨q, hq⟩ : ∃ q, q = rng / 32768 := ⟨_, rfl⟩
  have hq0 : ¬ (q = 0) := by omega
  have e2 : (code : Int).tdiv (q : Int) = ((code / q : Nat) : Int) := by rw [Int.tdiv_eq_ediv_of_nonneg (by omega)]; rfl
  have hle : code / q ≤ code := Nat.div_le_self _ _
  rw [← hq] at e1
  rw [value, ← hq]
  obtain ⟨x, hx⟩ : ∃ x, x = code / q := ⟨_, rfl⟩
  rw [← hx] at e2 hle ⊢
  have e3 : IntKind.u64.wrap (x : Int) = x := w64 (by omega) (by omega)
  have e5 : IntKind.u64.wrap (q : Int) = q := w64 (by omega) (by omega)
  have e4 : minV [.int .u64 (x : Int), .int .u64 32767] = some (.int .u64 ((min x 32767 : Nat) : Int)) := by
    simp [minV, foldV, min2V]
    split <;> omega
  obtain ⟨y, hy⟩ : ∃ y, y = min x 32767 := ⟨_, rfl⟩
  have hyl : y ≤ 32767 := by omega
  rw [← hy] at e4 ⊢
  have e6 : IntKind.u32.wrap (y : Int) = y := w32 (by omega) (by omega)
  rw [KK, c22, f22, s22]
  simp [rd1_of hp, e1, hq0, e2, e3, e4, e5, e6]

def take (rest : List Nat) (code rng lo hi : Nat) : List Nat × Nat × Nat := drenorm 3 rest (code - (part rng lo hi).1) (part rng lo hi).2

theorem take_part {code rng lo hi : Nat} (inv : DInv code rng) (h1 : lo ≤ value code rng) (h2 : value code rng < hi) (h3 : hi ≤ 32768) :
    (part rng lo hi).1 ≤ code ∧ code - (part rng lo hi).1 < (part rng lo hi).2 := by
  obtain ⟨i1, i2, i3⟩ := inv
  unfold value at h1 h2
  unfold part
  have hq : 512 ≤ rng / 32768 := by omega
  have hq2 : rng / 32768 * 32768 ≤ rng := by omega
  generalize rng / 32768 = q at *
  have d1 : q * (code / q) ≤ code := Nat.mul_div_le _ _
  have d2 : q * lo ≤ q * (code / q) := Nat.mul_le_mul_left _ (by omega)
  refine ⟨by simp only; omega, ?_⟩
  simp only
  split
  · omega
  · have h4 : code / q < hi := by omega
    have d3 : code < q * hi := by rw [Nat.mul_comm]; exact (Nat.div_lt_iff_lt_mul (by omega)).mp h4
    rw [Nat.mul_sub]
    omega

theorem drenorm_inv : ∀ {n : Nat} {rest : List Nat} {code wide : Nat}, 16777216 ≤ wide * 256 ^ n → wide < 4294967296 → code < wide → (∀ x ∈ rest, x < 256) →
    DInv (drenorm n rest code wide).2.1 (drenorm n rest code wide).2.2 ∧ ∀ x ∈ (drenorm n rest code wide).1, x < 256
  | 0, rest, code, wide, h1, h2, h3, h4 => ⟨⟨by simpa [drenorm] using h1, h2, h3⟩, h4⟩
  | n + 1, rest, code, wide, h1, h2, h3, h4 => by
    unfold drenorm
    split
    · have := headD_lt h4
      exact drenorm_inv (by rw [Nat.mul_assoc, ← Nat.pow_succ']; exact h1) (by omega) (by omega) fun x hx => h4 x (List.mem_of_mem_tail hx)
    · exact ⟨⟨by simp only; omega, h2, h3⟩, h4⟩
theorem take_inv {rest : List Nat} {code rng lo hi : Nat} (inv : DInv code rng) (h1 : lo ≤ value code rng) (h2 : value code rng < hi) (h3 : hi ≤ 32768) (hb : ∀ x ∈ rest, x < 256) :
    DInv (take rest code rng lo hi).2.1 (take rest code rng lo hi).2.2 ∧ ∀ x ∈ (take rest code rng lo hi).1, x < 256 := by
  obtain ⟨m1, m2⟩ := part_bounds inv.1 inv.2.1 (by omega : lo < hi) h3
  have := inv.2.1
  exact drenorm_inv (by omega) (by omega) (take_part inv h1 h2 h3).2 hb

theorem take24_ok {h : H} {X : Nat → Prop} {p : Nat} {v : V} {rest : List Nat} {code rng lo hi : Nat} (a : DecAt h X p v rest code rng) (inv : DInv code rng) (h1 : lo ≤ value code rng) (h2 : value code rng < hi) (h3 : hi ≤ 32768) :
    ∃ h' v', KK 24 [.ptr p 0, .int .u32 lo, .int .u32 hi] h = some (.ret (.int .i64 0), h') ∧
      DecAt h' X p v' (take rest code rng lo hi).1 (take rest code rng lo hi).2.1 (take rest code rng lo hi).2.2 ∧ Only h h' p := by
  have hv := value35_ok a inv
  obtain ⟨t1, t2⟩ := take_part inv h1 h2 h3
  obtain ⟨i1, i2, i3⟩ := inv
  obtain ⟨m1, m2⟩ := part_bounds i1 i2 (by omega : lo < hi) h3
  have hna := narrow_ok rng lo hi (by omega) (by omega) (by omega) (by omega) (by omega) h
  obtain ⟨vl, hvl⟩ : ∃ x, x = value code rng := ⟨_, rfl⟩
  rw [← hvl] at hv h1 h2
  obtain ⟨at_, hat⟩ : ∃ x, x = (part rng lo hi).1 := ⟨_, rfl⟩
  obtain ⟨wd, hwd⟩ : ∃ x, x = (part rng lo hi).2 := ⟨_, rfl⟩
  have e1 : (rng : Int) / 32768 * lo = (at_ : Int) := by rw [hat, part]; simp
  have e2 : (if (hi : Int) = 32768 then (rng : Int) - rng / 32768 * lo else rng / 32768 * (hi - lo)) = (wd : Int) := by
    rw [hwd, part]
    have := m1; rw [part] at this
    by_cases hc : hi = 32768
    · have hc' : (hi : Int) = 32768 := by omega
      simp only [if_pos hc, if_pos hc'] at *
      rw [Int.natCast_sub (by omega)]; simp
    · have hc' : ¬ (hi : Int) = 32768 := by omega
      simp only [if_neg hc, if_neg hc']
      rw [Int.natCast_mul, Int.natCast_sub (by omega)]; simp
  rw [← hat, ← hwd] at m1 t2
  rw [← hwd] at m2
  rw [← hat] at t1
  rw [e2, e1] at hna
  have htk : take rest code rng lo hi = drenorm 3 rest (code - at_) wd := by rw [take, ← hat, ← hwd]
  obtain ⟨cd, hcd⟩ : ∃ x, x = code - at_ := ⟨_, rfl⟩
  rw [← hcd] at t2 htk
  have mc : IntKind.u32.wrap ((code : Int) - at_) = (cd : Int) := by rw [w32 (by omega) (by omega)]; omega
  have hw1 := fun v => wr1_of a.cell (o := 1) (by simp) v
  obtain ⟨h1', hh1⟩ : ∃ h1, h1 = h.put p (.cells [v, .int .u32 (cd : Int), .int .u32 rng] 54 false) := ⟨_, rfl⟩
  have o1 : Only h h1' p := by rw [hh1]; exact Only.put _ _ _
  have a1 : DecAt h1' X p v rest cd rng := ⟨by rw [hh1]; exact get_put_same (H.get_lt a.cell), a.own, a.sl.only o1 a.own, a.byte⟩
  obtain ⟨e', h', v', k1, k2, k3, k4, k5⟩ := loop24 X p rng 3 h1' v rest cd wd ⟨[.ptr p 0, .int .u32 lo, .int .u32 hi, .int .i64 0, .int .u32 vl, .int .u32 at_, .int .u32 wd], 0, .ptr p 0⟩ a1 (by omega) (by omega) (by omega) (by simp) (by simp)
  rw [htk]
  obtain ⟨r, hr⟩ : ∃ r, r = drenorm 3 rest cd wd := ⟨_, rfl⟩
  rw [← hr] at k3 k4 ⊢
  have hw3 := fun v => wr1_of k4.cell (o := 2) (by simp) v
  have o3 := Only.put h' p (.cells [v', .int .u32 r.2.1, .int .u32 r.2.2] 54 false)
  refine ⟨h'.put p (.cells [v', .int .u32 r.2.1, .int .u32 r.2.2] 54 false), v', ?_, ⟨get_put_same (H.get_lt k4.cell), k4.own, k4.sl.only o3 k4.own, k4.byte⟩, o1.trans (k5.trans o3)⟩
  rw [KK, c24, f24, s24]
  simp only [u32] at hna
  have hz : ¬ (rng = 0) := by omega
  have z1 : ¬ ((vl : Int) < lo) := by omega
  have z1' : ¬ (vl < lo) := by omega
  have z2 : ¬ ((hi : Int) ≤ vl) := by omega
  have z2' : ¬ (hi ≤ vl) := by omega
  have z3 : ¬ ((32768 : Int) < hi) := by omega
  have z3' : ¬ (32768 < hi) := by omega
  simp [rd1_of a.cell, hz, hv, z1, z1', z2, z2', z3, z3', hna, hw1, mc, ← hh1, k1, k2, k3, hw3]

theorem take24_no {h : H} {X : Nat → Prop} {p : Nat} {v : V} {rest : List Nat} {code rng lo hi : Nat} (a : DecAt h X p v rest code rng) (inv : DInv code rng) (no : ¬ (lo ≤ value code rng ∧ value code rng < hi ∧ hi ≤ 32768)) :
    KK 24 [.ptr p 0, .int .u32 lo, .int .u32 hi] h = some (.ret (.int .i64 2), h) := by
  have hv := value35_ok a inv
  obtain ⟨i1, i2, i3⟩ := inv
  obtain ⟨vl, hvl⟩ : ∃ x, x = value code rng := ⟨_, rfl⟩
  rw [← hvl] at hv no
  have hz : ¬ (rng = 0) := by omega
  rw [KK, c24, f24, s24]
  by_cases c1 : vl < lo
  · have c1' : (vl : Int) < lo := by omega
    simp [rd1_of a.cell, hz, hv, c1, c1']
  · have c1' : ¬ ((vl : Int) < lo) := by omega
    by_cases c2 : hi ≤ vl
    · have c2' : (hi : Int) ≤ vl := by omega
      simp [rd1_of a.cell, hz, hv, c1, c1', c2, c2']
    · have c2' : ¬ ((hi : Int) ≤ vl) := by omega
      have c3 : 32768 < hi := by omega
      have c3' : (32768 : Int) < hi := by omega
      simp [rd1_of a.cell, hz, hv, c1, c1', c2, c2', c3, c3']

theorem take25_ok {h : H} {X : Nat → Prop} {p at_ : Nat} {rest : List Nat} {code rng lo hi : Nat} (a : RefAt h X p at_ rest code rng) (far : at_ + 3 < 4611686018427387904) (inv : DInv code rng) (h1 : lo ≤ value code rng) (h2 : value code rng < hi) (h3 : hi ≤ 32768) :
    ∃ h' at', KK 25 [.ptr p 0, .int .u32 lo, .int .u32 hi] h = some (.ret (.int .i64 0), h') ∧ at' ≤ at_ + 3 ∧
      RefAt h' X p at' (take rest code rng lo hi).1 (take rest code rng lo hi).2.1 (take rest code rng lo hi).2.2 ∧ Only h h' p := by
  have hv := value22_ok a inv
  obtain ⟨⟨v, B, hp, hs, hr, hB⟩, hX, far0⟩ := a
  obtain ⟨t1, t2⟩ := take_part inv h1 h2 h3
  obtain ⟨i1, i2, i3⟩ := inv
  obtain ⟨m1, m2⟩ := part_bounds i1 i2 (by omega : lo < hi) h3
  have hna := part30_ok i1 i2 (by omega : lo < hi) h3 h
  obtain ⟨vl, hvl⟩ : ∃ x, x = value code rng := ⟨_, rfl⟩
  rw [← hvl] at hv h1 h2
  have htk : take rest code rng lo hi = drenorm 3 rest (code - (part rng lo hi).1) (part rng lo hi).2 := rfl
  obtain ⟨ax, hat⟩ : ∃ x, x = (part rng lo hi).1 := ⟨_, rfl⟩
  obtain ⟨wd, hwd⟩ : ∃ x, x = (part rng lo hi).2 := ⟨_, rfl⟩
  rw [← hat, ← hwd] at m1 t2 hna htk
  rw [← hwd] at m2
  rw [← hat] at t1
  obtain ⟨cd, hcd⟩ : ∃ x, x = code - ax := ⟨_, rfl⟩
  rw [← hcd] at t2 htk
  have mc : IntKind.u64.wrap ((code : Int) - ax) = (cd : Int) := by rw [w64 (by omega) (by omega)]; omega
  have hw1 := fun v => wr1_of hp (o := 2) (by simp) v
  obtain ⟨h0, hh0⟩ : ∃ h1, h1 = h.put p (.cells [v, .int .i64 at_, .int .u64 (cd : Int), .int .u64 rng] 63 false) := ⟨_, rfl⟩
  have o0 : Only h h0 p := by rw [hh0]; exact Only.put _ _ _
  have hp0 : h0.get p = some (.cells [v, .int .i64 at_, .int .u64 (cd : Int), .int .u64 rng] 63 false) := by rw [hh0]; exact get_put_same (H.get_lt hp)
  have hw2 := fun v => wr1_of hp0 (o := 3) (by simp) v
  obtain ⟨h1', hh1⟩ : ∃ h1, h1 = h0.put p (.cells [v, .int .i64 at_, .int .u64 (cd : Int), .int .u64 wd] 63 false) := ⟨_, rfl⟩
  have o1 : Only h0 h1' p := by rw [hh1]; exact Only.put _ _ _
  have hp1 : h1'.get p = some (.cells [v, .int .i64 at_, .int .u64 (cd : Int), .int .u64 wd] 63 false) := by rw [hh1]; exact get_put_same (H.get_lt hp0)
  have a1 : RefAt h1' X p at_ rest cd wd := ⟨⟨v, B, hp1, hs.only (o0.trans o1) hX, hr, hB⟩, hX, far0⟩
  obtain ⟨e', h', at', k1, k2, k3, k4, k5⟩ := loop25 X p 3 h1' at_ rest cd wd ⟨[.ptr p 0, .int .u32 lo, .int .u32 hi, .int .i64 0, .int .u32 vl, .int .u64 ax, .int .u64 wd], 0, .ptr p 0⟩ a1 (by omega) (by omega) (by omega) far (by simp)
  rw [htk]
  refine ⟨h', at', ?_, k3, k4, o0.trans (o1.trans k5)⟩
  rw [KK, c25, f25, s25]
  have z1 : ¬ ((vl : Int) < lo) := by omega
  have z1' : ¬ (vl < lo) := by omega
  have z2 : ¬ ((hi : Int) ≤ vl) := by omega
  have z2' : ¬ (hi ≤ vl) := by omega
  have z3 : ¬ ((32768 : Int) < hi) := by omega
  have z3' : ¬ (32768 < hi) := by omega
  simp [rd1_of hp, hv, z1, z1', z2, z2', z3, z3', hna, hw1, mc, ← hh0, hw2, ← hh1, k1, k2]

theorem take25_no {h : H} {X : Nat → Prop} {p at_ : Nat} {rest : List Nat} {code rng lo hi : Nat} (a : RefAt h X p at_ rest code rng) (inv : DInv code rng) (no : ¬ (lo ≤ value code rng ∧ value code rng < hi ∧ hi ≤ 32768)) :
    KK 25 [.ptr p 0, .int .u32 lo, .int .u32 hi] h = some (.ret (.int .i64 2), h) := by
  have hv := value22_ok a inv
  obtain ⟨vl, hvl⟩ : ∃ x, x = value code rng := ⟨_, rfl⟩
  rw [← hvl] at hv no
  rw [KK, c25, f25, s25]
  by_cases c1 : vl < lo
  · have c1' : (vl : Int) < lo := by omega
    simp [hv, c1, c1']
  · have c1' : ¬ ((vl : Int) < lo) := by omega
    by_cases c2 : hi ≤ vl
    · have c2' : (hi : Int) ≤ vl := by omega
      simp [hv, c1, c1', c2, c2']
    · have c2' : ¬ ((hi : Int) ≤ vl) := by omega
      have c3 : 32768 < hi := by omega
      have c3' : (32768 : Int) < hi := by omega
      simp [hv, c1, c1', c2, c2', c3, c3']

/-! Parts that an encoder refuses. -/
theorem put12_no {h : H} {p : Nat} {t : TypeId} {v : V} {out : List Nat} {low rng lo hi : Nat} (a : EncAt h p t v out low (.int .u32 rng)) (inv : EInv low rng) (no : ¬ (lo < hi ∧ hi ≤ 32768)) :
    KK 12 [.ptr p 0, .int .u32 lo, .int .u32 hi] h = some (.ret (.int .i64 2), h) := by
  have hz : ¬ (rng = 0) := by have := inv.1; omega
  rw [KK, c12, f12, s12]
  by_cases c1 : hi ≤ lo
  · have c1' : (hi : Int) ≤ lo := by omega
    simp [rd1_of a.cell, hz, c1, c1']
  · have c1' : ¬ ((hi : Int) ≤ lo) := by omega
    have c3 : 32768 < hi := by omega
    have c3' : (32768 : Int) < hi := by omega
    simp [rd1_of a.cell, hz, c1, c1', c3, c3']
theorem put13_no {h : H} {x : V} {lo hi : Nat} (no : ¬ (lo < hi ∧ hi ≤ 32768)) :
    KK 13 [x, .int .u32 lo, .int .u32 hi] h = some (.ret (.int .i64 2), h) := by
  rw [KK, c13, f13, s13]
  by_cases c1 : hi ≤ lo
  · have c1' : (hi : Int) ≤ lo := by omega
    simp [c1, c1']
  · have c1' : ¬ ((hi : Int) ≤ lo) := by omega
    have c3 : 32768 < hi := by omega
    have c3' : (32768 : Int) < hi := by omega
    simp [c1, c1', c3, c3']
end Go.Proofs.Ytpikblkbeoophaa
