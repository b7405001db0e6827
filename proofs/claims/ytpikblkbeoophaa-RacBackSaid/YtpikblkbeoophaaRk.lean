/- The reference's Read. -/
import Derived.Test.YtpikblkbeoophaaRj
set_option linter.unusedVariables false
set_option linter.unusedSimpArgs false
namespace Go.Proofs.Ytpikblkbeoophaa
open Go Go.Zf

theorem dsh_lt : ∀ (n : Nat) {m : Nat} {rest : List Nat} {code : Nat}, (∀ x ∈ rest, x < 256) → code < 256 ^ m → (dsh n rest code).2 < 256 ^ (m + n) ∧ ∀ x ∈ (dsh n rest code).1, x < 256
  | 0, m, rest, code, hb, hc => ⟨by simpa [dsh] using hc, hb⟩
  | n + 1, m, rest, code, hb, hc => by
    have h1 := headD_lt hb
    have := dsh_lt n (m := m + 1) (rest := rest.tail) (code := code * 256 + rest.headD 0) (fun x hx => hb x (List.mem_of_mem_tail hx)) (by rw [Nat.pow_succ]; omega)
    rw [show m + (n + 1) = m + 1 + n by omega]
    exact this
theorem dread_inv {l : List Nat} (hb : ∀ x ∈ l, x < 256) : DInv (dread l).2 4294967295 ∧ ∀ x ∈ (dread l).1, x < 256 :=
  ⟨⟨by decide, by decide, by simp only [dread]; omega⟩, (dsh_lt 4 (m := 0) (code := 0) hb (by decide)).2⟩

theorem loop20 (X : Nat → Prop) (p rng : Nat) : ∀ (n : Nat) (h : H) (at_ : Nat) (rest : List Nat) (code : Nat) (e : E), RefAt h X p at_ rest code rng → code < 256 ^ (4 - n) → n ≤ 4 → at_ + n < 4611686018427387904 →
    e.s [0, 2, 3, 4] 3 = .ptr p 0 → e.s [0, 2, 3, 4] 4 = .int .i64 (4 - n : Nat) →
    ∃ e' h' at', loopZ (l20_0 KK loopZ) e h = some ⟨.ex 0, e', h'⟩ ∧ e'.s [0, 2, 3, 4] 3 = .ptr p 0 ∧ at' ≤ at_ + n ∧ RefAt h' X p at' (dsh n rest code).1 (dsh n rest code).2 rng ∧ Only h h' p
  | 0, h, at_, rest, code, e, a, hc, hn, hat, he3, he8 => by
    rw [loopZ_eq]
    simp [l20_0, he3, he8]
    exact ⟨_, _, ⟨rfl, rfl⟩, by simp [he3], at_, by omega, a, Only.refl _ _⟩
  | n + 1, h, at_, rest, code, e, a, hc, hn, hat, he3, he8 => by
    obtain ⟨⟨v, B, hp, hs, hr, hB⟩, hX, far⟩ := a
    have hc3 : 256 ^ (4 - (n + 1)) ≤ 256 ^ 3 := Nat.pow_le_pow_right (by decide) (by omega)
    have k1 := next34_ok hp hs hX hB far
    rw [← hr] at k1
    have hb : rest.headD 0 < 256 := by
      rw [hr]; exact headD_lt fun x hx => hB x (List.mem_of_mem_drop hx)
    obtain ⟨x, hx⟩ : ∃ x, x = rest.headD 0 := ⟨_, rfl⟩
    obtain ⟨a1, ha1⟩ : ∃ a1 : Nat, a1 = at_ + 1 := ⟨_, rfl⟩
    rw [← hx, ← ha1] at k1
    rw [← hx] at hb
    obtain ⟨h1, hh1⟩ : ∃ h1, h1 = h.put p (.cells [v, .int .i64 a1, .int .u64 code, .int .u64 rng] 63 false) := ⟨_, rfl⟩
    have o1 : Only h h1 p := by rw [hh1]; exact Only.put _ _ _
    have hp1 : h1.get p = some (.cells [v, .int .i64 a1, .int .u64 code, .int .u64 rng] 63 false) := by rw [hh1]; exact get_put_same (H.get_lt hp)
    rw [← hh1] at k1
    have m1 : IntKind.u64.wrap ((code : Int) * 256) = (code : Int) * 256 := w64 (by omega) (by omega)
    have m2 : IntKind.u64.wrap ((code : Int) * 256 + x) = ((code * 256 + x : Nat) : Int) := by rw [w64 (by omega) (by omega)]; simp
    have hc' : code * 256 + x < 256 ^ (4 - n) := by
      rw [show 4 - n = (4 - (n + 1)) + 1 by omega, Nat.pow_succ]; omega
    obtain ⟨cd, hcd⟩ : ∃ cd, cd = code * 256 + x := ⟨_, rfl⟩
    rw [← hcd] at m2 hc'
    have hw2 := fun x => wr1_of hp1 (o := 2) (by simp) x
    obtain ⟨h2, hh2⟩ : ∃ h2, h2 = h1.put p (.cells [v, .int .i64 a1, .int .u64 cd, .int .u64 rng] 63 false) := ⟨_, rfl⟩
    have o2 : Only h1 h2 p := by rw [hh2]; exact Only.put _ _ _
    have hp2 : h2.get p = some (.cells [v, .int .i64 a1, .int .u64 cd, .int .u64 rng] 63 false) := by rw [hh2]; exact get_put_same (H.get_lt hp1)
    have oo := o1.trans o2
    have a3 : RefAt h2 X p a1 rest.tail cd rng := ⟨⟨v, B, hp2, hs.only oo hX, by rw [hr, List.tail_drop, ha1], hB⟩, hX, by omega⟩
    have hlt : ((4 - (n + 1) : Nat) : Int) < 4 := by omega
    have hm : IntKind.i64.wrap (((4 - (n + 1) : Nat) : Int) + 1) = ((4 - n : Nat) : Int) := by rw [wi64 (by omega) (by omega)]; omega
    obtain ⟨j, hj⟩ : ∃ j, j = 4 - (n + 1) := ⟨_, rfl⟩
    obtain ⟨j1, hj1⟩ : ∃ j, j = 4 - n := ⟨_, rfl⟩
    rw [← hj] at hlt he8
    rw [← hj, ← hj1] at hm
    have hlt' : j < 4 := by omega
    rw [loopZ_eq]
    simp [l20_0, he3, he8, hlt, hlt', rd1_of hp, k1, rd1_of hp1, m1, m2, hw2, ← hh2, hm]
    obtain ⟨e', h', at', i1, i2, i3, i4, i5⟩ := loop20 X p rng n h2 a1 rest.tail cd ⟨[e.s [0, 2, 3, 4] 0, e.s [0, 2, 3, 4] 2, .ptr p 0, .int .i64 (j1 : Int)], 4, .int .i64 (j1 : Int)⟩ a3 hc' (by omega) (by omega) (by simp) (by simp [hj1])
    simp only [dsh]
    rw [← hx, ← hcd]
    exact ⟨e', h', i1, i2, at', by omega, i4, oo.trans i5⟩

theorem read20_ok {h : H} {v : V} {l : List Nat} (g : SlB h v l) (hlen : l.length < 140737488355329) (hb : ∀ x ∈ l, x < 256) :
    ∃ h' p at', KK 20 [v] h = some (.ret (.ptr p 0), h') ∧ (∀ X : Nat → Prop, X p → (∀ c, h.n ≤ c → c < h'.n → c ≠ p → ¬ X c) → RefAt h' X p at' (dread l).1 (dread l).2 4294967295) ∧ at' ≤ 4 ∧ h.n ≤ p ∧ p < h'.n ∧ (∀ c, c < h.n → h'.get c = h.get c) := by
  obtain ⟨h0, hh0⟩ : ∃ h0, h0 = h.new (.cells [.nils, .int .i64 (0 : Nat), .int .u64 (0 : Nat), .int .u64 (4294967295 : Nat)] 63 false) := ⟨_, rfl⟩
  have hp0 : h0.get h.n = some (.cells [.nils, .int .i64 (0 : Nat), .int .u64 (0 : Nat), .int .u64 (4294967295 : Nat)] 63 false) := by rw [hh0]; exact get_new_same
  have hk0 : ∀ c, c < h.n → h0.get c = h.get c := fun c hc => by rw [hh0, get_new_lt hc]
  have hn0 : h0.n = h.n + 1 := by rw [hh0, H.n_new]
  obtain ⟨h1, v1, k1, k2, k3, k4⟩ := apZ_nil (g.keep hk0) hlen
  have hp1 : h1.get h.n = some (.cells [.nils, .int .i64 (0 : Nat), .int .u64 (0 : Nat), .int .u64 (4294967295 : Nat)] 63 false) := by rw [k4 _ (by omega), hp0]
  obtain ⟨h2, hh2⟩ : ∃ h2, h2 = h1.put h.n (.cells [v1, .int .i64 (0 : Nat), .int .u64 (0 : Nat), .int .u64 (4294967295 : Nat)] 63 false) := ⟨_, rfl⟩
  have o2 : Only h1 h2 h.n := by rw [hh2]; exact Only.put _ _ _
  have hp2 : h2.get h.n = some (.cells [v1, .int .i64 (0 : Nat), .int .u64 (0 : Nat), .int .u64 (4294967295 : Nat)] 63 false) := by rw [hh2]; exact get_put_same (H.get_lt hp1)
  have hos : OSl h2 (fun c => ¬ (h.n < c ∧ c < h1.n)) v1 l := ((k2.osl (X := fun c => ¬ (h.n < c ∧ c < h1.n)) (by intro c h1 h2 h3; exact h3 ⟨by omega, h2⟩))).only o2 (by simp)
  obtain ⟨e', h', at', i1, i2, i3, i4, i5⟩ := loop20 (fun c => ¬ (h.n < c ∧ c < h1.n)) h.n 4294967295 4 h2 0 l 0 ⟨[v, .nilp, .ptr h.n 0, .int .i64 0], 4, .int .i64 0⟩ ⟨⟨v1, l, hp2, hos, rfl, hb⟩, by simp, by decide⟩ (by decide) (by omega) (by omega) (by simp) (by simp)
  obtain ⟨⟨v2, B, hp3, hs3, hr3, hB3⟩, hX3, far⟩ := i4
  have hw1 := fun v => wr1_of hp3 (o := 2) (by simp) v
  obtain ⟨r, hr⟩ : ∃ r, r = dsh 4 l 0 := ⟨_, rfl⟩
  have hdr : dread l = (r.1, min r.2 4294967294) := by rw [dread, hr]
  have hlt : r.2 < 4294967296 := by
    have := (dsh_lt 4 (m := 0) (code := 0) hb (by decide)).1
    rw [← hr] at this; simpa using this
  rw [← hr] at hp3 hw1 hr3
  have e4 : minV [.int .u64 (r.2 : Int), .int .u64 4294967294] = some (.int .u64 ((min r.2 4294967294 : Nat) : Int)) := by
    simp [minV, foldV, min2V]
    split <;> omega
  obtain ⟨y, hy⟩ : ∃ y, y = min r.2 4294967294 := ⟨_, rfl⟩
  rw [← hy] at e4 hdr
  rw [hdr]
  have o3 := Only.put h' h.n (.cells [v2, .int .i64 at', .int .u64 y, .int .u64 (4294967295 : Nat)] 63 false)
  have hv1 : stZ 1 h1 (.ptr h.n 0) v1 = some (.und, h2) := by
    have := wr1_of hp1 (o := 0) (by simp) v1
    rw [hh2]
    rcases k2 with ⟨rfl, _⟩ | ⟨b, k, rfl, _⟩ | ⟨b, rfl, _⟩ <;> simp [this]
  refine ⟨h'.put h.n (.cells [v2, .int .i64 at', .int .u64 y, .int .u64 (4294967295 : Nat)] 63 false), h.n, at', ?_, fun X hX hf => ⟨⟨v2, B, get_put_same (H.get_lt hp3), (hs3.only o3 hX3).mono fun b hb hb' => hf b (by omega) hb (by omega), hr3, hB3⟩, hX, far⟩, by omega, Nat.le_refl _, by rw [H.n_put, i5.1, o2.1]; omega, fun c hc => ?_⟩
  · rw [KK, c20, f20, s20]
    simp at hw1 hp3 hh0 hp0
    simp [bl, fillW, bx, V.cells, splice, ← hh0, rd1_of hp0, k1, hv1, i1, i2, rd1_of hp3, e4, hw1]
  · rw [o3.2 c (by omega), i5.2 c (by omega), o2.2 c (by omega), k4 c (by omega), hk0 c hc]
end Go.Proofs.Ytpikblkbeoophaa
