/- Bytes, of both encoders. -/
import Derived.Test.YtpikblkbeoophaaRe
set_option linter.unusedVariables false
set_option linter.unusedSimpArgs false
namespace Go.Proofs.Ytpikblkbeoophaa
open Go Go.Zf

theorem emits_length : ∀ (n : Nat) (out : List Nat) (low : Nat), (emits n out low).1.length = out.length + n
  | 0, _, _ => rfl
  | n + 1, out, low => by rw [emits, emits_length n, emit_length]; omega
/-- What an encoder answers. -/
def bytes (out : List Nat) (low : Nat) : List Nat := (emits 4 out low).1.take (trimN (emits 4 out low).1 (out.length + 4))

theorem grow_ck {h : H} {v : V} {out : List Nat} (g : Grow h v out) {β : Type} (y : Option β) : ck (some v) v y = y := by
  rcases g with ⟨e1, e2⟩ | ⟨b, e1, e2, e3⟩ <;> rw [e1] <;> simp
theorem grow_cells {h : H} {v : V} {out : List Nat} (g : Grow h v out) : v.cells = some [v] := by
  rcases g with ⟨e1, e2⟩ | ⟨b, e1, e2, e3⟩ <;> rw [e1] <;> simp [V.cells, V.isCell]

theorem cells_int (k : IntKind) (n : Int) : (V.int k n).cells = some [.int k n] := rfl

theorem bytes14_ok {h : H} {p : Nat} {t : TypeId} {v : V} {out : List Nat} {low rng : Nat} (a : EncAt h p t v out low (.int .u32 rng)) (inv : EInv low rng) (hlen : out.length < 1099511627000) :
    ∃ h' b, KK 14 [.ptr p 0] h = some (.ret (.sl b 0 (trimN (emits 4 out low).1 (out.length + 4)) (.ex (trimN (emits 4 out low).1 (out.length + 4)))), h') ∧
      h'.get b = some (.cells (bytesV (emits 4 out low).1) 5 false) ∧ (∀ x ∈ (emits 4 out low).1, x < 256) ∧ h.n ≤ b ∧ h.n ≤ h'.n ∧ ∀ c, c < h.n → h'.get c = h.get c := by
  obtain ⟨i1, i2, i3⟩ := inv
  have hpl := H.get_lt a.cell
  obtain ⟨h1, v1, k1, k2, k3, k4, k5⟩ := clone_ok a.grow (by omega)
  have hp1 : h1.get p = some (.cells [v, .int .u64 low, .int .u32 rng] t false) := by rw [k4 p hpl, a.cell]
  have hz : ¬ (rng = 0) := by omega
  have hbl : bl [.nils, .int .u64 0, .int .u32 0] [(some (0, 1), v1), (some (1, 1), .int .u64 low)] = some (.agg [v1, .int .u64 low, .int .u32 0]) := by
    simp [bl, fillW, grow_cells k2, cells_int, splice]
  obtain ⟨h2, hh2⟩ : ∃ h2, h2 = h1.new (.cells [.nils, .int .u64 0, .int .u32 0] 52 false) := ⟨_, rfl⟩
  have hq2 : h2.get h1.n = some (.cells [.nils, .int .u64 0, .int .u32 0] 52 false) := by rw [hh2]; exact get_new_same
  obtain ⟨h3, hh3⟩ : ∃ h3, h3 = h2.put h1.n (.cells [v1, .int .u64 low, .int .u32 0] 52 false) := ⟨_, rfl⟩
  have hst : stZ 3 h2 (.ptr h1.n 0) (.agg [v1, .int .u64 low, .int .u32 0]) = some (.tup [], h3) := by
    rw [hh3]; simp [stZ, H.wrN, hq2, splice]
  have a3 : EncAt h3 h1.n 52 v1 out low (.int .u32 0) := by
    refine ⟨by rw [hh3, get_put_same (H.get_lt hq2)], ?_, a.byte, a.low64⟩
    rcases k2 with g | ⟨b, g1, g2, g3⟩
    · exact .inl g
    · have := H.get_lt g3
      exact .inr ⟨b, g1, g2, by rw [hh3, get_put_ne (by omega), hh2, get_new_lt this, g3]⟩
  obtain ⟨e', h4, v4, j1, j2, j3, j4⟩ := loop14 h1.n 52 (.int .u32 0) 4 h3 v1 out low ⟨[.ptr p 0, .nils, .ptr h1.n 0, .tup [], .int .i64 0], 24, .int .i64 0⟩ a3 (by omega) (by omega) (by omega) (by simp) (by simp)
  have hn2 : h2.n = h1.n + 1 := by rw [hh2, H.n_new]
  have hn3 : h3.n = h1.n + 1 := by rw [hh3, H.n_put, hn2]
  have hel := emits_length 4 out low
  rcases j3.grow with ⟨g1, g2⟩ | ⟨b, rfl, g2, g3⟩
  · rw [g2] at hel; simp at hel
  · obtain ⟨e2, m1, m2, m3⟩ := trim14 h1.n b 52 (.int .u64 (emits 4 out low).2) (.int .u32 0) _ h4 j3.cell g3 (by omega) _ ⟨[e'.s [0, 2, 3, 4, 24] 0, e'.s [0, 2, 3, 4, 24] 2, .ptr h1.n 0, .int .i64 (emits 4 out low).1.length, e'.s [0, 2, 3, 4, 24] 24], 4, .int .i64 (emits 4 out low).1.length⟩ (Nat.le_refl _) (by simp) (by simp)
    have hle := trimN_le (emits 4 out low).1 (emits 4 out low).1.length
    rw [← hel]
    obtain ⟨n, hn⟩ : ∃ n, n = trimN (emits 4 out low).1 (emits 4 out low).1.length := ⟨_, rfl⟩
    rw [← hn] at m3 hle ⊢
    have hsl : slS 1 (.sl b 0 (emits 4 out low).1.length (.op 1)) none (some (.int .i64 n)) (some (.int .i64 n)) = some (.sl b 0 n (.ex n)) := by
      have hle' : n ≤ (emits 4 out low).1.length := hle
      simp [slS, sbV, optB, hle']
    refine ⟨h4, b, ?_, g3, j3.byte, ?_, by have := j4.fr.1; omega, fun c hc => ?_⟩
    · rw [KK, c14, f14, s14]
      simp [rd1_of a.cell, hz, k1, rd1_of hp1, hbl, nw, ← hh2, hst, grow_ck a.grow, j1, j2, rd1_of j3.cell, m1, m2, m3, hsl]
    · rcases j4.nw with e | e
      · have := k5 b; rw [← e] at this; have := this _ _ _ rfl; omega
      · have := e b _ _ _ rfl; omega
    · rw [j4.fr.2 c (by omega) ?_, hh3, get_put_ne (by omega), hh2, get_new_lt (by omega), k4 c hc]
      rintro (e | ⟨o, n, k, e⟩)
      · omega
      · have := k5 _ _ _ _ e; omega

theorem bytes16_ok {h : H} {p : Nat} {t : TypeId} {v : V} {out : List Nat} {low rng : Nat} (a : EncAt h p t v out low (.int .u64 rng)) (inv : EInv low rng) (hlen : out.length < 1099511627000) :
    ∃ h' b, KK 16 [.ptr p 0] h = some (.ret (.sl b 0 (trimN (emits 4 out low).1 (out.length + 4)) (.op 1)), h') ∧
      h'.get b = some (.cells (bytesV (emits 4 out low).1) 5 false) ∧ (∀ x ∈ (emits 4 out low).1, x < 256) ∧ h.n ≤ b ∧ h.n ≤ h'.n ∧ ∀ c, c < h.n → h'.get c = h.get c := by
  obtain ⟨i1, i2, i3⟩ := inv
  have hpl := H.get_lt a.cell
  have hbl : bl [.nils, .int .u64 0, .int .u64 0] [(some (1, 1), .int .u64 low)] = some (.agg [.nils, .int .u64 low, .int .u64 0]) := by
    simp [bl, fillW, cells_int, splice]
  obtain ⟨h1, hh1⟩ : ∃ h1, h1 = h.new (.cells [.nils, .int .u64 low, .int .u64 0] 56 false) := ⟨_, rfl⟩
  have hbx : bx h 56 (.agg [.nils, .int .u64 low, .int .u64 0]) = some (.ptr h.n 0, h1) := by rw [hh1]; simp [bx, V.cells]
  have hq1 : h1.get h.n = some (.cells [.nils, .int .u64 low, .int .u64 0] 56 false) := by rw [hh1]; exact get_new_same
  have hp1 : h1.get p = some (.cells [v, .int .u64 low, .int .u64 rng] t false) := by rw [hh1, get_new_lt hpl, a.cell]
  have hn1 : h1.n = h.n + 1 := by rw [hh1, H.n_new]
  -- the copy of the bytes
  obtain ⟨h2, v1, hap, g2, hn2, hf2, hv2⟩ : ∃ h2 v1, apZ 5 1 1 h1 .nils v = some (v1, h2) ∧ Grow h2 v1 out ∧ h1.n ≤ h2.n ∧ (∀ c, c < h1.n → h2.get c = h1.get c) ∧ ∀ c o n k, v1 = .sl c o n k → h1.n ≤ c := by
    rcases a.grow with ⟨rfl, rfl⟩ | ⟨b, rfl, hne, hb⟩
    · exact ⟨h1, .nils, by simp [apZ, lenOf, firstV, apN], .inl ⟨rfl, rfl⟩, Nat.le_refl _, fun _ _ => rfl, fun c o n k e => by cases e⟩
    · have hb1 : h1.get b = some (.cells (bytesV out) 5 false) := by rw [hh1, get_new_lt (H.get_lt hb), hb]
      have hr : h1.rdN b 0 out.length = some (bytesV out) := by
        simp [H.rdN, hb1, List.take_of_length_le]
      obtain ⟨h2, q1, q2, q3, q4⟩ := append_ok (h := h1) (v := .nils) (out := []) (cp := .op 1) (.inl ⟨rfl, rfl⟩) hr rfl (by simpa using hne) (by simp; omega)
      refine ⟨h2, _, q1, .inr ⟨h1.n, by simp, hne, by simpa using q3⟩, by omega, fun c hc => q4 c hc (by simp), fun c o n k e => by cases e; omega⟩
  have hq2 : h2.get h.n = some (.cells [.nils, .int .u64 low, .int .u64 0] 56 false) := by rw [hf2 _ (by omega), hq1]
  have hw2 := fun x => wr1_of hq2 (o := 0) (by simp) x
  obtain ⟨h3, hh3⟩ : ∃ h3, h3 = h2.put h.n (.cells [v1, .int .u64 low, .int .u64 0] 56 false) := ⟨_, rfl⟩
  have hst : stZ 1 h2 (.ptr h.n 0) v1 = some (.tup [], h3) := by
    rw [hh3]
    rcases g2 with ⟨e1, e2⟩ | ⟨b, e1, e2, e3⟩ <;> rw [e1] <;> simp [hw2]
  have a3 : EncAt h3 h.n 56 v1 out low (.int .u64 0) := by
    refine ⟨by rw [hh3, get_put_same (H.get_lt hq2)], ?_, a.byte, a.low64⟩
    rcases g2 with g | ⟨b, g1, g2, g3⟩
    · exact .inl g
    · have := hv2 _ _ _ _ g1
      exact .inr ⟨b, g1, g2, by rw [hh3, get_put_ne (by omega), g3]⟩
  obtain ⟨e', h4, v4, j1, j2, j3, j4⟩ := loop16 h.n 56 (.int .u64 0) 4 h3 v1 out low ⟨[.ptr p 0, .nils, .ptr h.n 0, .int .i64 0, .tup []], 4, .int .i64 0⟩ a3 (by omega) (by omega) (by omega) (by simp) (by simp)
  have hn3 : h3.n = h2.n := by rw [hh3, H.n_put]
  have hel := emits_length 4 out low
  rcases j3.grow with ⟨g1, g2⟩ | ⟨b, rfl, g2', g3⟩
  · rw [g2] at hel; simp at hel
  · obtain ⟨e2, m1, m2, m3⟩ := trim16 h.n b 56 (.int .u64 (emits 4 out low).2) (.int .u64 0) _ h4 j3.cell g3 (by omega) _ ⟨[e'.s [0, 2, 3, 4, 5] 0, e'.s [0, 2, 3, 4, 5] 2, .ptr h.n 0, e'.s [0, 2, 3, 4, 5] 4, .int .i64 (emits 4 out low).1.length], 5, .int .i64 (emits 4 out low).1.length⟩ (Nat.le_refl _) (by simp) (by simp)
    have hle := trimN_le (emits 4 out low).1 (emits 4 out low).1.length
    rw [← hel]
    obtain ⟨n, hn⟩ : ∃ n, n = trimN (emits 4 out low).1 (emits 4 out low).1.length := ⟨_, rfl⟩
    rw [← hn] at m3 hle ⊢
    have hsl : slS 1 (.sl b 0 (emits 4 out low).1.length (.op 1)) none (some (.int .i64 n)) none = some (.sl b 0 n (.op 1)) := by
      have hle' : n ≤ (emits 4 out low).1.length := hle
      simp [slS, sbV, optB, hle']
    refine ⟨h4, b, ?_, g3, j3.byte, ?_, by have := j4.fr.1; omega, fun c hc => ?_⟩
    · rw [KK, c16, f16, s16]
      simp [rd1_of a.cell, hbl, hbx, rd1_of hq1, rd1_of hp1, hap, hst, grow_ck a.grow, j1, j2, rd1_of j3.cell, m1, m2, m3, hsl]
    · rcases j4.nw with e | e
      · have := hv2 b; rw [← e] at this; have := this _ _ _ rfl; omega
      · have := e b _ _ _ rfl; omega
    · rw [j4.fr.2 c (by omega) ?_, hh3, get_put_ne (by omega), hf2 c (by omega), hh1, get_new_lt hc]
      rintro (e | ⟨o, n, k, e⟩)
      · omega
      · have := hv2 _ _ _ _ e; omega
end Go.Proofs.Ytpikblkbeoophaa
