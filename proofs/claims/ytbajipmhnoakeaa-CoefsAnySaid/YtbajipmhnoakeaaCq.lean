/- The order is one of all places. -/
import Derived.Test.YtbajipmhnoakeaaCf
set_option linter.unusedVariables false
set_option linter.unusedSimpArgs false
set_option maxRecDepth 20000
namespace Go.Proofs.Ytbajipmhnoakeaa
open Go Go.Zf

structure OrdOk (n : Nat) : Prop where
  len : (ordN n).length = n * n
  nod : (ordN n).Nodup
  lt : ∀ x ∈ ordN n, x < n * n
  mem : ∀ x, x < n * n → x ∈ ordN n
theorem mem_rowL {n s x : Nat} : x ∈ rowL n s ↔ ∃ r, s + 1 ≤ n + r ∧ r < n ∧ r ≤ s ∧ x = r * n + (s - r) := by
  unfold rowL rowF
  rw [List.mem_map]
  constructor
  · rintro ⟨r, hr, rfl⟩
    rw [List.mem_range'_1] at hr
    exact ⟨r, by omega, by omega, by omega, rfl⟩
  · rintro ⟨r, h1, h2, h3, rfl⟩
    exact ⟨r, by rw [List.mem_range'_1]; omega, rfl⟩
theorem row_dm {n s r : Nat} (h1 : s + 1 ≤ n + r) (h2 : r < n) (h3 : r ≤ s) : (r * n + (s - r)) / n = r ∧ (r * n + (s - r)) % n = s - r := by
  have hn : 0 < n := by omega
  have hs : s - r < n := by omega
  constructor
  · rw [Nat.mul_comm, Nat.mul_add_div hn, Nat.div_eq_of_lt hs]; omega
  · rw [Nat.mul_comm, Nat.mul_add_mod, Nat.mod_eq_of_lt hs]
theorem ord_lens {s : Nat} (hs : sizeOk s) : (ordN (sideP s)).length = sideP s * sideP s := by
  rcases hs with rfl | rfl | rfl | rfl | rfl <;> kernel_rfl
theorem ord_ok {s : Nat} (hs : sizeOk s) : OrdOk (sideP s) := by
  have hb := sideP_b hs
  have hl := ord_lens hs
  obtain ⟨n, hn⟩ : ∃ n, n = sideP s := ⟨_, rfl⟩
  rw [← hn] at hb hl ⊢
  refine ⟨hl, ?_, ?_, ?_⟩
  · unfold ordN rowsF List.Nodup
    rw [List.pairwise_flatMap]
    constructor
    · intro t ht
      unfold rowL rowF
      rw [List.pairwise_map]
      refine List.Pairwise.imp_of_mem ?_ (List.pairwise_lt_range' (s := t + 1 - n) (n := min n (t + 1) - (t + 1 - n)) (step := 1) (by decide))
      intro a b ha hb' hab e
      rw [List.mem_range'_1] at ha hb'
      have d1 := row_dm (n := n) (s := t) (r := a) (by omega) (by omega) (by omega)
      have d2 := row_dm (n := n) (s := t) (r := b) (by omega) (by omega) (by omega)
      rw [e] at d1
      omega
    · refine List.Pairwise.imp ?_ (List.pairwise_lt_range' (s := 0) (n := 2 * n - 1) (step := 1) (by decide))
      intro a b hab x hx y hy e
      subst e
      obtain ⟨r, h1, h2, h3, h4⟩ := mem_rowL.1 hx
      obtain ⟨q, k1, k2, k3, k4⟩ := mem_rowL.1 hy
      have d1 := row_dm h1 h2 h3
      have d2 := row_dm k1 k2 k3
      rw [← h4] at d1
      rw [← k4] at d2
      omega
  · intro x hx
    unfold ordN rowsF at hx
    rw [List.mem_flatMap] at hx
    obtain ⟨t, ht, hx⟩ := hx
    obtain ⟨r, h1, h2, h3, rfl⟩ := mem_rowL.1 hx
    have : (r + 1) * n ≤ n * n := Nat.mul_le_mul_right n (by omega)
    rw [Nat.succ_mul] at this
    omega
  · intro x hx
    have hr : x / n < n := (Nat.div_lt_iff_lt_mul (by omega)).2 hx
    have hc : x % n < n := Nat.mod_lt _ (by omega)
    have hd := Nat.div_add_mod x n
    rw [Nat.mul_comm] at hd
    unfold ordN rowsF
    rw [List.mem_flatMap]
    obtain ⟨r, hr'⟩ : ∃ r, r = x / n := ⟨_, rfl⟩
    obtain ⟨c, hc'⟩ : ∃ c, c = x % n := ⟨_, rfl⟩
    rw [← hr', ← hc'] at hd
    rw [← hr'] at hr
    rw [← hc'] at hc
    refine ⟨r + c, by rw [List.mem_range'_1]; omega, mem_rowL.2 ⟨r, by omega, hr, by omega, ?_⟩⟩
    rw [Nat.add_sub_cancel_left, hd]
end Go.Proofs.Ytbajipmhnoakeaa
