/- Check of both. -/
import Derived.Test.YtpjcmgmmolediaaIc
set_option linter.unusedVariables false
set_option linter.unusedSimpArgs false
namespace Go.Proofs.Ytpjcmgmmolediaa
open Go Go.Zf Go.RowKit

theorem w12 (p0 p1 : V) (h : H) : KW 12 [p0, p1] h = f12 KW loopZ p0 p1 h := (callW_eqF _ _ _ _ _ _ rfl).trans (congrFun (congrFun (congrFun (congrFun (congrFun (r12) _) _) p0) p1) h)
theorem w13 (p0 p1 : V) (h : H) : KW 13 [p0, p1] h = f13 KW loopZ p0 p1 h := (callW_eqF _ _ _ _ _ _ rfl).trans (congrFun (congrFun (congrFun (congrFun (congrFun (r13) _) _) p0) p1) h)
theorem w28 (p0 p1 p2 : V) (h : H) : KW 28 [p0, p1, p2] h = f28 KW loopZ p0 p1 p2 h := (callW_eqF _ _ _ _ _ _ rfl).trans (congrFun (congrFun (congrFun (congrFun (congrFun (congrFun (r28) _) _) p0) p1) p2) h)
theorem w29 (p0 : V) (h : H) : KW 29 [p0] h = f29 KW loopZ p0 h := (callW_eqF _ _ _ _ _ _ rfl).trans (congrFun (congrFun (congrFun (congrFun (r29) _) _) p0) h)

/-- A size. -/
def Sz (n : Int) : Bool := decide (n = 4) || decide (n = 8) || decide (n = 16) || decide (n = 32) || decide (n = 64)
/-- An edge has as many samples as it must. -/
def Fits (has : Bool) (k n : Int) : Bool := decide (k = if has then n else 0)

theorem samples28_ok {has : Bool} {v : V} {k n : Int} (hv : lnS v = some (.int .i64 k)) (h : H) : KW 28 [.bool has, v, .int .i64 n] h = some (.ret (.bool (Fits has k n)), h) := by
  rw [w28, f28, s28]
  cases has <;> simp [hv, Fits]

theorem size29_ok (n : Int) (h : H) : KW 29 [.int .i64 n] h = some (.ret (.bool (Sz n)), h) := by
  rw [w29, f29, s29]
  unfold Sz
  by_cases h4 : n = 4
  · simp [h4]
  · by_cases h8 : n = 8
    · simp [h8]
    · by_cases h16 : n = 16
      · simp [h16]
      · by_cases h32 : n = 32
        · simp [h32]
        · simp [h4, h8, h16, h32]

theorem and_tab : ∀ k : Fin 61, (IntKind.i64.wrap ((BitVec.ofInt 64 ((k : Nat) + 4 : Int) &&& BitVec.ofInt 64 ((k : Nat) + 3 : Int)).toNat : Int) = 0) ↔ Sz ((k : Nat) + 4 : Int) = true := by decide +kernel

theorem and_sz {n : Int} (h4 : 4 ≤ n) (h64 : n ≤ 64) : (IntKind.i64.wrap ((BitVec.ofInt 64 n &&& BitVec.ofInt 64 (n - 1)).toNat : Int) = 0) ↔ Sz n = true := by
  have := and_tab ⟨(n - 4).toNat, by omega⟩
  simp only at this
  rw [show (((n - 4).toNat : Nat) : Int) + 4 = n by omega, show (((n - 4).toNat : Nat) : Int) + 3 = n - 1 by omega] at this
  exact this
theorem sz_in {n : Int} (h : Sz n = true) : 4 ≤ n ∧ n ≤ 64 := by
  simp [Sz] at h; omega

/-- Edges that are handed over. -/
def edges (ha hl : Bool) (A L : V) (c : Int) : List V := [.bool ha, .bool hl, A, L, .int .u8 c]
def Good (n : Int) (ha hl : Bool) (a l : Int) : Bool := Sz n && Fits ha a n && Fits hl l n

theorem check12_ok {n : Int} {ha hl : Bool} {A L : V} {a l c : Int} (hA : lnS A = some (.int .i64 a)) (hL : lnS L = some (.int .i64 l)) (h : H) :
    ∃ h', KW 12 [.int .i64 n, .agg (edges ha hl A L c)] h = some (.ret (.int .i64 (if Good n ha hl a l then 0 else 2)), h') ∧ h.n ≤ h'.n ∧ ∀ c, c < h.n → h'.get c = h.get c := by
  obtain ⟨h1, hh1⟩ : ∃ g, g = h.new (.cells (edges ha hl A L c) 25 false) := ⟨_, rfl⟩
  have g1 : h1.get h.n = some (.cells (edges ha hl A L c) 25 false) := by rw [hh1]; exact get_new_same
  refine ⟨h1, ?_, by rw [hh1, H.n_new]; omega, fun c hc => by rw [hh1, get_new_lt hc]⟩
  rw [w12, f12, s12]
  unfold Good
  unfold edges at *
  by_cases h4 : n < 4
  · have hz : Sz n = false := by
      cases hs : Sz n with
      | false => rfl
      | true => have := sz_in hs; omega
    simp [bx, V.cells, ← hh1, h4, hz]
  · by_cases h64 : 64 < n
    · have hz : Sz n = false := by
        cases hs : Sz n with
        | false => rfl
        | true => have := sz_in hs; omega
      simp [bx, V.cells, ← hh1, h4, h64, hz]
    · have hw : IntKind.i64.wrap (n - 1) = n - 1 := wi64 (by omega) (by omega)
      have hb := and_sz (n := n) (by omega) (by omega)
      obtain ⟨y, hy⟩ : ∃ y : Int, y = IntKind.i64.wrap ((BitVec.ofInt 64 n &&& BitVec.ofInt 64 (n - 1)).toNat : Int) := ⟨_, rfl⟩
      have hbin : binK 0 .and (.int .i64 n) (.int .i64 (n - 1)) = some (.int .i64 y) := by rw [binK_and, hy]; rfl
      rw [← hy] at hb
      cases hs : Sz n with
      | false =>
        have hy0 : ¬ y = 0 := fun e => by rw [hb.mp e] at hs; cases hs
        simp [bx, V.cells, ← hh1, h4, h64, hw, -binK_and, hbin, hy0]
      | true =>
        have hy0 : y = 0 := hb.mpr hs
        have k1 := samples28_ok (has := ha) (n := n) hA h1
        have k2 := samples28_ok (has := hl) (n := n) hL h1
        cases hf1 : Fits ha a n <;> cases hf2 : Fits hl l n <;> rw [hf1] at k1 <;> rw [hf2] at k2 <;>
          simp [bx, V.cells, ← hh1, h4, h64, hw, -binK_and, hbin, hy0, rd1_of g1, k1, k2]

theorem gl_t (want : Bool) (x : Option V) : gl (.tup []) want x = some (.tup []) := id rfl
theorem check13_ok {n : Int} {ha hl : Bool} {A L : V} {a l c : Int} (hA : lnS A = some (.int .i64 a)) (hL : lnS L = some (.int .i64 l)) (h : H) :
    ∃ h', KW 13 [.int .i64 n, .agg (edges ha hl A L c)] h = some (.ret (.int .i64 (if Good n ha hl a l then 0 else 2)), h') ∧ h.n ≤ h'.n ∧ ∀ c, c < h.n → h'.get c = h.get c := by
  obtain ⟨h1, hh1⟩ : ∃ g, g = h.new (.cells (edges ha hl A L c) 25 false) := ⟨_, rfl⟩
  have g1 : h1.get h.n = some (.cells (edges ha hl A L c) 25 false) := by rw [hh1]; exact get_new_same
  refine ⟨h1, ?_, by rw [hh1, H.n_new]; omega, fun c hc => by rw [hh1, get_new_lt hc]⟩
  rw [w13, f13, s13]
  have hs := size29_ok n h1
  unfold Good Fits
  unfold edges at *
  cases hz : Sz n <;> rw [hz] at hs
  · simp [bx, V.cells, ← hh1, hs, gl_t]
  · have hn0 : ¬ n = 0 := by have := (sz_in hz).1; omega
    cases ha <;> cases hl <;> by_cases e1 : a = n <;> by_cases e2 : l = n <;> by_cases e3 : a = 0 <;> by_cases e4 : l = 0 <;>
      simp [bx, V.cells, ← hh1, hs, rd1_of g1, hA, hL, gl_t, hn0, show ¬ 0 = n by omega, e1, e2, e3, e4]
end Go.Proofs.Ytpjcmgmmolediaa
