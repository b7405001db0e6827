/- SymsSets: a set is spoilt. -/
import Derived.Test.YtfjghgjkpenanaaScg
set_option linter.unusedVariables false
set_option linter.unusedSimpArgs false
set_option maxRecDepth 20000
namespace Go.Proofs.Ytfjghgjkpenanaa
open Go Go.Zf
open Go.Zf (wi64)

theorem bring36_ok (x : Int) (n : Nat) (hn : n ≤ 1000) (h : H) : ∃ r : Nat, (0 < n → r < n) ∧ (n = 0 → r = 0) ∧ KW 36 [.int .i64 x, .int .i64 n] h = some (.ret (.int .i64 (r : Int)), h) := by
  rw [w36, f36, s36]
  by_cases h0 : n = 0
  · subst h0
    exact ⟨0, fun h => by omega, fun _ => rfl, by simp⟩
  · have hp : (0 : Int) < n := by omega
    have q1 := Int.tmod_lt_of_pos x hp
    have q2 : -(n : Int) < x.tmod n := by
      by_cases hx : 0 ≤ x
      · have := Int.tmod_nonneg (n : Int) hx; omega
      · have e : x.tmod n = -((-x).tmod n) := by rw [Int.neg_tmod, Int.neg_neg]
        have := Int.tmod_lt_of_pos (-x) hp
        omega
    by_cases hx : x.tmod n < 0
    · have z : IntKind.i64.wrap (x.tmod n + n) = x.tmod n + n := Go.Zf.wi64 (by omega) (by omega)
      refine ⟨(x.tmod n + n).toNat, fun _ => by omega, fun h => (h0 h).elim, ?_⟩
      simp [show ¬ (n : Int) ≤ 0 by omega, h0, show ¬ (n : Int) = 0 by omega, hx, z]
      omega
    · refine ⟨(x.tmod n).toNat, fun _ => by omega, fun h => (h0 h).elim, ?_⟩
      simp [show ¬ (n : Int) ≤ 0 by omega, h0, show ¬ (n : Int) = 0 by omega, hx]
      omega

/-- What is so behind the spoiling. -/
structure Q8 (h : H) (Dx : Nat → Prop) (vx : V) (Sx : List (List Tb)) (Bx By : Nat) (g : H) : Prop where
  x : Ext h g
  sx : SetW Dx g vx Sx
  bx : g.get Bx = some (.cells [vx] 25 false)
  y : ∃ Dy vy Sy, g.get By = some (.cells [vy] 25 false) ∧ SetR Dy g vy Sy ∧ Small Sy
structure Y8 (h : H) (Dx Dy : Nat → Prop) (Bx By : Nat) (g : H) : Prop where
  hx : ∀ b, Dx b → h.n ≤ b ∧ b < g.n ∧ ¬ Dy b ∧ b ≠ By
  hy : ∀ b, Dy b → h.n ≤ b ∧ b < g.n ∧ b ≠ Bx ∧ b ≠ By
  bxy : Bx ≠ By ∧ h.n ≤ By

/-- Something in the other set's blocks is turned. -/
theorem Q8.of {h g g' : H} {Dx Dy : Nat → Prop} {vx vy : V} {Sx Sy : List (List Tb)} {Bx By : Nat} (X : Ext h g) (W : SetW Dx g vx Sx) (rx : g.get Bx = some (.cells [vx] 25 false)) (ry : g.get By = some (.cells [vy] 25 false)) (Y : Y8 h Dx Dy Bx By g) (M : Mod Dy g g') (R : SetR Dy g' vy Sy) (sm : Small Sy) : Q8 h Dx vx Sx Bx By g' :=
  ⟨M.ext X fun c hc hd => by have := (Y.hy c hd).1; omega, W.keep fun b hb hb2 => M.get b hb2 (Y.hx b hb).2.2.1, by rw [M.get Bx (H.get_lt rx) (fun hd => (Y.hy _ hd).2.2.1 rfl), rx],
    Dy, vy, Sy, by rw [M.get By (H.get_lt ry) (fun hd => (Y.hy _ hd).2.2.2 rfl), ry], R, sm⟩

structure E8 (Bx By : Nat) (e : E) : Prop where
  e7 : e.s [0, 1, 2, 5, 6, 7, 8, 9, 10, 11, 12, 13, 14, 15, 17, 19, 45] 7 = .ptr Bx 0
  e8 : e.s [0, 1, 2, 5, 6, 7, 8, 9, 10, 11, 12, 13, 14, 15, 17, 19, 45] 8 = .ptr By 0
end Go.Proofs.Ytfjghgjkpenanaa
