/- IntraAngles. -/
import Derived.Test.YtpjcmgmmolediaaIa
import Derived.Test.YtpjcmgmmolediaaT0
import Derived.Test.YtpjcmgmmolediaaT1
import Derived.Test.YtpjcmgmmolediaaZSimp
import Derived.Test.YtpjcmgmmolediaaZLimW
import Derived.Test.YtpjcmgmmolediaaZArg
set_option linter.unusedVariables false
set_option linter.unusedSimpArgs false
namespace Go.Proofs.Ytpjcmgmmolediaa
open Go Go.Zf Go.RowKit

/-- works answers true, from nothing. -/
theorem works_run : yes (runW Try.prog kp ov 1000000 17 [] H.empty) = true := by kernel_rfl
/-- works and slope are given. -/
def ov2 : Ov := fun f a => if f = 17 then (match a with | [] => some (.bool true) | _ => none) else ov f a
theorem ov2_ok : OvOK Try.prog ov2 where
  ok := fun f a v e i us hv w => by
    unfold ov2 at e
    split at e
    · rename_i hf
      subst hf
      split at e
      · cases e
        cases hv
        exact (closed_callsW mixed kp ov_ok 1000000 works_run w).mono fun e w' ⟨h1, h2⟩ => ⟨_, h1, .bool _, h2⟩
      · cases e
    · exact ov_ok.ok f a v e i us hv w
  enters := fun f a v e => by
    unfold ov2 at e
    split at e
    · rename_i hf
      subst hf
      exact ⟨Try.f17, Try.func17, by kernel_rfl, by kernel_rfl⟩
    · exact ov_ok.enters f a v e

noncomputable def KW : Oracle := callW Try.prog kp ov2
theorem works_ok (h : H) : KW 17 [] h = some (.ret (.bool true), h) := callW_ov rfl

theorem wi64 {n : Int} (h0 : -9223372036854775808 ≤ n) (h1 : n < 9223372036854775808) : IntKind.i64.wrap n = n := by
  unfold IntKind.wrap; simp [IntKind.bits, IntKind.signed]; split <;> omega

theorem w5 (p0 p1 : V) (h : H) : KW 5 [p0, p1] h = f5 KW loopZ p0 p1 h := (callW_eqF _ _ _ _ _ _ rfl).trans (congrFun (congrFun (congrFun (congrFun (congrFun (r5) _) _) p0) p1) h)
theorem w20 (p0 p1 : V) (h : H) : KW 20 [p0, p1] h = f20 KW loopZ p0 p1 h := (callW_eqF _ _ _ _ _ _ rfl).trans (congrFun (congrFun (congrFun (congrFun (congrFun (r20) _) _) p0) p1) h)
theorem w21 (p0 p1 : V) (h : H) : KW 21 [p0, p1] h = f21 KW loopZ p0 p1 h := (callW_eqF _ _ _ _ _ _ rfl).trans (congrFun (congrFun (congrFun (congrFun (congrFun (r21) _) _) p0) p1) h)
theorem w36 (p0 : V) (h : H) : KW 36 [p0] h = f36 KW loopZ p0 h := (callW_eqF _ _ _ _ _ _ rfl).trans (congrFun (congrFun (congrFun (congrFun (r36) _) _) p0) h)

def angleOf (m d : Int) : Int × Bool := if m < 1 ∨ 8 < m ∨ d < -3 ∨ 3 < d then (0, false) else ([90, 180, 45, 135, 113, 157, 203, 67].getD (m - 1).toNat 0 + 3 * d, true)

theorem dir36_ok (m : Int) (h : H) : KW 36 [.int .i64 m] h = some (.ret (.bool (decide (1 ≤ m) && decide (m ≤ 8))), h) := by
  rw [w36, f36, s36]
  by_cases h1 : 1 ≤ m
  · simp [h1]
  · simp [h1]

theorem angle20_ok (m d : Int) (h : H) : KW 20 [.int .i64 m, .int .i64 d] h = some (.ret (.tup [.int .i64 (angleOf m d).1, .bool (angleOf m d).2]), h) := by
  rw [w20, f20, s20]
  unfold angleOf
  by_cases h1 : m < 1
  · simp [h1]
  · by_cases h2 : 8 < m
    · simp [h1, h2]
    · by_cases h3 : d < -3
      · simp [h1, h2, h3]
      · by_cases h4 : 3 < d
        · simp [h1, h2, h3, h4]
        · have a1 : IntKind.i64.wrap (3 * d) = 3 * d := wi64 (by omega) (by omega)
          have a2 : ∀ t : Int, 0 ≤ t → t ≤ 300 → IntKind.i64.wrap (t + 3 * d) = t + 3 * d := fun t _ _ => wi64 (by omega) (by omega)
          have hm : m = 1 ∨ m = 2 ∨ m = 3 ∨ m = 4 ∨ m = 5 ∨ m = 6 ∨ m = 7 ∨ m = 8 := by omega
          rcases hm with rfl | rfl | rfl | rfl | rfl | rfl | rfl | rfl <;>
            simp [h3, h4, bl, fillW, V.cells, splice, wi64, ixA, a1, a2]

theorem angle21_ok (m d : Int) (h : H) : ∃ h', KW 21 [.int .i64 m, .int .i64 d] h = some (.ret (.tup [.int .i64 (angleOf m d).1, .bool (angleOf m d).2]), h') := by
  rw [w21, f21, s21]
  unfold angleOf
  by_cases h1 : m < 1
  · simp [dir36_ok, h1, show ¬ 1 ≤ m by omega]
  · by_cases h2 : 8 < m
    · simp [dir36_ok, h1, h2, show 1 ≤ m by omega, show ¬ m ≤ 8 by omega]
    · by_cases h3 : d < -3
      · simp [dir36_ok, h1, h2, h3, show 1 ≤ m by omega, show m ≤ 8 by omega]
      · by_cases h4 : 3 < d
        · simp [dir36_ok, h1, h2, h3, h4, show 1 ≤ m by omega, show m ≤ 8 by omega]
        · have a1 : IntKind.i64.wrap (3 * d) = 3 * d := wi64 (by omega) (by omega)
          have a2 : ∀ t : Int, 0 ≤ t → t ≤ 300 → IntKind.i64.wrap (t + 3 * d) = t + 3 * d := fun t _ _ => wi64 (by omega) (by omega)
          have hm : m = 1 ∨ m = 2 ∨ m = 3 ∨ m = 4 ∨ m = 5 ∨ m = 6 ∨ m = 7 ∨ m = 8 := by omega
          obtain ⟨h1', hh1⟩ : ∃ g, g = h.new (.cells [.int .i64 90, .int .i64 180, .int .i64 45, .int .i64 135, .int .i64 113, .int .i64 157, .int .i64 203, .int .i64 67] 3 false) := ⟨_, rfl⟩
          have g1 : h1'.get h.n = some (.cells [.int .i64 90, .int .i64 180, .int .i64 45, .int .i64 135, .int .i64 113, .int .i64 157, .int .i64 203, .int .i64 67] 3 false) := by rw [hh1]; exact get_new_same
          rcases hm with rfl | rfl | rfl | rfl | rfl | rfl | rfl | rfl <;>
            simp [dir36_ok, h3, h4, bs, fillW, V.cells, splice, wi64, ← hh1, rd1_of g1, a1, a2]
end Go.Proofs.Ytpjcmgmmolediaa
