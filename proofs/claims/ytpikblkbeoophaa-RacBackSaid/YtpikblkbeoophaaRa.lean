/- The program's range coder and the reference's: what each function does to the abstract heap. -/
import Derived.Test.YtpikblkbeoophaaT0
import Derived.Test.YtpikblkbeoophaaZSimp
set_option linter.unusedVariables false
set_option linter.unusedSimpArgs false
namespace Go.Proofs.Ytpikblkbeoophaa
open Go Go.Zf

noncomputable abbrev KK : Oracle := callZ Try.prog kp

def u32 (n : Int) : V := .int .u32 n
def u64 (n : Int) : V := .int .u64 n
def i64 (n : Int) : V := .int .i64 n

theorem w32 {n : Int} (h0 : 0 ≤ n) (h1 : n < 4294967296) : IntKind.u32.wrap n = n := by
  unfold IntKind.wrap; simp [IntKind.bits, IntKind.signed]; omega
theorem w64 {n : Int} (h0 : 0 ≤ n) (h1 : n < 18446744073709551616) : IntKind.u64.wrap n = n := by
  unfold IntKind.wrap; simp [IntKind.bits, IntKind.signed]; omega
theorem wi64 {n : Int} (h0 : -9223372036854775808 ≤ n) (h1 : n < 9223372036854775808) : IntKind.i64.wrap n = n := by
  unfold IntKind.wrap; simp [IntKind.bits, IntKind.signed]; omega

/-- narrow: a range's part. -/
theorem narrow_ok (rng lo hi : Int) (hr0 : 0 ≤ rng) (hr : rng < 4294967296) (hl : 0 ≤ lo) (hlh : lo < hi) (hh : hi ≤ 32768) (h : H) :
    KK 28 [u32 rng, u32 lo, u32 hi] h = some (.ret (.tup [u32 (rng / 32768 * lo), u32 (if hi = 32768 then rng - rng / 32768 * lo else rng / 32768 * (hi - lo))]), h) := by
  have e1 : (rng.fdiv (2 ^ (min 15 IntKind.u32.bits))) = rng / 32768 := by
    rw [Int.fdiv_eq_ediv_of_nonneg _ (by decide)]; rfl
  have hq : rng / 32768 < 131072 := by omega
  have hq0 : 0 ≤ rng / 32768 := by omega
  generalize hR : rng / 32768 = r at *
  have m1 : r * lo ≤ r * 32768 := Int.mul_le_mul_of_nonneg_left (by omega) hq0
  have m0 : 0 ≤ r * lo := Int.mul_nonneg hq0 hl
  have m2 : r * (hi - lo) ≤ r * 32768 := Int.mul_le_mul_of_nonneg_left (by omega) hq0
  have m3 : 0 ≤ r * (hi - lo) := Int.mul_nonneg hq0 (by omega)
  rw [KK, c28, f28, s28]
  simp only [u32]
  by_cases hc : hi = 32768
  · subst hc
    simp [e1, w32 m0 (by omega), w32 (n := rng - r * lo) (by omega) (by omega)]
  · simp [e1, hc, w32 m0 (by omega), w32 (n := hi - lo) (by omega) (by omega), w32 m3 (by omega)]

end Go.Proofs.Ytpikblkbeoophaa
