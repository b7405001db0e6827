/- EqBytes. -/
import Derived.Test.YtpikblkbeoophaaRf
set_option linter.unusedVariables false
set_option linter.unusedSimpArgs false
namespace Go.Proofs.Ytpikblkbeoophaa
open Go Go.Zf

/-- A slice's elements: its cells hold these bytes. -/
def SlAt (h : H) (v : V) (l : List Nat) : Prop :=
  (v = .nils ∧ l = []) ∨ ∃ b o k c e ro, v = .sl b o l.length k ∧ h.get b = some (.cells c e ro) ∧ ∀ i, i < l.length → c[o + i]? = (bytesV l)[i]?

theorem loop15 {h : H} {v w : V} {l : List Nat} (hv : SlAt h v l) (hw : SlAt h w l) (hlen : l.length < 9223372036854775807) : ∀ (k i : Nat) (e : E), k + i = l.length →
    e.s [0, 1, 4, 5] 0 = v → e.s [0, 1, 4, 5] 1 = w → e.s [0, 1, 4, 5] 5 = .int .i64 i →
    ∃ e', loopZ (l15_0 KK loopZ) e h = some ⟨.ex 0, e', h⟩
  | 0, i, e, hk, h0, h1, h5 => by
    have hlv : lnS v = some (.int .i64 l.length) := by
      rcases hv with ⟨rfl, rfl⟩ | ⟨b, o, k, c, e, ro, rfl, _, _⟩ <;> simp
    rw [loopZ_eq]
    simp [l15_0, h0, h1, h5, hlv, show ¬ (i : Int) < l.length by omega, show ¬ i < l.length by omega]
  | k + 1, i, e, hk, h0, h1, h5 => by
    have hil : i < l.length := by omega
    obtain ⟨x, hx⟩ : ∃ x, l[i]? = some x := ⟨l[i], by simp [hil]⟩
    have hbx : (bytesV l)[i]? = some (.int .u8 x) := by simp [bytesV, hx]
    have one : ∀ {v : V}, SlAt h v l → ∃ b o, iaS 1 v (.int .i64 i) = some (.ptr b o) ∧ h.rd1 b o = some (.int .u8 x) := by
      intro v hv
      rcases hv with ⟨rfl, rfl⟩ | ⟨b, o, k, c, e, ro, rfl, hb, hc⟩
      · simp at hil
      · exact ⟨b, o + i, by simp [hil], by rw [rd1_of hb, hc i hil, hbx]⟩
    obtain ⟨b1, o1, a1, a2⟩ := one hv
    obtain ⟨b2, o2, a3, a4⟩ := one hw
    have hlv : lnS v = some (.int .i64 l.length) := by
      rcases hv with ⟨rfl, rfl⟩ | ⟨b, o, k, c, e, ro, rfl, _, _⟩ <;> simp
    have hwr : IntKind.i64.wrap ((i : Int) + 1) = ((i + 1 : Nat) : Int) := by rw [wi64 (by omega) (by omega)]; simp
    rw [loopZ_eq]
    simp [l15_0, h0, h1, h5, hlv, show (i : Int) < l.length by omega, hil, a1, a2, a3, a4]
    rw [hwr]
    exact loop15 hv hw hlen k (i + 1) ⟨[v, w, e.s [0, 1, 4, 5] 4, .int .i64 ((i + 1 : Nat) : Int)], 5, .int .i64 ((i + 1 : Nat) : Int)⟩ (by omega) (by simp) (by simp) (by simp)
theorem eq15_ok {h : H} {v w : V} {l : List Nat} (hv : SlAt h v l) (hw : SlAt h w l) (hlen : l.length < 9223372036854775807) :
    KK 15 [v, w] h = some (.ret (.bool true), h) := by
  have hl : ∀ {v : V}, SlAt h v l → lnS v = some (.int .i64 l.length) := by
    intro v hv
    rcases hv with ⟨rfl, rfl⟩ | ⟨b, o, k, c, e, ro, rfl, _, _⟩ <;> simp
  obtain ⟨e', he⟩ := loop15 hv hw hlen l.length 0 ⟨[v, w, .bool false, .int .i64 0], 5, .int .i64 0⟩ (by omega) (by simp) (by simp) (by simp)
  rw [KK, c15, f15, s15]
  simp [hl hv, hl hw, he]
end Go.Proofs.Ytpikblkbeoophaa
