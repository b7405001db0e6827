/- IntraAngles: its loops, the call. -/
import Derived.Test.YtpjcmgmmolediaaIb
import Derived.OpenShut
set_option linter.unusedVariables false
set_option linter.unusedSimpArgs false
namespace Go.Proofs.Ytpjcmgmmolediaa
open Go Go.Zf Go.RowKit

theorem loop5_0 (i : Int) : ∀ (m : Nat) (d : Int) (h : H) (e : E), d + m = 5 → -10 ≤ d → e.s [0, 1, 4, 5, 6, 7, 8, 9, 10, 11, 12, 13, 14] 5 = .int .i64 i → e.s [0, 1, 4, 5, 6, 7, 8, 9, 10, 11, 12, 13, 14] 6 = .int .i64 d →
    ∃ e' h', loopZ (l5_0 KW loopZ) e h = some ⟨.ex 2, e', h'⟩ ∧ e'.s [0, 1, 4, 5, 6, 7, 8, 9, 10, 11, 12, 13, 14] 0 = e.s [0, 1, 4, 5, 6, 7, 8, 9, 10, 11, 12, 13, 14] 0 ∧ e'.s [0, 1, 4, 5, 6, 7, 8, 9, 10, 11, 12, 13, 14] 1 = e.s [0, 1, 4, 5, 6, 7, 8, 9, 10, 11, 12, 13, 14] 1 ∧ e'.s [0, 1, 4, 5, 6, 7, 8, 9, 10, 11, 12, 13, 14] 5 = .int .i64 i := by
  intro m
  induction m with
  | zero =>
    intro d h e hd hd' h5 h6
    rw [loopZ_eq]
    simp [l5_0, h5, h6, show ¬ d < 5 by omega]
  | succ m ih =>
    intro d h e hd hd' h5 h6
    obtain ⟨h1, k1⟩ := angle21_ok i d h
    have k0 := angle20_ok i d h
    have hw : IntKind.i64.wrap (d + 1) = d + 1 := wi64 (by omega) (by omega)
    rw [loopZ_eq]
    simp [l5_0, h5, h6, show d < 5 by omega, k0, k1, hw]
    obtain ⟨e', h', i1, i2, i3, i4⟩ := ih (d + 1) h1 ⟨[e.s [0, 1, 4, 5, 6, 7, 8, 9, 10, 11, 12, 13, 14] 0, e.s [0, 1, 4, 5, 6, 7, 8, 9, 10, 11, 12, 13, 14] 1, e.s [0, 1, 4, 5, 6, 7, 8, 9, 10, 11, 12, 13, 14] 4, .int .i64 i, .int .i64 (d + 1), .int .i64 (angleOf i d).1, .bool (angleOf i d).2, .int .i64 (angleOf i d).1, .bool (angleOf i d).2,
      e.s [0, 1, 4, 5, 6, 7, 8, 9, 10, 11, 12, 13, 14] 11, e.s [0, 1, 4, 5, 6, 7, 8, 9, 10, 11, 12, 13, 14] 12, e.s [0, 1, 4, 5, 6, 7, 8, 9, 10, 11, 12, 13, 14] 13, e.s [0, 1, 4, 5, 6, 7, 8, 9, 10, 11, 12, 13, 14] 14], 6, .int .i64 (d + 1)⟩ (by omega) (by omega) (by simp) (by simp)
    exact ⟨e', ⟨h', i1⟩, by simpa using i2, by simpa using i3, by simpa using i4⟩

theorem loop5_1 : ∀ (m : Nat) (i : Int) (h : H) (e : E), i + m = 15 → -10 ≤ i → e.s [0, 1, 4, 5, 6, 7, 8, 9, 10, 11, 12, 13, 14] 5 = .int .i64 i →
    ∃ e' h', loopZ (l5_1 KW loopZ) e h = some ⟨.ex 0, e', h'⟩ ∧ e'.s [0, 1, 4, 5, 6, 7, 8, 9, 10, 11, 12, 13, 14] 0 = e.s [0, 1, 4, 5, 6, 7, 8, 9, 10, 11, 12, 13, 14] 0 ∧ e'.s [0, 1, 4, 5, 6, 7, 8, 9, 10, 11, 12, 13, 14] 1 = e.s [0, 1, 4, 5, 6, 7, 8, 9, 10, 11, 12, 13, 14] 1 := by
  intro m
  induction m with
  | zero =>
    intro i h e hi hi' h5
    rw [loopZ_eq]
    simp [l5_1, h5, show ¬ i < 15 by omega]
  | succ m ih =>
    intro i h e hi hi' h5
    obtain ⟨e1, h1, a1, a2, a3, a4⟩ := loop5_0 i 9 (-4) h ⟨[e.s [0, 1, 4, 5, 6, 7, 8, 9, 10, 11, 12, 13, 14] 0, e.s [0, 1, 4, 5, 6, 7, 8, 9, 10, 11, 12, 13, 14] 1, e.s [0, 1, 4, 5, 6, 7, 8, 9, 10, 11, 12, 13, 14] 4, .int .i64 i, .int .i64 (-4), e.s [0, 1, 4, 5, 6, 7, 8, 9, 10, 11, 12, 13, 14] 7, e.s [0, 1, 4, 5, 6, 7, 8, 9, 10, 11, 12, 13, 14] 8, e.s [0, 1, 4, 5, 6, 7, 8, 9, 10, 11, 12, 13, 14] 9,
      e.s [0, 1, 4, 5, 6, 7, 8, 9, 10, 11, 12, 13, 14] 10, e.s [0, 1, 4, 5, 6, 7, 8, 9, 10, 11, 12, 13, 14] 11, e.s [0, 1, 4, 5, 6, 7, 8, 9, 10, 11, 12, 13, 14] 12, e.s [0, 1, 4, 5, 6, 7, 8, 9, 10, 11, 12, 13, 14] 13, e.s [0, 1, 4, 5, 6, 7, 8, 9, 10, 11, 12, 13, 14] 14], 6, .int .i64 (-4)⟩ (by omega) (by omega) (by simp) (by simp)
    simp at a2 a3
    have hw : IntKind.i64.wrap (i + 1) = i + 1 := wi64 (by omega) (by omega)
    rw [loopZ_eq]
    simp [l5_1, h5, show i < 15 by omega, a1, a4, hw]
    obtain ⟨e', h', i1, i2, i3⟩ := ih (i + 1) h1 ⟨[e1.s [0, 1, 4, 5, 6, 7, 8, 9, 10, 11, 12, 13, 14] 0, e1.s [0, 1, 4, 5, 6, 7, 8, 9, 10, 11, 12, 13, 14] 1, e1.s [0, 1, 4, 5, 6, 7, 8, 9, 10, 11, 12, 13, 14] 4, .int .i64 (i + 1), e1.s [0, 1, 4, 5, 6, 7, 8, 9, 10, 11, 12, 13, 14] 6, e1.s [0, 1, 4, 5, 6, 7, 8, 9, 10, 11, 12, 13, 14] 7, e1.s [0, 1, 4, 5, 6, 7, 8, 9, 10, 11, 12, 13, 14] 8, e1.s [0, 1, 4, 5, 6, 7, 8, 9, 10, 11, 12, 13, 14] 9,
      e1.s [0, 1, 4, 5, 6, 7, 8, 9, 10, 11, 12, 13, 14] 10, e1.s [0, 1, 4, 5, 6, 7, 8, 9, 10, 11, 12, 13, 14] 11, e1.s [0, 1, 4, 5, 6, 7, 8, 9, 10, 11, 12, 13, 14] 12, e1.s [0, 1, 4, 5, 6, 7, 8, 9, 10, 11, 12, 13, 14] 13, e1.s [0, 1, 4, 5, 6, 7, 8, 9, 10, 11, 12, 13, 14] 14], 5, .int .i64 (i + 1)⟩ (by omega) (by omega) (by simp)
    exact ⟨e', ⟨h', i1⟩, by rw [i2]; simpa using a2, by rw [i3]; simpa using a3⟩

theorem angles5_ok (m d : Int) (h : H) : ∃ h', KW 5 [.int .i64 m, .int .i64 d] h = some (.ret (.bool true), h') := by
  obtain ⟨e1, h1, a1, a2, a3⟩ := loop5_1 16 (-1) h ⟨[.int .i64 m, .int .i64 d, .bool false, .int .i64 (-1), .und, .und, .und, .und, .und, .und, .und, .und, .und], 5, .int .i64 (-1)⟩ (by omega) (by omega) (by simp)
  simp at a2 a3
  obtain ⟨h2, k1⟩ := angle21_ok m d h1
  have k0 := angle20_ok m d h1
  refine ⟨h2, ?_⟩
  rw [w5, f5, s5]
  simp at a1
  simp [a1, a2, a3, k0, k1, works_ok]

theorem core5 {Hd : Type} {enc : TypeId × Value → Hd} {W : World} {base : Nat} {v0 v1 : Value} {d0 d1 : DataW Hd} {p0 p1 : List MemPlace} {k : Prop}
    (hok : Value.okWide Try.prog W .any base 3 v0) (hd : DataW.Trod enc Try.prog W 0 (fun _ => true) true 3 v0 d0 p0)
    (hok1 : Value.okWide Try.prog W .any base 3 v1) (hd1 : DataW.Trod enc Try.prog W 0 (fun _ => true) true 3 v1 d1 p1) (hk : k) :
    Calls Try.prog 5 #[v0, v1] W fun e W' => e = .returned (.bool true) ∧ Go.RowKit.Below W.heap.size W W' := by
  obtain ⟨m, rfl, _, _⟩ := Go.ChangeShapes.open_int Try.underlying3 hok hd
  obtain ⟨d, rfl, _, _⟩ := Go.ChangeShapes.open_int Try.underlying3 hok1 hd1
  obtain ⟨h', hr⟩ := angles5_ok m d H.empty
  have a := ArgH.empty W
  exact law_calls (us := [.int .i64 m, .int .i64 d]) (callW_ok mixed kp ov2_ok hr) a.rel (.cons (.int _ _) (.cons (.int _ _) .nil)) a.dom a.no
end Go.Proofs.Ytpjcmgmmolediaa
