/- SymsLearn: the law's core. -/
import Derived.Test.YtfjghgjkpenanaaSba
set_option linter.unusedVariables false
set_option linter.unusedSimpArgs false
set_option maxRecDepth 20000
namespace Go.Proofs.Ytfjghgjkpenanaa
open Go Go.Zf Go.RowKit Go.WideShapes
open Go.Zf (wi64)

theorem learn7_ok {h : H} {kd ct : Int} {v : V} {l : List Int} (A : SlI h v l) : RT (fun w h' => w = .bool true ∧ Ext h h') (KW 7 [.int .i64 kd, .int .i64 ct, v] h) := by
  obtain ⟨w, g1, a1, rfl, x1⟩ := (awake22_ok h).elim
  obtain ⟨w, g2, a2, rfl, x2⟩ := (may28_ok ⟨false, 0, kd, ct, 0⟩ g1).elim
  obtain ⟨K, cc, hK, hc, y1, y2, y3, y4⟩ := may_sym 0 kd ct 0
  obtain ⟨y, hy⟩ : ∃ y, y = (⟨false, 0, kd, ct, 0⟩ : Dd).may := ⟨_, rfl⟩
  rw [← hy] at a2 y1 y2 y3 y4
  obtain ⟨g3, hg3⟩ : ∃ z, z = (g2.new (.cells [.bool false, .int .i64 0, .int .i64 0, .int .i64 0, .int .i64 0] 43 false)).put g2.n (.cells y.cells 43 false) := ⟨_, rfl⟩
  have x3 : Ext g2 g3 := by rw [hg3]; exact ((Ext.refl g2).new _).put (Nat.le_refl _) _
  have n3 : g3.n = g2.n + 1 := by rw [hg3, H.n_put, H.n_new]
  have r3 : g3.get g2.n = some (.cells y.cells 43 false) := by rw [hg3, get_put_same (by rw [H.n_new]; omega)]
  have hst : (g2.new (.cells [.bool false, .int .i64 0, .int .i64 0, .int .i64 0, .int .i64 0] 43 false)).wrN g2.n 0 y.cells = some g3 := by
    rw [wrN_of (o := 0) get_new_same (by simp [Dd.cells]), hg3, splice]; simp [Dd.cells]
  have hlen : y.cells.length = 5 := rfl
  obtain ⟨w, g4, a4, v4, rfl, W4, x4⟩ := (default27_ok g3).elim
  obtain ⟨w, g5, a5, p, rfl, C5, x5⟩ := (writer12_ok W4.setR defS_ok true).elim
  obtain ⟨w, g6, a6, v6, rfl, W6, x6⟩ := (default27_ok g5).elim
  obtain ⟨g7, hg7⟩ : ∃ z, z = (g6.new (.cells [.nils] 25 false)).put g6.n (.cells [v6] 25 false) := ⟨_, rfl⟩
  have x7 : Ext g6 g7 := by rw [hg7]; exact ((Ext.refl g6).new _).put (Nat.le_refl _) _
  have n7 : g7.n = g6.n + 1 := by rw [hg7, H.n_put, H.n_new]
  have r7 : g7.get g6.n = some (.cells [v6] 25 false) := by rw [hg7, get_put_same (by rw [H.n_new]; omega)]
  have m1 := x1.n
  have m2 := x2.n
  have m4 := x4.n
  have m5 := x5.n
  have m6 := x6.n
  have X : Ext h g7 := (((((x1.trans x2).trans x3).trans x4).trans x5).trans x6).trans x7
  have q3 : g7.get g2.n = some (.cells y.cells 43 false) := by rw [x7.get _ (by omega), x6.get _ (by omega), x5.get _ (by omega), x4.get _ (by omega), r3]
  obtain ⟨M, hM⟩ : ∃ M, M = min l.length 60 := ⟨_, rfl⟩
  have hyc : y.cells = (⟨false, y.n, K, cc, y.v⟩ : Dd).cells := by
    simp only [Dd.cells, y1, y2, y3]
  obtain ⟨e', g', b1, I⟩ := loop7 (h0 := h) (w := v6) (B7 := g2.n) (B10 := g6.n) (M := M) hK hc hM A (e := ⟨[.int .i64 kd, .int .i64 ct, v, .bool false, .ptr g2.n 0, .ptr p 0, .int .i64 0, .ptr g6.n 0, .int .i64 0, .tup [], .tup [], .tup [], .tup [], .tup [], .tup []], 11, .int .i64 0⟩) (g := g7) (by omega) (by omega)
    ⟨Nat.le_refl _, X, ⟨fun b => g4.n ≤ b ∧ b < g5.n, fun b => g5.n ≤ b ∧ b < g6.n, p, 0, _, ((C5.mono fun b hb hd => ⟨hd, hb⟩).ext x6).ext x7, (W6.mono fun b hb hd => ⟨hd, hb⟩).ext x7, fun b hb => ⟨by omega, by omega, by omega, by omega, by omega⟩, fun b hb => ⟨by omega, by omega, by omega, by omega⟩, by omega, rfl, rfl, by simp⟩, ⟨_, _, by rw [q3, hyc]⟩, r7, by simp, by simp, by simp, by simp⟩
  obtain ⟨_, x', ⟨D, F, p', m, st, C, W, hD, hF, hm, hw, had, e8⟩, _, r10, _, _, e10, _⟩ := I
  obtain ⟨w, g8, a8, v8, rfl, W8, x8⟩ := (set17_ok C).elim
  obtain ⟨g9, hg9⟩ : ∃ z, z = (g8.new (.cells [.nils] 25 false)).put g8.n (.cells [v8] 25 false) := ⟨_, rfl⟩
  have x9 : Ext g8 g9 := by rw [hg9]; exact ((Ext.refl g8).new _).put (Nat.le_refl _) _
  have r9 : g9.get g8.n = some (.cells [v8] 25 false) := by rw [hg9, get_put_same (by rw [H.n_new]; omega)]
  have m8 := x8.n
  have q10 : g9.get g6.n = some (.cells [v6] 25 false) := by rw [x9.get _ (by have := H.get_lt r10; omega), x8.get _ (H.get_lt r10), r10]
  obtain ⟨w, g10, a10, rfl, x10⟩ := (same31_ok (W8.setR.ext x9) ((W.setR.ext x8).ext x9) C.ok.1.small).elim
  rw [w7, f7, s7]
  simp [a1, bl, fillW, splice, show (.agg [.bool false, .int .i64 0, .int .i64 kd, .int .i64 ct, .int .i64 0] : V) = .agg (⟨false, 0, kd, ct, 0⟩ : Dd).cells from rfl, a2, nw, hst, a4, a5, a6, hlen, wrN_of (o := 0) get_new_same, ← hg7, b1, e8, a8, ← hg9, rdN_of (o := 0) (n := 1) r9 (by simp), rdN_of (o := 0) (n := 1) q10 (by simp), e10, a10, V.cells]
  exact ⟨rfl, ((x'.trans x8).trans x9).trans x10⟩

theorem core7 {Hd : Type} {enc : TypeId × Value → Hd} {W : World} {base : Nat} {v0 v1 v2 : Value} {d0 d1 d2 : DataW Hd} {p0 p1 p2 : List MemPlace}
    (hok0 : Value.okWide Try.prog W .any base 3 v0) (hd0 : DataW.Trod enc Try.prog W 0 (fun _ => true) true 3 v0 d0 p0)
    (hok1 : Value.okWide Try.prog W .any base 3 v1) (hd1 : DataW.Trod enc Try.prog W 0 (fun _ => true) true 3 v1 d1 p1)
    (hok2 : Value.okWide Try.prog W .any base 69 v2) (hd2 : DataW.Trod enc Try.prog W 0 (fun _ => true) true 69 v2 d2 p2)
    (hk : (DataW.weightsEach Try.prog [3, 3, 69] [d0, d1, d2]).all (· ≤ reachBytes) = true) :
    Calls Try.prog 7 #[v0, v1, v2] W fun e W' => e = .returned (.bool true) ∧ Go.RowKit.Below W.heap.size W W' := by
  obtain ⟨kd, rfl, _, _, wk⟩ := Go.ChangeShapes.open_int Try.underlying3 hok0 hd0
  obtain ⟨ct, rfl, _, _, wc⟩ := Go.ChangeShapes.open_int Try.underlying3 hok1 hd1
  obtain ⟨i, h, x, l, a, _, hx, hA, X, hl⟩ := argInts (ArgH.empty W) hok2 hd2
  obtain ⟨w, h'', hrun, rfl, _⟩ := (learn7_ok (kd := kd) (ct := ct) hA).elim
  exact law_calls (us := [.int .i64 kd, .int .i64 ct, v2]) (callW_ok mixed kp ov2_ok hrun) a.rel (.cons (.int _ _) (.cons (.int _ _) (.cons hx .nil))) a.dom a.no
end Go.Proofs.Ytfjghgjkpenanaa
