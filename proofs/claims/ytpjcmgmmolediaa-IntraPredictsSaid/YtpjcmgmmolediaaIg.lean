/- direct; mean, paeth, soft. -/
import Derived.Test.YtpjcmgmmolediaaIf
set_option linter.unusedVariables false
set_option linter.unusedSimpArgs false
namespace Go.Proofs.Ytpjcmgmmolediaa
open Go Go.Zf Go.RowKit

theorem w32 (p0 : V) (h : H) : KW 32 [p0] h = f32 KW loopZ p0 h := (callW_eqF _ _ _ _ _ _ rfl).trans (congrFun (congrFun (congrFun (congrFun (r32) _) _) p0) h)
theorem w33 (p0 p1 p2 : V) (h : H) : KW 33 [p0, p1, p2] h = f33 KW loopZ p0 p1 p2 h := (callW_eqF _ _ _ _ _ _ rfl).trans (congrFun (congrFun (congrFun (congrFun (congrFun (congrFun (r33) _) _) p0) p1) p2) h)
theorem w34 (p0 p1 p2 : V) (h : H) : KW 34 [p0, p1, p2] h = f34 KW loopZ p0 p1 p2 h := (callW_eqF _ _ _ _ _ _ rfl).trans (congrFun (congrFun (congrFun (congrFun (congrFun (congrFun (r34) _) _) p0) p1) p2) h)
theorem w35 (p0 p1 : V) (h : H) : KW 35 [p0, p1] h = f35 KW loopZ p0 p1 h := (callW_eqF _ _ _ _ _ _ rfl).trans (congrFun (congrFun (congrFun (congrFun (congrFun (r35) _) _) p0) p1) h)
theorem w53 (p0 p1 : V) (h : H) : KW 53 [p0, p1] h = f53 KW loopZ p0 p1 h := (callW_eqF _ _ _ _ _ _ rfl).trans (congrFun (congrFun (congrFun (congrFun (congrFun (r53) _) _) p0) p1) h)
theorem w54 (p0 p1 : V) (h : H) : KW 54 [p0, p1] h = f54 KW loopZ p0 p1 h := (callW_eqF _ _ _ _ _ _ rfl).trans (congrFun (congrFun (congrFun (congrFun (congrFun (r54) _) _) p0) p1) h)
theorem w55 (p0 p1 p2 p3 p4 p5 p6 p7 : V) (h : H) : KW 55 [p0, p1, p2, p3, p4, p5, p6, p7] h = f55 KW loopZ p0 p1 p2 p3 p4 p5 p6 p7 h := (callW_eqF _ _ _ _ _ _ rfl).trans (congrFun (congrFun (congrFun (congrFun (congrFun (congrFun (congrFun (congrFun (congrFun (congrFun (congrFun (r55) _) _) p0) p1) p2) p3) p4) p5) p6) p7) h)

def dirE (n delta c : Int) (e : Int → Int) : Int → Int :=
  if delta ≠ 0 ∧ 8 ≤ n then fun i => eSm (2 * n - 1) c e (cl (2 * n - 1) i) else if delta ≠ 0 then fun i => eDb e (cl (4 * n) i) else e
def dirU (n delta : Int) : Nat := if delta ≠ 0 ∧ ¬ 8 ≤ n then 1 else 0
def dirS (n delta c angle : Int) (A L : Int → Int) (x y : Int) : Int :=
  if angle = 90 then dirE n delta c A x else if angle = 180 then dirE n delta c L y else slt n (dirU n delta) angle (dirE n delta c A) (dirE n delta c L) x y

theorem tail31 {h : H} {b : Nat} {n c angle : Int} {vA vL : V} {A L : Int → Int} {u : Nat} (hb : h.get b = some (.cells [.int .i64 n, vA, vL, .int .i64 c] 59 false)) (aA : Edge h vA A (-big) big) (aL : Edge h vL L (-big) big) (hn : 4 ≤ n) (hn2 : n ≤ 64) :
    Samp h (.fn (.func 50) [] [.ptr b 0]) (fun x _ => A x) n ∧ Samp h (.fn (.func 51) [] [.ptr b 0]) (fun _ y => L y) n := by
  unfold big at aA aL
  refine ⟨⟨fun h' hx x y x0 x1 y0 y1 => ?_⟩, ⟨fun h' hx x y x0 x1 y0 y1 => ?_⟩⟩
  · obtain ⟨g, k1, k2⟩ := aA.run h' hx x (by omega) (by omega)
    have hb' : h'.get b = _ := (hx.get _ (H.get_lt hb)).trans hb
    rw [cdy_fn]
    show RT _ (KW 50 [.int .i64 x, .int .i64 y, .ptr b 0] h')
    rw [w50, f50, s50]
    simp [rd1_of hb', k1]
    exact ⟨rfl, k2⟩
  · obtain ⟨g, k1, k2⟩ := aL.run h' hx y (by omega) (by omega)
    have hb' : h'.get b = _ := (hx.get _ (H.get_lt hb)).trans hb
    rw [cdy_fn]
    show RT _ (KW 51 [.int .i64 x, .int .i64 y, .ptr b 0] h')
    rw [w51, f51, s51]
    simp [rd1_of hb', k1]
    exact ⟨rfl, k2⟩

/-- The block, its edges smoothed or doubled: so the body's first half goes on. -/
theorem direct31_ok {h : H} {n c : Int} {vA vL : V} {A L : Int → Int} (aA : Edge h vA A (-big) big) (aL : Edge h vL L (-big) big) (hn : 4 ≤ n) (hn2 : n ≤ 64) (hc : 0 ≤ c) (hc2 : c ≤ 255) {angle delta : Int} (a0 : 0 ≤ angle) (a1 : angle ≤ 300) :
    RT (fun w h' => Ext h h' ∧ Samp h' w (dirS n delta c angle A L) n) (KW 31 [.agg [.int .i64 n, vA, vL, .int .i64 c], .int .i64 angle, .int .i64 delta] h) := by
  obtain ⟨h1, hh1⟩ : ∃ g, g = (h.new (.cells [.int .i64 n, vA, vL, .int .i64 c] 59 false)) := ⟨_, rfl⟩
  have x1 : Ext h h1 := by rw [hh1]; exact (Ext.refl h).new _
  have g0 : h1.get h.n = some (.cells [.int .i64 n, vA, vL, .int .i64 c] 59 false) := by rw [hh1, get_new_same]
  have hs1 := aA.same
  have hs2 := aL.same
  have fin31 : ∀ (h2 : H) (vA' vL' : V) (A' L' : Int → Int) (u : Nat), Ext h h2 → h2.get h.n = some (.cells [.int .i64 n, vA', vL', .int .i64 c] 59 false) → Edge h2 vA' A' (-big) big → Edge h2 vL' L' (-big) big → u = 0 ∨ u = 1 →
      ∃ h3 w, KW 52 [.agg [.int .i64 n, vA', vL', .int .i64 c], .int .i64 angle, .int .i64 (u : Int)] h2 = some (.ret w, h3) ∧ Ext h2 h3 ∧
        Samp h2 (.fn (.func 50) [] [.ptr h.n 0]) (fun x _ => A' x) n ∧ Samp h2 (.fn (.func 51) [] [.ptr h.n 0]) (fun _ y => L' y) n ∧ Samp h3 w (slt n u angle A' L') n := by
    intro h2 vA' vL' A' L' u x2 g2 aA' aL' hu
    obtain ⟨w, h3, k1, k2, k3⟩ := (slant52_ok (C := .int .i64 c) aA' aL' hu hn hn2 a0 a1).elim
    have := tail31 (angle := angle) (u := u) g2 aA' aL' hn hn2
    exact ⟨h3, w, k1, k2, this.1, this.2, k3⟩
  rw [w31, f31, s31]
  by_cases hd : delta = 0
  · obtain ⟨h3, w, k1, k2, k3, k4, k5⟩ := fin31 h1 vA vL A L 0 x1 g0 (aA.ext x1) (aL.ext x1) (.inl rfl)
    have e1 : dirS n delta c angle A L = fun x y => if angle = 90 then A x else if angle = 180 then L y else slt n 0 angle A L x y := by
      funext x y; unfold dirS dirE dirU; simp [hd]
    simp at k1
    by_cases c1 : angle = 90
    · simp [bx, ← hh1, hd, gl_t, c1]
      exact ⟨x1, by rw [← c1, ← hd, e1]; simpa [c1] using k3⟩
    · by_cases c2 : angle = 180
      · simp [bx, ← hh1, hd, gl_t, c1, c2]
        exact ⟨x1, by rw [← c2, ← hd, e1]; simpa [c1, c2] using k4⟩
      · simp [bx, ← hh1, hd, gl_t, c1, c2, rdN_of (o := 0) (n := 4) g0 (by simp), k1]
        exact ⟨x1.trans k2, by rw [← hd, e1]; simpa [c1, c2] using k5⟩
  · by_cases h8 : 8 ≤ n
    · obtain ⟨v1, h2, k1, k2, k3⟩ := (smooth48_ok (h := h1) (c := c) (A := vA) (L := vL) (aA.ext x1) hn hn2 (by unfold big; omega) (by unfold big; omega) hc hc2).elim
      obtain ⟨v2, h3, k4, k5, k6⟩ := (smooth48_ok (h := h2) (c := c) (A := vA) (L := vL) (aL.ext (x1.trans k2)) hn hn2 (by unfold big; omega) (by unfold big; omega) hc hc2).elim
      have g1 : h2.get h.n = some (.cells [.int .i64 n, vA, vL, .int .i64 c] 59 false) := by rw [k2.get _ (H.get_lt g0), g0]
      have g2 : h3.get h.n = some (.cells [.int .i64 n, vA, vL, .int .i64 c] 59 false) := by rw [k5.get _ (H.get_lt g1), g1]
      obtain ⟨h4, hh4⟩ : ∃ g, g = h3.put h.n (.cells [.int .i64 n, v1, vL, .int .i64 c] 59 false) := ⟨_, rfl⟩
      have g3 : h4.get h.n = some (.cells [.int .i64 n, v1, vL, .int .i64 c] 59 false) := by rw [hh4, get_put_same (H.get_lt g2)]
      obtain ⟨h5, hh5⟩ : ∃ g, g = h4.put h.n (.cells [.int .i64 n, v1, v2, .int .i64 c] 59 false) := ⟨_, rfl⟩
      have g4 : h5.get h.n = some (.cells [.int .i64 n, v1, v2, .int .i64 c] 59 false) := by rw [hh5, get_put_same (H.get_lt g3)]
      have y1 : ExtX 0 (h.n + 1) h2 h5 := by rw [hh5, hh4]; exact ((k5.x _ _).put (.inl (by omega)) _).put (.inl (by omega)) _
      have y2 : ExtX 0 (h.n + 1) h3 h5 := by rw [hh5, hh4]; exact ((ExtX.refl _ _ _).put (.inl (by omega)) _).put (.inl (by omega)) _
      have hn1 : h1.n = h.n + 1 := by rw [hh1, H.n_new]
      have hn2' := k2.n
      have x5 : Ext h h5 := by rw [hh5, hh4]; exact (((x1.trans k2).trans k5).put (Nat.le_refl _) _).put (Nat.le_refl _) _
      have E1 : Edge h5 v1 (dirE n delta c A) (-big) big := by
        have := (k3.mono (p' := 0) (q' := h.n + 1) (by omega) (by omega)).edge y1
        unfold dirE; simpa [hd, h8] using this
      have E2 : Edge h5 v2 (dirE n delta c L) (-big) big := by
        have := (k6.mono (p' := 0) (q' := h.n + 1) (by omega) (by omega)).edge y2
        unfold dirE; simpa [hd, h8] using this
      obtain ⟨h6, w, m1, m2, m3, m4, m5⟩ := fin31 h5 v1 v2 _ _ 0 x5 g4 E1 E2 (.inl rfl)
      have hu : dirU n delta = 0 := by unfold dirU; simp [h8]
      simp at m1
      have S1 := E1.stZ
      have S2 := E2.stZ
      by_cases c1 : angle = 90
      · simp [bx, ← hh1, hd, h8, rdN_of (o := 0) (n := 4) g0 (by simp), rdN_of (o := 0) (n := 4) g1 (by simp), rd1_of g0, rd1_of g1, k1, k4, S1, S2, wr1_of g2, ← hh4, wr1_of g3, ← hh5, ck, V.same, V.sames, hs1, hs2, c1]
        exact ⟨x5, by rw [← c1]; unfold dirS; simpa [c1] using m3⟩
      · by_cases c2 : angle = 180
        · simp [bx, ← hh1, hd, h8, rdN_of (o := 0) (n := 4) g0 (by simp), rdN_of (o := 0) (n := 4) g1 (by simp), rd1_of g0, rd1_of g1, k1, k4, S1, S2, wr1_of g2, ← hh4, wr1_of g3, ← hh5, ck, V.same, V.sames, hs1, hs2, c1, c2]
          exact ⟨x5, by rw [← c2]; unfold dirS; simpa [c1, c2] using m4⟩
        · simp [bx, ← hh1, hd, h8, rdN_of (o := 0) (n := 4) g0 (by simp), rdN_of (o := 0) (n := 4) g1 (by simp), rdN_of (o := 0) (n := 4) g4 (by simp), rd1_of g0, rd1_of g1, k1, k4, S1, S2, wr1_of g2, ← hh4, wr1_of g3, ← hh5, ck, V.same, V.sames, hs1, hs2, c1, c2, m1]
          exact ⟨x5.trans m2, by unfold dirS; simpa [c1, c2, hu] using m5⟩
    · obtain ⟨v1, h2, k1, k2, k3⟩ := (double49_ok (h := h1) (c := c) (A := vA) (L := vL) (aA.ext x1) hn hn2 (by unfold big; omega) (by unfold big; omega)).elim
      obtain ⟨v2, h3, k4, k5, k6⟩ := (double49_ok (h := h2) (c := c) (A := vA) (L := vL) (aL.ext (x1.trans k2)) hn hn2 (by unfold big; omega) (by unfold big; omega)).elim
      have g1 : h2.get h.n = some (.cells [.int .i64 n, vA, vL, .int .i64 c] 59 false) := by rw [k2.get _ (H.get_lt g0), g0]
      have g2 : h3.get h.n = some (.cells [.int .i64 n, vA, vL, .int .i64 c] 59 false) := by rw [k5.get _ (H.get_lt g1), g1]
      obtain ⟨h4, hh4⟩ : ∃ g, g = h3.put h.n (.cells [.int .i64 n, v1, vL, .int .i64 c] 59 false) := ⟨_, rfl⟩
      have g3 : h4.get h.n = some (.cells [.int .i64 n, v1, vL, .int .i64 c] 59 false) := by rw [hh4, get_put_same (H.get_lt g2)]
      obtain ⟨h5, hh5⟩ : ∃ g, g = h4.put h.n (.cells [.int .i64 n, v1, v2, .int .i64 c] 59 false) := ⟨_, rfl⟩
      have g4 : h5.get h.n = some (.cells [.int .i64 n, v1, v2, .int .i64 c] 59 false) := by rw [hh5, get_put_same (H.get_lt g3)]
      have y1 : ExtX 0 (h.n + 1) h2 h5 := by rw [hh5, hh4]; exact ((k5.x _ _).put (.inl (by omega)) _).put (.inl (by omega)) _
      have y2 : ExtX 0 (h.n + 1) h3 h5 := by rw [hh5, hh4]; exact ((ExtX.refl _ _ _).put (.inl (by omega)) _).put (.inl (by omega)) _
      have hn1 : h1.n = h.n + 1 := by rw [hh1, H.n_new]
      have hn2' := k2.n
      have x5 : Ext h h5 := by rw [hh5, hh4]; exact (((x1.trans k2).trans k5).put (Nat.le_refl _) _).put (Nat.le_refl _) _
      have E1 : Edge h5 v1 (dirE n delta c A) (-big) big := by
        have := (k3.mono (p' := 0) (q' := h.n + 1) (by omega) (by omega)).edge y1
        unfold dirE; simpa [hd, h8] using this
      have E2 : Edge h5 v2 (dirE n delta c L) (-big) big := by
        have := (k6.mono (p' := 0) (q' := h.n + 1) (by omega) (by omega)).edge y2
        unfold dirE; simpa [hd, h8] using this
      obtain ⟨h6, w, m1, m2, m3, m4, m5⟩ := fin31 h5 v1 v2 _ _ 1 x5 g4 E1 E2 (.inr rfl)
      have hu : dirU n delta = 1 := by unfold dirU; simp [h8, hd]
      simp at m1
      have S1 := E1.stZ
      have S2 := E2.stZ
      by_cases c1 : angle = 90
      · simp [bx, ← hh1, hd, h8, rdN_of (o := 0) (n := 4) g0 (by simp), rdN_of (o := 0) (n := 4) g1 (by simp), rd1_of g0, rd1_of g1, k1, k4, S1, S2, wr1_of g2, ← hh4, wr1_of g3, ← hh5, ck, V.same, V.sames, hs1, hs2, c1]
        exact ⟨x5, by rw [← c1]; unfold dirS; simpa [c1] using m3⟩
      · by_cases c2 : angle = 180
        · simp [bx, ← hh1, hd, h8, rdN_of (o := 0) (n := 4) g0 (by simp), rdN_of (o := 0) (n := 4) g1 (by simp), rd1_of g0, rd1_of g1, k1, k4, S1, S2, wr1_of g2, ← hh4, wr1_of g3, ← hh5, ck, V.same, V.sames, hs1, hs2, c1, c2]
          exact ⟨x5, by rw [← c2]; unfold dirS; simpa [c1, c2] using m4⟩
        · simp [bx, ← hh1, hd, h8, rdN_of (o := 0) (n := 4) g0 (by simp), rdN_of (o := 0) (n := 4) g1 (by simp), rdN_of (o := 0) (n := 4) g4 (by simp), rd1_of g0, rd1_of g1, k1, k4, S1, S2, wr1_of g2, ← hh4, wr1_of g3, ← hh5, ck, V.same, V.sames, hs1, hs2, c1, c2, m1]
          exact ⟨x5.trans m2, by unfold dirS; simpa [c1, c2, hu] using m5⟩

end Go.Proofs.Ytpjcmgmmolediaa
