/- SymsNames: the law's core. -/
import Derived.Test.YtfjghgjkpenanaaSat
set_option linter.unusedVariables false
set_option linter.unusedSimpArgs false
set_option maxRecDepth 20000
namespace Go.Proofs.Ytfjghgjkpenanaa
open Go Go.Zf Go.RowKit Go.WideShapes
open Go.Zf (wi64)

theorem bs_shapes (h : H) : bs h 3 64 (List.replicate 64 (.int .i64 0)) [(some (0, 1), (.int .i64 8)), (some (1, 1), (.int .i64 10)), (some (2, 1), (.int .i64 4)), (some (3, 1), (.int .i64 8)), (some (4, 1), (.int .i64 3)), (some (5, 1), (.int .i64 2)), (some (6, 1), (.int .i64 3)), (some (7, 1), (.int .i64 2)), (some (8, 1), (.int .i64 4)), (some (9, 1), (.int .i64 13)), (some (10, 1), (.int .i64 8)), (some (11, 1), (.int .i64 7)), (some (12, 1), (.int .i64 1)), (some (13, 1), (.int .i64 13)), (some (14, 1), (.int .i64 1)), (some (15, 1), (.int .i64 14)), (some (16, 1), (.int .i64 1)), (some (17, 1), (.int .i64 8)), (some (18, 1), (.int .i64 2)), (some (19, 1), (.int .i64 16)), (some (20, 1), (.int .i64 1)), (some (21, 1), (.int .i64 2)), (some (22, 1), (.int .i64 3)), (some (23, 1), (.int .i64 3)), (some (24, 1), (.int .i64 3)), (some (25, 1), (.int .i64 9)), (some (26, 1), (.int .i64 1)), (some (27, 1), (.int .i64 2)), (some (28, 1), (.int .i64 3)), (some (29, 1), (.int .i64 3)), (some (30, 1), (.int .i64 1)), (some (31, 1), (.int .i64 2)), (some (32, 1), (.int .i64 3)), (some (33, 1), (.int .i64 4)), (some (34, 1), (.int .i64 1)), (some (35, 1), (.int .i64 4)), (some (36, 1), (.int .i64 2)), (some (37, 1), (.int .i64 11)), (some (38, 1), (.int .i64 2)), (some (39, 1), (.int .i64 8)), (some (40, 1), (.int .i64 1)), (some (41, 1), (.int .i64 3)), (some (42, 1), (.int .i64 1)), (some (43, 1), (.int .i64 2)), (some (44, 1), (.int .i64 4)), (some (45, 1), (.int .i64 2)), (some (46, 1), (.int .i64 2)), (some (47, 1), (.int .i64 5)), (some (48, 1), (.int .i64 2)), (some (49, 1), (.int .i64 7)), (some (50, 1), (.int .i64 2)), (some (51, 1), (.int .i64 9)), (some (52, 1), (.int .i64 2)), (some (53, 1), (.int .i64 11)), (some (54, 1), (.int .i64 2)), (some (55, 1), (.int .i64 3)), (some (56, 1), (.int .i64 10)), (some (57, 1), (.int .i64 4)), (some (58, 1), (.int .i64 14)), (some (59, 1), (.int .i64 4)), (some (60, 1), (.int .i64 6)), (some (61, 1), (.int .i64 2)), (some (62, 1), (.int .i64 3)), (some (63, 1), (.int .i64 2))] = some (.sl h.n 0 64 (.ex 64), h.new (.cells shL 3 false)) := by kernel_rfl
theorem bs_255 (h : H) : bs h 5 5 [(.int .u8 0), (.int .u8 0), (.int .u8 0), (.int .u8 0), (.int .u8 0)] [(some (0, 1), (.int .u8 255)), (some (1, 1), (.int .u8 255)), (some (2, 1), (.int .u8 255)), (some (3, 1), (.int .u8 255)), (some (4, 1), (.int .u8 255))] = some (.sl h.n 0 5 (.ex 5), h.new (.cells (bytesV [255, 255, 255, 255, 255]) 5 false)) := by kernel_rfl
def dosL : List Dd := [⟨false, 0, 32, 0, 0⟩, ⟨false, 0, (-1), 0, 0⟩, ⟨false, 0, 2, 3, 0⟩, ⟨false, 0, 2, (-1), 0⟩, ⟨false, 0, 2, 0, 2⟩, ⟨false, 0, 2, 0, (-1)⟩, ⟨true, 31, 0, 0, 0⟩, ⟨true, (-1), 0, 0, 0⟩, ⟨true, 30, 0, 0, 1073741823⟩, ⟨true, 3, 0, 0, 8⟩, ⟨true, 3, 0, 0, (-1)⟩, ⟨true, 0, 0, 0, 0⟩]
def dosC : List V := dosL.flatMap Dd.cells
theorem bs_dos (h : H) : bs h 43 12 [.bool false, .int .i64 0, .int .i64 0, .int .i64 0, .int .i64 0, .bool false, .int .i64 0, .int .i64 0, .int .i64 0, .int .i64 0, .bool false, .int .i64 0, .int .i64 0, .int .i64 0, .int .i64 0, .bool false, .int .i64 0, .int .i64 0, .int .i64 0, .int .i64 0, .bool false, .int .i64 0, .int .i64 0, .int .i64 0, .int .i64 0, .bool false, .int .i64 0, .int .i64 0, .int .i64 0, .int .i64 0, .bool false, .int .i64 0, .int .i64 0, .int .i64 0, .int .i64 0, .bool false, .int .i64 0, .int .i64 0, .int .i64 0, .int .i64 0, .bool false, .int .i64 0, .int .i64 0, .int .i64 0, .int .i64 0, .bool false, .int .i64 0, .int .i64 0, .int .i64 0, .int .i64 0, .bool false, .int .i64 0, .int .i64 0, .int .i64 0, .int .i64 0, .bool false, .int .i64 0, .int .i64 0, .int .i64 0, .int .i64 0] [(some (0, 5), .agg [.bool false, .int .i64 0, .int .i64 32, .int .i64 0, .int .i64 0]), (some (5, 5), .agg [.bool false, .int .i64 0, .int .i64 (-1), .int .i64 0, .int .i64 0]), (some (10, 5), .agg [.bool false, .int .i64 0, .int .i64 2, .int .i64 3, .int .i64 0]), (some (15, 5), .agg [.bool false, .int .i64 0, .int .i64 2, .int .i64 (-1), .int .i64 0]), (some (20, 5), .agg [.bool false, .int .i64 0, .int .i64 2, .int .i64 0, .int .i64 2]), (some (25, 5), .agg [.bool false, .int .i64 0, .int .i64 2, .int .i64 0, .int .i64 (-1)]), (some (30, 5), .agg [.bool true, .int .i64 31, .int .i64 0, .int .i64 0, .int .i64 0]), (some (35, 5), .agg [.bool true, .int .i64 (-1), .int .i64 0, .int .i64 0, .int .i64 0]), (some (40, 5), .agg [.bool true, .int .i64 30, .int .i64 0, .int .i64 0, .int .i64 1073741823]), (some (45, 5), .agg [.bool true, .int .i64 3, .int .i64 0, .int .i64 0, .int .i64 8]), (some (50, 5), .agg [.bool true, .int .i64 3, .int .i64 0, .int .i64 0, .int .i64 (-1)]), (some (55, 5), .agg [.bool true, .int .i64 0, .int .i64 0, .int .i64 0, .int .i64 0])] = some (.sl h.n 0 12 (.ex 12), h.new (.cells dosC 43 false)) := by kernel_rfl
theorem dosAt {h : H} {b : Nat} (hb : h.get b = some (.cells dosC 43 false)) : DosAt h (.sl b 0 12 (.ex 12)) dosL := by
  refine .inr ⟨b, _, _, _, _, rfl, hb, fun i x hx => ?_⟩
  have hi : i < 12 := lt_of_get hx
  have : i = 0 ∨ i = 1 ∨ i = 2 ∨ i = 3 ∨ i = 4 ∨ i = 5 ∨ i = 6 ∨ i = 7 ∨ i = 8 ∨ i = 9 ∨ i = 10 ∨ i = 11 := by omega
  rcases this with rfl | rfl | rfl | rfl | rfl | rfl | rfl | rfl | rfl | rfl | rfl | rfl <;> (cases hx; exact ⟨by unfold Dd.fit fit; simp, by decide, rfl⟩)

theorem loop9_0 {h0 : H} {e : E} {g : H} (x : Ext h0 g) (e1 : e.s k9 1 = .nilp) (e2 : e.s k9 2 = .int .i64 (0 : Nat)) :
    ∃ e' g', loopZ (l9_0 KW loopZ) e g = some ⟨.ex 0, e', g'⟩ ∧ Ext h0 g' := by
  have loop := loop_run (body := l9_0 KW loopZ) (fun j e g => j ≤ 2 ∧ Ext h0 g ∧ NoneAt g (e.s k9 1) ∧ e.s k9 2 = .int .i64 ((2 - j : Nat) : Int)) (fun s => s.x = .ex 0 ∧ Ext h0 s.h)
    (fun j e g hi => by
      obtain ⟨hj, x, e1, e2⟩ := hi
      simp only [k9] at e1 e2
      cases j with
      | zero =>
        rw [Nat.sub_zero] at e2
        simp at e2
        simp [l9_0, e2]
        exact ⟨rfl, x⟩
      | succ j =>
        obtain ⟨i, hi⟩ : ∃ i, i = 2 - (j + 1) := ⟨_, rfl⟩
        have hi2 : 2 - j = i + 1 := by omega
        rw [← hi] at e2
        have hi32 : i < 2 := by omega
        obtain ⟨v, hv⟩ : ∃ v, v = e.s [0, 1, 2, 3, 4, 5, 6, 7, 8, 9, 10, 11, 12, 13, 14, 15, 18, 21, 23, 25, 27, 28] 1 := ⟨_, rfl⟩
        rw [← hv] at e1
        have hv' := hv.symm
        obtain ⟨w, g1, a17, rfl, x1⟩ := (set17_n e1).elim
        obtain ⟨g2, hg2⟩ : ∃ z, z = (g1.new (.cells [.nils] 25 false)).put g1.n (.cells [.nils] 25 false) := ⟨_, rfl⟩
        have x2 : Ext g1 g2 := by rw [hg2]; exact ((Ext.refl g1).new _).put (Nat.le_refl _) _
        have r2 : g2.get g1.n = some (.cells [.nils] 25 false) := by rw [hg2, get_put_same (by rw [H.n_new]; omega)]
        have hst : (g1.new (.cells [.nils] 25 false)).wrN g1.n 0 [.nils] = some g2 := by rw [wrN_of (o := 0) get_new_same (by simp), hg2]; rfl
        have N2 := (e1.ext x1).ext x2
        have b30 := symbol30_n e1 (-1) (-1) (-1)
        have b29 := bits29_n e1 (-1) 0
        have b19 := bytes19_n N2
        have b14 := writes14_n N2
        have b32 := count32_n N2
        have z3 : IntKind.i64.wrap ((i : Int) + 1) = ((i + 1 : Nat) : Int) := by rw [wi64 (by omega) (by omega)]; omega
        obtain ⟨i', hi'⟩ : ∃ u, u = i + 1 := ⟨_, rfl⟩
        rw [← hi'] at z3 hi2
        obtain ⟨g3, hg3⟩ : ∃ z, z = g2.new (.cells [.nilp, .nilp, .nils, .bool false, .int .i64 0] 84 false) := ⟨_, rfl⟩
        have x3 : Ext g2 g3 := by rw [hg3]; exact (Ext.refl g2).new _
        have r3 : g3.get g2.n = some (.cells [.nilp, .nilp, .nils, .bool false, .int .i64 0] 84 false) := by rw [hg3, get_new_same]
        have hbx : bx g2 84 (.agg [.nilp, .nilp, .nils, .bool false, .int .i64 0]) = some (.ptr g2.n 0, g3) := by rw [hg3]; rfl
        simp [l9_0, e2, hi32, show (i : Int) < 2 by omega, hv', b30, b29, a17, nw, V.cells, hst, b19, gl_t, gk_t, rd1_of r2, b14, b32, bl, fillW, hbx, z3]
        exact ⟨j, Nat.lt_succ_self j, by omega, ((x.trans x1).trans x2).trans x3, .inr ⟨g2.n, by simp, r3⟩, by simp [hi2]⟩)
  obtain ⟨⟨x, e', g'⟩, r1, r2, r3⟩ := loop 2 e g ⟨Nat.le_refl _, x, .inl e1, by rw [Nat.sub_self]; exact e2⟩
  simp only at r2 r3
  subst r2
  exact ⟨e', g', r1, r3⟩
end Go.Proofs.Ytfjghgjkpenanaa
