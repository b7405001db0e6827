/- SymsWrites. -/
import Derived.Test.YtfjghgjkpenanaaSap
set_option linter.unusedVariables false
set_option linter.unusedSimpArgs false
set_option maxRecDepth 20000
namespace Go.Proofs.Ytfjghgjkpenanaa
open Go Go.Zf Go.RowKit Go.WideShapes
open Go.Zf (wi64)

def R10 (g1 g : H) (q mx : Nat) : Prop := ∃ F m st, CoderRef F g q m st ∧ (∀ b, F b → g1.n ≤ b ∧ b < g.n) ∧ m ≤ mx
theorem set10_ok {h : H} {v : V} {l : List Dd} (A : DosAt h v l) : RT (fun w h' => ∃ vs S, w = .agg [vs] ∧ SetOk S ∧ SetW (fun b => h.n ≤ b) h' vs S ∧ Ext h h') (KW 10 [v] h) := by
  obtain ⟨g1, hg1⟩ : ∃ z, z = h.new (.cells [.nils] 25 false) := ⟨_, rfl⟩
  have x1 : Ext h g1 := by rw [hg1]; exact (Ext.refl h).new _
  have n1 : g1.n = h.n + 1 := by rw [hg1, H.n_new]
  have r1 : g1.get h.n = some (.cells [.nils] 25 false) := by rw [hg1, get_new_same]
  obtain ⟨w, g2, a2, v2, rfl, W2, x2⟩ := (default24_ok g1).elim
  obtain ⟨w, g3, a3, q, rfl, R3, x3⟩ := (writer13_ok W2.setR defS_ok true).elim
  have m2 := x2.n
  have m3 := x3.n
  obtain ⟨M, hM⟩ : ∃ M, M = min l.length 100 := ⟨_, rfl⟩
  have loop := loop_run (body := l10_0 KW loopZ) (fun j e g => j ≤ M ∧ Ext g1 g ∧ R10 g1 g q (30 * (M - j)) ∧ e.s [0, 2, 3, 5] 0 = v ∧ e.s [0, 2, 3, 5] 2 = .ptr h.n 0 ∧ e.s [0, 2, 3, 5] 3 = .ptr q 0 ∧ e.s [0, 2, 3, 5] 5 = .int .i64 ((M - j : Nat) : Int))
    (fun s => s.x = .ex 0 ∧ Ext g1 s.h ∧ R10 g1 s.h q (30 * M) ∧ s.e.s [0, 2, 3, 5] 2 = .ptr h.n 0 ∧ s.e.s [0, 2, 3, 5] 3 = .ptr q 0)
    (fun j e g hi => by
      obtain ⟨hj, X, ⟨F, m, st, R, hF, hm⟩, e0, e2, e3, e5⟩ := hi
      have Al := A.len
      cases j with
      | zero =>
        rw [Nat.sub_zero] at e5
        by_cases c : l.length ≤ 100
        · have hMl : M = l.length := by omega
          rw [hMl] at e5
          simp [l10_0, e0, Al, e5, gl_t]
          exact ⟨rfl, X, ⟨F, m, st, R, hF, by omega⟩, by simp [e2], by simp [e3]⟩
        · have hMl : M = 100 := by omega
          rw [hMl] at e5
          simp at e5
          simp [l10_0, e0, Al, e5, show (100 : Int) < l.length by omega, show 100 < l.length by omega]
          exact ⟨rfl, X, ⟨F, m, st, R, hF, by omega⟩, by simp [e2], by simp [e3]⟩
      | succ j =>
        obtain ⟨i, hi⟩ : ∃ i, i = M - (j + 1) := ⟨_, rfl⟩
        have hi2 : M - j = i + 1 := by omega
        rw [← hi] at e5 hm
        have hil : i < l.length := by omega
        have hi100 : i < 100 := by omega
        obtain ⟨d, hd⟩ := get_of_lt hil
        obtain ⟨dfit, b, o, q1, q2, q3, q4, q5⟩ := (A.ext (x1.trans X)).at hd
        have z1 : IntKind.i64.wrap ((i : Int) + 1) = i + 1 := wi64 (by omega) (by omega)
        obtain ⟨a, er, st', m', k1, k2, _, _, _, hr⟩ := both18 ⟨false, d.n, d.k, d.c, d.v⟩ (m := m) (st := st) (by omega)
        obtain ⟨g', c1, R', M'⟩ := hr F g q R
        simp only [Bool.false_eq_true, if_false] at c1
        have hbl : b < h.n := by
          rcases A with ⟨rfl, rfl⟩ | ⟨b', k', c', e', ro, rfl, h2, h3⟩
          · simp at hd
          · have := H.get_lt h2
            simp [hil] at q1
            omega
        have X' : Ext g1 g' := M'.ext X fun c hc h => by have := (hF _ h).1; omega
        have hrd : ∀ j x, g.rd1 b j = some x → g'.rd1 b j = some x := fun j x hx => by
          unfold H.rd1 at hx ⊢
          rw [X'.get b (by omega), ← X.get b (by omega)]; exact hx
        have p3 := hrd _ _ q3
        have p4 := hrd _ _ q4
        have p5 := hrd _ _ q5
        have M'n := M'.n
        simp [l10_0, e0, Al, e5, hil, hi100, show (i : Int) < l.length by omega, show (i : Int) < 100 by omega, q1, q3, q4, q5, e3, c1, ck, V.same, p3, p4, p5, z1]
        refine ⟨j, Nat.lt_succ_self j, by omega, X', ⟨grow F g g', m', st', R', fun b hb => ?_, by omega⟩, by simp [e0], by simp [e2], by simp [e3], by simp [hi2, z1]⟩
        rcases hb with hb | hb
        · have := hF b hb; omega
        · have := X.n; omega)
  obtain ⟨⟨x, e', g'⟩, r, rfl, X', ⟨F, m, st, R, hF, _⟩, e2, e3⟩ := loop M ⟨[v, .ptr h.n 0, .ptr q 0, .int .i64 0], 5, .int .i64 0⟩ g3 ⟨Nat.le_refl _, x2.trans x3, ⟨fun b => g2.n ≤ b ∧ b < g3.n, 0, _, R3.under, fun b hb => by omega, by omega⟩, by simp, by simp, by simp, by simp⟩
  simp only at e2 e3 X' R hF
  obtain ⟨vs, c1, W, _⟩ := R.set
  have r1' : g'.get h.n = some (.cells [.nils] 25 false) := by rw [X'.get _ (by omega), r1]
  obtain ⟨g5, hg5⟩ : ∃ z, z = g'.put h.n (.cells [vs] 25 false) := ⟨_, rfl⟩
  have hw : g'.wrN h.n 0 [vs] = some g5 := by rw [wrN_of r1' (by simp), hg5]; rfl
  have r5 : g5.get h.n = some (.cells [vs] 25 false) := by rw [hg5, get_put_same (H.get_lt r1')]
  have hcv : V.cells vs = some [vs] := by obtain ⟨_, k3, _⟩ := W.setR; exact k3.cells
  rw [w10, f10, s10]
  simp [nw, ← hg1, a2, a3, r, e3, e2, c1, hcv, hw, rdN_of (o := 0) (n := 1) r5 (by simp)]
  refine ⟨vs, rfl, st.S, R.ok.1, ?_, ?_⟩
  · refine (W.keep (h' := g5) fun b hb _ => ?_).mono fun b _ hb => by have := hF b hb; show h.n ≤ b; omega
    rw [hg5, get_put_ne (by have := hF b hb; omega)]
  · rw [hg5]; exact (x1.trans X').put (Nat.le_refl _) _
end Go.Proofs.Ytfjghgjkpenanaa
