/- SymsNames: the law's core, put together. -/
import Derived.Test.YtfjghgjkpenanaaSau
set_option linter.unusedVariables false
set_option linter.unusedSimpArgs false
set_option maxRecDepth 20000
namespace Go.Proofs.Ytfjghgjkpenanaa
open Go Go.Zf Go.RowKit Go.WideShapes
open Go.Zf (wi64)

theorem setNil (D : Nat → Prop) (h : H) : SetR D h .nils [] := ⟨[], SlR.nil _ _ _ _, fun k r hr => by simp at hr⟩
theorem small_nil : Small [] := ⟨by decide, fun k r hr => by simp at hr⟩
theorem notOk_nil : ¬ SetOk [] := fun a => by have := a.1; simp at this
theorem setRows {h : H} {b : Nat} (hb : h.get b = some (.cells (reps 32 [.nils]) 75 false)) : SetR (fun _ => True) h (.sl b 0 32 (.ex 32)) (List.replicate 32 []) := by
  refine ⟨reps 32 [.nils], ?_, fun k r hr => ?_⟩
  · have := SlR.of (D := fun _ => True) (n := 32) (z := 1) (k := .ex 32) hb (by rw [reps_len]; rfl) trivial
    simpa using this
  · rw [List.getElem?_replicate] at hr
    split at hr
    · rename_i hk
      cases hr
      refine ⟨.nils, ?_, ⟨[], SlR.nil _ _ _ _, Els.nil _ _⟩⟩
      have : ∀ k, k < 32 → (reps 32 [V.nils])[k]? = some .nils := by
        intro k hk
        have e : reps 32 [V.nils] = List.replicate 32 .nils := by kernel_rfl
        rw [e, List.getElem?_replicate, if_pos hk]
      exact this k hk
    · cases hr
theorem small_rows : Small (List.replicate 32 []) := ⟨by simp, fun k r hr => by
  rw [List.getElem?_replicate] at hr
  split at hr
  · cases hr; exact ⟨by decide, fun i t ht => by simp at ht⟩
  · cases hr⟩
theorem notOk_rows : ¬ SetOk (List.replicate 32 []) := fun a => by
  have := (a.2 0 [] (by simp)).1
  have h2 := cx_le (k := 0) (by decide)
  simp at this; omega

theorem names9_ok (h : H) : RT (fun w h' => w = .bool true ∧ Ext h h') (KW 9 [] h) := by
  obtain ⟨e1, g1, a1, x1⟩ := loop9_0 (h0 := h) (e := ⟨[.bool false, .nilp, .int .i64 0, .tup [], .tup [], .tup [], .tup [], .tup [], .tup [], .tup [], .tup [], .tup [], .tup [], .tup [], .tup [], .tup [], .tup [], .tup [], .tup [], .tup [], .tup [], .tup []], 2, .int .i64 0⟩) (Ext.refl h) (by simp) (by simp)
  obtain ⟨g2, hg2⟩ : ∃ z, z = g1.new (.cells shL 3 false) := ⟨_, rfl⟩
  have x2 : Ext g1 g2 := by rw [hg2]; exact (Ext.refl g1).new _
  have r2 : g2.get g1.n = some (.cells shL 3 false) := by rw [hg2, get_new_same]
  obtain ⟨e3, g3, a3, x3⟩ := loop9_1 (h0 := g2) (b := g1.n) (e := ⟨[e1.s k9 0, e1.s k9 1, e1.s k9 2, e1.s k9 3, e1.s k9 4, e1.s k9 5, e1.s k9 6, e1.s k9 7, e1.s k9 8, e1.s k9 9, e1.s k9 10, .sl g1.n 0 64 (.ex 64), .int .i64 0, e1.s k9 13, e1.s k9 14, e1.s k9 15, e1.s k9 18, e1.s k9 21, e1.s k9 23, e1.s k9 25, e1.s k9 27, e1.s k9 28], 12, .int .i64 0⟩) r2 (Ext.refl g2) (by simp) (by simp)
  simp only [k9] at a3
  obtain ⟨w, g4, a4, rfl, x4⟩ := (shape33_ok (-1) g3).elim
  rw [if_neg (by omega)] at a4
  obtain ⟨w, g5, a5, rfl, x5⟩ := (shape33_ok 32 g4).elim
  rw [if_neg (by omega)] at a5
  obtain ⟨w, g6, a6, rfl, x6⟩ := (average39_nil g5).elim
  obtain ⟨g7, hg7⟩ : ∃ z, z = (g6.new (.cells [.nils] 25 false)).put g6.n (.cells [.nils] 25 false) := ⟨_, rfl⟩
  have x7 : Ext g6 g7 := by rw [hg7]; exact ((Ext.refl g6).new _).put (Nat.le_refl _) _
  have hst7 : (g6.new (.cells [.nils] 25 false)).wrN g6.n 0 [.nils] = some g7 := by rw [wrN_of (o := 0) get_new_same (by simp), hg7]; rfl
  obtain ⟨w, g8, a8, rfl, x8⟩ := (reader25_bad (bv := .nils) (setNil (fun _ => True) g7) small_nil notOk_nil true).elim
  obtain ⟨g9, hg9⟩ : ∃ z, z = g8.new (.cells (reps 32 [.nils]) 75 false) := ⟨_, rfl⟩
  have x9 : Ext g8 g9 := by rw [hg9]; exact (Ext.refl g8).new _
  have r9 : g9.get g8.n = some (.cells (reps 32 [.nils]) 75 false) := by rw [hg9, get_new_same]
  have hms : ms g8 75 24 [.nils] (.int .i64 32) (.int .i64 32) = some (.sl g8.n 0 32 (.ex 32), g9) := by rw [hg9]; rfl
  obtain ⟨w, g10, a10, rfl, x10⟩ := (writer12_bad (setRows r9) small_rows notOk_rows true).elim
  obtain ⟨g11, hg11⟩ : ∃ z, z = g10.new (.cells dosC 43 false) := ⟨_, rfl⟩
  have x11 : Ext g10 g11 := by rw [hg11]; exact (Ext.refl g10).new _
  have r11 : g11.get g10.n = some (.cells dosC 43 false) := by rw [hg11, get_new_same]
  have hbd := bs_dos g10
  rw [← hg11] at hbd
  dsimp only at hbd
  have A11 := dosAt r11
  obtain ⟨w, g12, a12, rfl, x12⟩ := (awake22_ok g11).elim
  obtain ⟨w, g13, a13, v13, rfl, W13, x13⟩ := (default27_ok g12).elim
  obtain ⟨w, g14, a14, rfl, x14⟩ := (check34_ok W13.setR defS_ok.small).elim
  rw [if_pos defS_ok] at a14
  have A14 := ((A11.ext x12).ext x13).ext x14
  obtain ⟨w, g15, a15, rfl, x15⟩ := (writes3_ok true (.inl ⟨rfl, rfl⟩ : DosAt g14 .nils []) A14).elim
  obtain ⟨w, g16, a16, rfl, x16⟩ := (reads4_ok true (.inl ⟨rfl, rfl⟩ : SlB g15 .nils []) (by decide) (fun x hx => by simp at hx) (A14.ext x15)).elim
  obtain ⟨g17, hg17⟩ : ∃ z, z = g16.new (.cells (bytesV [255, 255, 255, 255, 255]) 5 false) := ⟨_, rfl⟩
  have x17 : Ext g16 g17 := by rw [hg17]; exact (Ext.refl g16).new _
  have r17 : g17.get g16.n = some (.cells (bytesV [255, 255, 255, 255, 255]) 5 false) := by rw [hg17, get_new_same]
  have hbb := bs_255 g16
  rw [← hg17] at hbb
  obtain ⟨w, g18, a18, rfl, x18⟩ := (reads4_ok (L := [255, 255, 255, 255, 255]) false (.inr ⟨g16.n, 0, .ex 5, _, _, _, rfl, r17, by simp [bytesV], by simp [bytesV]⟩ : SlB g17 (.sl g16.n 0 5 (.ex 5)) [255, 255, 255, 255, 255]) (by decide) (fun x hx => by simp at hx; omega) (((A14.ext x15).ext x16).ext x17)).elim
  have X : Ext h g18 := ((((((((((((((((x1.trans x2).trans x3).trans x4).trans x5).trans x6).trans x7).trans x8).trans x9).trans x10).trans x11).trans x12).trans x13).trans x14).trans x15).trans x16).trans x17).trans x18
  rw [w9, f9, s9]
  have hbs := bs_shapes g1
  rw [← hg2] at hbs
  simp [-List.reduceReplicate, a1, hbs, a3, a4, a5, a6, nw, hst7, bl, fillW, splice, V.cells, a8, hms, a10, hbd, a12, gl_t, gk_t, gf_t, a13, a14, a15, a16, hbb, a18]
  exact ⟨rfl, X⟩
theorem core9 (W : World) : Calls Try.prog 9 #[] W fun e W' => e = .returned (.bool true) ∧ Go.RowKit.Below W.heap.size W W' := by
  have a := ArgH.empty W
  obtain ⟨w, h'', hrun, rfl, _⟩ := (names9_ok H.empty).elim
  exact law_calls (us := []) (callW_ok mixed kp ov2_ok hrun) a.rel .nil a.dom a.no
end Go.Proofs.Ytfjghgjkpenanaa
