/- SymsNames: what is none, what may not be, the kinds. -/
import Derived.Test.YtfjghgjkpenanaaSas
set_option linter.unusedVariables false
set_option linter.unusedSimpArgs false
set_option maxRecDepth 20000
namespace Go.Proofs.Ytfjghgjkpenanaa
open Go Go.Zf Go.RowKit Go.WideShapes
open Go.Zf (wi64)

/-- A coder that is none. -/
def NoneAt (h : H) (v : V) : Prop := v = .nilp ∨ ∃ p, v = .ptr p 0 ∧ h.get p = some (.cells [.nilp, .nilp, .nils, .bool false, .int .i64 0] 84 false)
theorem none44_n {h : H} {v : V} (a : NoneAt h v) : KW 44 [v] h = some (.ret (.bool true), h) := by
  rw [w44, f44, s44]
  rcases a with rfl | ⟨p, rfl, hp⟩
  · simp [gl_t]
  · simp [rd1_of hp, gl_t]
theorem writes14_n {h : H} {v : V} (a : NoneAt h v) : KW 14 [v] h = some (.ret (.bool false), h) := by
  rw [w14, f14, s14]
  rcases a with rfl | ⟨p, rfl, hp⟩
  · simp [gl_t]
  · simp [rd1_of hp, gl_t]
theorem symbol30_n {h : H} {v : V} (a : NoneAt h v) (k c x : Int) : KW 30 [v, .int .i64 k, .int .i64 c, .int .i64 x] h = some (.ret (.tup [.int .i64 0, .int .i64 1]), h) := by
  rw [w30, f30, s30]
  simp [none44_n a]
theorem bits29_n {h : H} {v : V} (a : NoneAt h v) (k x : Int) : KW 29 [v, .int .i64 k, .int .i64 x] h = some (.ret (.tup [.int .i64 0, .int .i64 1]), h) := by
  rw [w29, f29, s29]
  simp [none44_n a]
theorem bytes19_n {h : H} {v : V} (a : NoneAt h v) : KW 19 [v] h = some (.ret (.tup [.nils, .int .i64 1]), h) := by
  rw [w19, f19, s19]
  simp [none44_n a]
theorem count32_n {h : H} {v : V} (a : NoneAt h v) : KW 32 [v] h = some (.ret (.int .i64 0), h) := by
  rw [w32, f32, s32]
  simp [none44_n a]
theorem NoneAt.ext {h h' : H} {v : V} (a : NoneAt h v) (x : Ext h h') : NoneAt h' v := by
  rcases a with a | ⟨p, a, hp⟩
  · exact .inl a
  · exact .inr ⟨p, a, by rw [x.get p (H.get_lt hp), hp]⟩
theorem set17_n {h : H} {v : V} (a : NoneAt h v) : RT (fun w h' => w = .tup [.agg [.nils], .int .i64 1] ∧ Ext h h') (KW 17 [v] h) := by
  obtain ⟨h1, hh1⟩ : ∃ z, z = h.new (.cells [.nils] 25 false) := ⟨_, rfl⟩
  have x1 : Ext h h1 := by rw [hh1]; exact (Ext.refl h).new _
  have r1 : h1.get h.n = some (.cells [.nils] 25 false) := by rw [hh1, get_new_same]
  obtain ⟨h2, hh2⟩ : ∃ z, z = h1.put h.n (.cells [.nils] 25 false) := ⟨_, rfl⟩
  have r2 : h2.get h.n = some (.cells [.nils] 25 false) := by rw [hh2, get_put_same (H.get_lt r1)]
  have hw : h1.wrN h.n 0 [.nils] = some h2 := by rw [wrN_of r1 (by simp), hh2]; rfl
  rw [w17, f17, s17]
  simp [nw, ← hh1, none44_n (a.ext x1), bl, fillW, V.cells, hw, rdN_of (o := 0) (n := 1) r2 (by simp)]
  rw [hh2]; exact ⟨rfl, x1.put (Nat.le_refl _) _⟩
theorem average39_nil (h : H) : RT (fun w h' => w = .tup [.agg [.nils], .int .i64 2] ∧ Ext h h') (KW 39 [.nils] h) := by
  obtain ⟨h1, hh1⟩ : ∃ z, z = h.new (.cells [.nils] 25 false) := ⟨_, rfl⟩
  have x1 : Ext h h1 := by rw [hh1]; exact (Ext.refl h).new _
  have r1 : h1.get h.n = some (.cells [.nils] 25 false) := by rw [hh1, get_new_same]
  obtain ⟨h2, hh2⟩ : ∃ z, z = h1.put h.n (.cells [.nils] 25 false) := ⟨_, rfl⟩
  have r2 : h2.get h.n = some (.cells [.nils] 25 false) := by rw [hh2, get_put_same (H.get_lt r1)]
  have hw : h1.wrN h.n 0 [.nils] = some h2 := by rw [wrN_of r1 (by simp), hh2]; rfl
  rw [w39, f39, s39]
  simp [nw, ← hh1, bl, fillW, V.cells, hw, rdN_of (o := 0) (n := 1) r2 (by simp), gl_t, gk_t]
  rw [hh2]; exact ⟨rfl, x1.put (Nat.le_refl _) _⟩
theorem writer12_bad {D : Nat → Prop} {h : H} {v : V} {S : List (List Tb)} (u : SetR D h v S) (sm : Small S) (no : ¬ SetOk S) (ad : Bool) :
    RT (fun w h' => w = .tup [.nilp, .int .i64 2] ∧ Ext h h') (KW 12 [.agg [v], .bool ad] h) := by
  obtain ⟨h1, b1, x1, g1, n1, u1⟩ := box25 u
  obtain ⟨w, h2, e34, rfl, x2⟩ := (check34_ok u1 sm).elim
  rw [if_neg no] at e34
  rw [w12, f12, s12]
  simp [b1, rdN_of (o := 0) (n := 1) g1 (by simp), e34]
  exact ⟨rfl, x1.trans x2⟩
theorem writer13_bad {D : Nat → Prop} {h : H} {v : V} {S : List (List Tb)} (u : SetR D h v S) (sm : Small S) (no : ¬ SetOk S) (ad : Bool) :
    RT (fun w h' => w = .tup [.nilp, .int .i64 2] ∧ Ext h h') (KW 13 [.agg [v], .bool ad] h) := by
  obtain ⟨h1, b1, x1, g1, n1, u1⟩ := box25 u
  obtain ⟨w, h2, e37, rfl, x2⟩ := (check37_ok u1 sm).elim
  rw [if_neg no] at e37
  rw [w13, f13, s13]
  simp [b1, rdN_of (o := 0) (n := 1) g1 (by simp), e37]
  exact ⟨rfl, x1.trans x2⟩
theorem reader25_bad {D : Nat → Prop} {h : H} {v bv : V} {S : List (List Tb)} (u : SetR D h v S) (sm : Small S) (no : ¬ SetOk S) (ad : Bool) :
    RT (fun w h' => w = .tup [.nilp, .int .i64 2] ∧ Ext h h') (KW 25 [bv, .agg [v], .bool ad] h) := by
  obtain ⟨h1, b1, x1, g1, n1, u1⟩ := box25 u
  obtain ⟨w, h2, e34, rfl, x2⟩ := (check34_ok u1 sm).elim
  rw [if_neg no] at e34
  rw [w25, f25, s25]
  simp [b1, rdN_of (o := 0) (n := 1) g1 (by simp), e34]
  exact ⟨rfl, x1.trans x2⟩

/-! The kinds. -/
def shN : List Nat := [8, 10, 4, 8, 3, 2, 3, 2, 4, 13, 8, 7, 1, 13, 1, 14, 1, 8, 2, 16, 1, 2, 3, 3, 3, 9, 1, 2, 3, 3, 1, 2, 3, 4, 1, 4, 2, 11, 2, 8, 1, 3, 1, 2, 4, 2, 2, 5, 2, 7, 2, 9, 2, 11, 2, 3, 10, 4, 14, 4, 6, 2, 3, 2]
theorem shN_cx : ∀ k, k < 32 → shN[2 * k]? = some (cx k) ∧ shN[2 * k + 1]? = some (vl k) := by decide
def shL : List V := shN.map fun n => .int .i64 (n : Nat)

theorem loop9_1 {h0 : H} {b : Nat} (hb : h0.get b = some (.cells shL 3 false)) {e : E} {g : H} (x : Ext h0 g) (e11 : e.s k9 11 = .sl b 0 64 (.ex 64)) (e12 : e.s k9 12 = .int .i64 (0 : Nat)) :
    ∃ e' g', loopZ (l9_1 KW loopZ) e g = some ⟨.ex 2, e', g'⟩ ∧ Ext h0 g' := by
  have loop := loop_run (body := l9_1 KW loopZ) (fun j e g => j ≤ 32 ∧ Ext h0 g ∧ e.s k9 11 = .sl b 0 64 (.ex 64) ∧ e.s k9 12 = .int .i64 ((32 - j : Nat) : Int)) (fun s => s.x = .ex 2 ∧ Ext h0 s.h)
    (fun j e g hi => by
      obtain ⟨hj, x, e11, e12⟩ := hi
      simp only [k9] at e11 e12
      cases j with
      | zero =>
        rw [Nat.sub_zero] at e12
        simp at e12
        simp [l9_1, e12]
        exact ⟨rfl, x⟩
      | succ j =>
        obtain ⟨i, hi⟩ : ∃ i, i = 32 - (j + 1) := ⟨_, rfl⟩
        have hi2 : 32 - j = i + 1 := by omega
        rw [← hi] at e12
        have hi32 : i < 32 := by omega
        obtain ⟨w, g', e33, rfl, x'⟩ := (shape33_ok (i : Int) g).elim
        rw [if_pos ⟨by omega, by omega⟩, Int.toNat_natCast] at e33
        have hb' : g'.get b = some (.cells shL 3 false) := (x.trans x').get b (H.get_lt hb) |>.trans hb
        obtain ⟨s1, s2⟩ := shN_cx i hi32
        have r1 : g'.rd1 b (2 * i) = some (.int .i64 (cx i)) := by rw [rd1_of hb', shL, List.getElem?_map, s1]; rfl
        have r2 : g'.rd1 b (2 * i + 1) = some (.int .i64 (vl i)) := by rw [rd1_of hb', shL, List.getElem?_map, s2]; rfl
        have z1 : IntKind.i64.wrap (2 * (i : Int)) = ((2 * i : Nat) : Int) := by rw [wi64 (by omega) (by omega)]; omega
        have z2 : IntKind.i64.wrap (((2 * i : Nat) : Int) + 1) = ((2 * i + 1 : Nat) : Int) := by rw [wi64 (by omega) (by omega)]; omega
        have z3 : IntKind.i64.wrap ((i : Int) + 1) = ((i + 1 : Nat) : Int) := by rw [wi64 (by omega) (by omega)]; omega
        have i1 : iaS 1 (.sl b 0 64 (.ex 64)) (.int .i64 ((2 * i : Nat) : Int)) = some (.ptr b (2 * i)) := by rw [iaS_sl, if_pos ⟨by omega, by omega⟩, Int.toNat_natCast]; simp
        have i2 : iaS 1 (.sl b 0 64 (.ex 64)) (.int .i64 ((2 * i + 1 : Nat) : Int)) = some (.ptr b (2 * i + 1)) := by rw [iaS_sl, if_pos ⟨by omega, by omega⟩, Int.toNat_natCast]; simp
        obtain ⟨u, hu⟩ : ∃ u, u = 2 * i := ⟨_, rfl⟩
        obtain ⟨u', hu'⟩ : ∃ u, u = 2 * i + 1 := ⟨_, rfl⟩
        obtain ⟨i', hi'⟩ : ∃ u, u = i + 1 := ⟨_, rfl⟩
        rw [← hu'] at z2 i2 r2
        rw [← hu] at z1 z2 i1 r1
        rw [← hi'] at z3 hi2
        simp [-iaS_sl, l9_1, e12, hi32, show (i : Int) < 32 by omega, e33, z1, e11, i1, r1, gl_t, z2, i2, r2, z3]
        exact ⟨j, Nat.lt_succ_self j, by omega, x.trans x', by simp [e11], by simp [hi2]⟩)
  obtain ⟨⟨x, e', g'⟩, r1, r2, r3⟩ := loop 32 e g ⟨Nat.le_refl _, x, e11, by rw [Nat.sub_self]; exact e12⟩
  simp only at r2 r3
  subst r2
  exact ⟨e', g', r1, r3⟩
end Go.Proofs.Ytfjghgjkpenanaa
