/- The average of several tables: the program. -/
import Derived.Test.YtfjghgjkpenanaaSca
set_option linter.unusedVariables false
set_option linter.unusedSimpArgs false
set_option maxRecDepth 20000
namespace Go.Proofs.Ytfjghgjkpenanaa
open Go Go.Zf
open Go.Zf (wi64)

section avg
variable {D : Nat → Prop} {h0 : H} {v : V} {l : List Tb} {cs : List V} {n : Nat}
abbrev K66 : List Nat := [0, 2, 3, 4, 6, 7, 8, 9, 11, 21, 22, 23, 44, 45, 51, 52, 53]
structure J66 (v : V) (l : List Tb) (n i B2 B7 s m : Nat) (e : E) : Prop where
  e0 : e.s [0, 2, 3, 4, 6, 7, 8, 9, 11, 21, 22, 23, 44, 45, 51, 52, 53] 0 = v
  e2 : e.s [0, 2, 3, 4, 6, 7, 8, 9, 11, 21, 22, 23, 44, 45, 51, 52, 53] 2 = .ptr B2 0
  e7 : e.s [0, 2, 3, 4, 6, 7, 8, 9, 11, 21, 22, 23, 44, 45, 51, 52, 53] 7 = .ptr B7 0
  e8 : e.s [0, 2, 3, 4, 6, 7, 8, 9, 11, 21, 22, 23, 44, 45, 51, 52, 53] 8 = .int .i64 i
  e9 : e.s [0, 2, 3, 4, 6, 7, 8, 9, 11, 21, 22, 23, 44, 45, 51, 52, 53] 9 = .int .i64 s
  e44 : e.s [0, 2, 3, 4, 6, 7, 8, 9, 11, 21, 22, 23, 44, 45, 51, 52, 53] 44 = .int .i64 n
  e45 : e.s [0, 2, 3, 4, 6, 7, 8, 9, 11, 21, 22, 23, 44, 45, 51, 52, 53] 45 = .int .i64 i
  e51 : e.s [0, 2, 3, 4, 6, 7, 8, 9, 11, 21, 22, 23, 44, 45, 51, 52, 53] 51 = v
  e52 : e.s [0, 2, 3, 4, 6, 7, 8, 9, 11, 21, 22, 23, 44, 45, 51, 52, 53] 52 = .int .i64 l.length
  e53 : e.s [0, 2, 3, 4, 6, 7, 8, 9, 11, 21, 22, 23, 44, 45, 51, 52, 53] 53 = .int .i64 m
theorem loop66_1 {B2 B7 : Nat} (A : Alike2 l n) (S : SlR D h0 v tT 2 l.length cs) (Ee : Els D h0 cs l) {i : Nat} (hi : i < n) {g : H} (x : Ext h0 g) {e : E} (I : J66 v l n i B2 B7 (sumT l i 0) 0 e) :
    ∃ e' g', loopZ (l66_1 KW loopZ) e g = some ⟨.ex 4, e', g'⟩ ∧ Ext g g' ∧ J66 v l n i B2 B7 (sumT l i l.length) l.length e' := by
  have loop := loop_run (body := l66_1 KW loopZ) (fun j e' g' => j ≤ l.length ∧ Ext g g' ∧ J66 v l n i B2 B7 (sumT l i (l.length - j)) (l.length - j) e')
    (fun s => s.x = .ex 4 ∧ Ext g s.h ∧ J66 v l n i B2 B7 (sumT l i l.length) l.length s.e)
    (fun j e' g' hi' => by
      obtain ⟨hj, x', e0, e2, e7, e8, e9, e44, e45, e51, e52, e53⟩ := hi'
      have hl := A.1
      cases j with
      | zero =>
        rw [Nat.sub_zero] at e9 e53
        simp [l66_1, e53, e52]
        exact ⟨rfl, x', by simp [e0], by simp [e2], by simp [e7], by simp [e8], by simp [e9], by simp [e44], by simp [e45], by simp [e51], by simp [e52], by simp [e53]⟩
      | succ j =>
        obtain ⟨m, hm⟩ : ∃ m, m = l.length - (j + 1) := ⟨_, rfl⟩
        have hm2 : l.length - j = m + 1 := by omega
        rw [← hm] at e9 e53
        have hml : m < l.length := by omega
        obtain ⟨t, ht⟩ := get_of_lt hml
        obtain ⟨b, o, vc, q1, q2, q3, U⟩ := tab_at S Ee ht (x.trans x')
        have ht2 := A.2.2 m t ht
        obtain ⟨g2, hg2⟩ : ∃ z, z = (g'.new (.cells [.nils, .int .i64 0] 72 false)).put g'.n (.cells [vc, .int .i64 t.n] 72 false) := ⟨_, rfl⟩
        have x2 : Ext g' g2 := by rw [hg2]; exact ((Ext.refl g').new _).put (Nat.le_refl _) _
        have r2 : g2.get g'.n = some (.cells [vc, .int .i64 t.n] 72 false) := by rw [hg2, get_put_same (by rw [H.n_new]; omega)]
        have hst : (g'.new (.cells [.nils, .int .i64 0] 72 false)).wrN g'.n 0 [vc, .int .i64 t.n] = some g2 := by
          rw [wrN_of (o := 0) get_new_same (by simp), hg2]; rfl
        obtain ⟨b', o', r1, r3, _⟩ := (U.ext x2).at (i := i) (by omega)
        have hcv := U.1.cells
        have hs := A.sum hi m
        have hn := A.nth i m hi
        have hg : l.getD m ⟨[], 0⟩ = t := by rw [List.getD_eq_getElem?_getD, ht]; rfl
        rw [hg] at hn
        obtain ⟨y, hy⟩ : ∃ y, y = Go.Proofs.Ytfjghgjkpenanaa.nth t.c i := ⟨_, rfl⟩
        rw [← hy] at r3 hn
        have hss : sumT l i (m + 1) = sumT l i m + y := by rw [sumT, hg, hy]
        obtain ⟨s, hs'⟩ : ∃ s, s = sumT l i m := ⟨_, rfl⟩
        rw [← hs'] at e9 hs hss
        have z1 : IntKind.i64.wrap (y : Int) = y := wi64 (by omega) (by omega)
        have z2 : IntKind.i64.wrap ((s : Int) + y) = ((s + y : Nat) : Int) := by rw [wi64 (by omega) (by omega)]; omega
        have z3 : IntKind.i64.wrap ((m : Int) + 1) = ((m + 1 : Nat) : Int) := by rw [wi64 (by omega) (by omega)]; omega
        obtain ⟨s2, hs2⟩ : ∃ s2, s2 = s + y := ⟨_, rfl⟩
        obtain ⟨m2, hm3⟩ : ∃ m2, m2 = m + 1 := ⟨_, rfl⟩
        rw [← hs2] at z2 hss
        rw [← hm3] at z3 hm2 hss
        simp [l66_1, e53, e52, hml, show (m : Int) < l.length by omega, e51, q1, q3, nw, hcv, hst, rd1_of r2, e8, r1, r3, z1, e9, z2, z3]
        exact ⟨j, Nat.lt_succ_self j, by omega, x'.trans x2, by simp [e0], by simp [e2], by simp [e7], by simp [e8], by rw [hm2, hss]; simp, by simp [e44], by simp [e45], by simp [e51], by simp [e52], by rw [hm2]; simp⟩)
  obtain ⟨⟨x, e', g'⟩, r1, r2, r4, r3⟩ := loop l.length e g ⟨Nat.le_refl _, Ext.refl _, by rw [Nat.sub_self]; exact I⟩
  simp only at r2 r3 r4
  subst r2
  exact ⟨e', g', r1, r4, r3⟩

structure L66 (h0 : H) (v : V) (l : List Tb) (n B2 Bm B7 j : Nat) (e : E) (g : H) : Prop where
  hj : j ≤ n
  x : ∀ c, c < h0.n → c ≠ Bm → g.get c = h0.get c
  gn : h0.n ≤ g.n
  w : g.get Bm = some (.cells (wordsV (mix (avgV l) (fun _ => 0) n (n - j))) 38 false)
  e0 : e.s [0, 2, 3, 4, 6, 7, 8, 9, 11, 21, 22, 23, 44, 45, 51, 52, 53] 0 = v
  e2 : e.s [0, 2, 3, 4, 6, 7, 8, 9, 11, 21, 22, 23, 44, 45, 51, 52, 53] 2 = .ptr B2 0
  e7 : e.s [0, 2, 3, 4, 6, 7, 8, 9, 11, 21, 22, 23, 44, 45, 51, 52, 53] 7 = .ptr B7 0
  e44 : e.s [0, 2, 3, 4, 6, 7, 8, 9, 11, 21, 22, 23, 44, 45, 51, 52, 53] 44 = .int .i64 n
  e45 : e.s [0, 2, 3, 4, 6, 7, 8, 9, 11, 21, 22, 23, 44, 45, 51, 52, 53] 45 = .int .i64 ((n - j : Nat) : Int)

theorem average66_ok (A : Alike2 l n) (S : SlR D h0 v tT 2 l.length cs) (Ee : Els D h0 cs l) :
    RT (fun w h' => ∃ vt, w = .tup [vt, .int .i64 0] ∧ NewT h0.n h' vt (avgT l n) ∧ Ext h0 h') (KW 66 [v] h0) := by
  obtain ⟨h1, hh1⟩ : ∃ g, g = h0.new (.cells [.nils, .int .i64 0] 72 false) := ⟨_, rfl⟩
  have x1 : Ext h0 h1 := by rw [hh1]; exact (Ext.refl h0).new _
  have n1 : h1.n = h0.n + 1 := by rw [hh1, H.n_new]
  have r1 : h1.get h0.n = some (.cells [.nils, .int .i64 0] 72 false) := by rw [hh1, get_new_same]
  have sl := S.len
  have hl := A.1
  have hl0 := A.2.1
  have hn := A.pos
  obtain ⟨t0, ht0⟩ := get_of_lt hl0
  have ht02 := A.2.2 0 t0 ht0
  obtain ⟨b0, o0, vc0, p1, p2, p3, U0⟩ := tab_at S Ee ht0 x1
  have p1' : iaS 2 v (.int .i64 0) = some (.ptr b0 o0) := by simpa using p1
  have ul0 := U0.1.len
  rw [ht02.2] at ul0
  -- all may be
  have loop0 := loop_run (body := l66_0 KW loopZ) (fun j e' g' => j ≤ l.length ∧ Ext h1 g' ∧ e'.s [0, 2, 3, 4, 6, 7, 8, 9, 11, 21, 22, 23, 44, 45, 51, 52, 53] 0 = v ∧ e'.s [0, 2, 3, 4, 6, 7, 8, 9, 11, 21, 22, 23, 44, 45, 51, 52, 53] 2 = .ptr h0.n 0 ∧ e'.s [0, 2, 3, 4, 6, 7, 8, 9, 11, 21, 22, 23, 44, 45, 51, 52, 53] 4 = .int .i64 n ∧ e'.s [0, 2, 3, 4, 6, 7, 8, 9, 11, 21, 22, 23, 44, 45, 51, 52, 53] 21 = v ∧ e'.s [0, 2, 3, 4, 6, 7, 8, 9, 11, 21, 22, 23, 44, 45, 51, 52, 53] 22 = .int .i64 l.length ∧ e'.s [0, 2, 3, 4, 6, 7, 8, 9, 11, 21, 22, 23, 44, 45, 51, 52, 53] 23 = .int .i64 ((l.length - j : Nat) : Int))
    (fun s => s.x = .ex 0 ∧ Ext h1 s.h ∧ s.e.s [0, 2, 3, 4, 6, 7, 8, 9, 11, 21, 22, 23, 44, 45, 51, 52, 53] 0 = v ∧ s.e.s [0, 2, 3, 4, 6, 7, 8, 9, 11, 21, 22, 23, 44, 45, 51, 52, 53] 2 = .ptr h0.n 0 ∧ s.e.s [0, 2, 3, 4, 6, 7, 8, 9, 11, 21, 22, 23, 44, 45, 51, 52, 53] 4 = .int .i64 n)
    (fun j e' g' hi' => by
      obtain ⟨hj, x, e0, e2, e4, e21, e22, e23⟩ := hi'
      cases j with
      | zero =>
        rw [Nat.sub_zero] at e23
        simp [l66_0, e23, e22]
        exact ⟨rfl, x, by simp [e0], by simp [e2], by simp [e4]⟩
      | succ j =>
        obtain ⟨m, hm⟩ : ∃ m, m = l.length - (j + 1) := ⟨_, rfl⟩
        have hm2 : l.length - j = m + 1 := by omega
        rw [← hm] at e23
        have hml : m < l.length := by omega
        obtain ⟨t, ht⟩ := get_of_lt hml
        obtain ⟨b, o, vc, q1, q2, q3, U⟩ := tab_at S Ee ht (x1.trans x)
        have ht2 := A.2.2 m t ht
        obtain ⟨g2, hg2⟩ : ∃ z, z = (g'.new (.cells [.nils, .int .i64 0] 72 false)).put g'.n (.cells [vc, .int .i64 t.n] 72 false) := ⟨_, rfl⟩
        have x2 : Ext g' g2 := by rw [hg2]; exact ((Ext.refl g').new _).put (Nat.le_refl _) _
        have r2 : g2.get g'.n = some (.cells [vc, .int .i64 t.n] 72 false) := by rw [hg2, get_put_same (by rw [H.n_new]; omega)]
        have hst : (g'.new (.cells [.nils, .int .i64 0] 72 false)).wrN g'.n 0 [vc, .int .i64 t.n] = some g2 := by
          rw [wrN_of (o := 0) get_new_same (by simp), hg2]; rfl
        have hcv := U.1.cells
        obtain ⟨w, g3, c58, rfl, x3⟩ := (check58_ok (U.ext x2) (by omega)).elim
        rw [if_pos ht2.1] at c58
        have r3 : g3.get g'.n = _ := (x3.get _ (H.get_lt r2)).trans r2
        have ul := U.1.len
        rw [ht2.2] at ul
        have z3 : IntKind.i64.wrap ((m : Int) + 1) = ((m + 1 : Nat) : Int) := by rw [wi64 (by omega) (by omega)]; omega
        obtain ⟨m2, hm3⟩ : ∃ m2, m2 = m + 1 := ⟨_, rfl⟩
        rw [← hm3] at z3 hm2
        have r2r := rdN_of (o := 0) (n := 2) r2 (by simp)
        simp [l66_0, e23, e22, hml, show (m : Int) < l.length by omega, e21, q1, q3, nw, hcv, hst, r2r, c58, gl_t, rd1_of r3, ul, e4, z3]
        exact ⟨j, Nat.lt_succ_self j, by omega, (x.trans x2).trans x3, by simp [e0], by simp [e2], by simp [e4], by simp [e21], by simp [e22], by rw [hm2]; simp⟩)
  obtain ⟨⟨y, e4, g4⟩, a4, rfl, x4, f0, f2, f4⟩ := loop0 l.length ⟨[v, .ptr h0.n 0, .int .i64 0, .int .i64 n, .tup [], .tup [], .tup [], .tup [], .tup [], v, .int .i64 l.length, .int .i64 0, .tup [], .tup [], .tup [], .tup [], .tup []], 23, .int .i64 0⟩ h1 ⟨Nat.le_refl _, Ext.refl _, by simp, by simp, by simp, by simp, by simp, by simp⟩
  simp only at x4 f0 f2 f4
  obtain ⟨gm, hgm⟩ : ∃ g, g = g4.new (.cells (wordsV (mix (avgV l) (fun _ => 0) n 0)) 38 false) := ⟨_, rfl⟩
  have xm : Ext g4 gm := by rw [hgm]; exact (Ext.refl g4).new _
  have nm : gm.n = g4.n + 1 := by rw [hgm, H.n_new]
  have rm : gm.get g4.n = some (.cells (wordsV (mix (avgV l) (fun _ => 0) n 0)) 38 false) := by rw [hgm, get_new_same]
  obtain ⟨g5, hg5⟩ : ∃ g, g = (gm.new (.cells [.nils, .int .i64 0] 72 false)).put gm.n (.cells [.sl g4.n 0 n (.ex n), .int .i64 0] 72 false) := ⟨_, rfl⟩
  have x5 : Ext gm g5 := by rw [hg5]; exact ((Ext.refl gm).new _).put (Nat.le_refl _) _
  have n5 : g5.n = gm.n + 1 := by rw [hg5, H.n_put, H.n_new]
  have r5 : g5.get gm.n = some (.cells [.sl g4.n 0 n (.ex n), .int .i64 0] 72 false) := by rw [hg5, get_put_same (by rw [H.n_new]; omega)]
  have rm5 : g5.get g4.n = _ := (x5.get _ (H.get_lt rm)).trans rm
  have m4 := x4.n
  have hms : ms g4 38 2 [(.int .u16 0)] (.int .i64 n) (.int .i64 n) = some (.sl g4.n 0 n (.ex n), gm) := by
    simp only [ms]
    rw [if_pos ⟨by omega, by omega, by omega, by omega, trivial⟩, Int.toNat_natCast, zeros (avgV l), ← hgm]
  have loop := loop_run (body := l66_2 KW loopZ) (L66 g5 v l n h0.n g4.n gm.n) (fun s => s.x = .ex 2 ∧ L66 g5 v l n h0.n g4.n gm.n 0 s.e s.h)
    (fun j e g hi => by
      obtain ⟨hj, x, gn, w, e0, e2, e7, e44, e45⟩ := hi
      have X : Ext h0 g := ⟨by have := x1.n; omega, fun c hc => by rw [x c (by omega) (by omega), x5.get c (by omega), xm.get c (by omega), x4.get c (by omega), x1.get c hc]⟩
      cases j with
      | zero =>
        rw [Nat.sub_zero] at e45
        simp [l66_2, e44, e45]
        exact ⟨rfl, hj, x, gn, w, by simp [e0], by simp [e2], by simp [e7], by simp [e44], by simp [e45]⟩
      | succ j =>
        obtain ⟨i, hi⟩ : ∃ i, i = n - (j + 1) := ⟨_, rfl⟩
        have hi2 : n - j = i + 1 := by omega
        rw [← hi] at e45 w
        have hin : i < n := by omega
        obtain ⟨lh, hlh⟩ : ∃ k, k = l.length / 2 := ⟨_, rfl⟩
        have hquo : (l.length : Int).tdiv 2 = (lh : Nat) := by rw [hlh]; exact Int.ofNat_tdiv _ 2
        have z0 : IntKind.i64.wrap (lh : Int) = lh := wi64 (by omega) (by omega)
        have hs0 : sumT l i 0 = lh := by rw [sumT, hlh]
        obtain ⟨e', g', a1, x', J⟩ := loop66_1 (B2 := h0.n) (B7 := gm.n) A S Ee hin X (e := ⟨[v, .ptr h0.n 0, e.s [0, 2, 3, 4, 6, 7, 8, 9, 11, 21, 22, 23, 44, 45, 51, 52, 53] 3, e.s [0, 2, 3, 4, 6, 7, 8, 9, 11, 21, 22, 23, 44, 45, 51, 52, 53] 4, e.s [0, 2, 3, 4, 6, 7, 8, 9, 11, 21, 22, 23, 44, 45, 51, 52, 53] 6, .ptr gm.n 0, .int .i64 i, .int .i64 lh, e.s [0, 2, 3, 4, 6, 7, 8, 9, 11, 21, 22, 23, 44, 45, 51, 52, 53] 11, e.s [0, 2, 3, 4, 6, 7, 8, 9, 11, 21, 22, 23, 44, 45, 51, 52, 53] 21, e.s [0, 2, 3, 4, 6, 7, 8, 9, 11, 21, 22, 23, 44, 45, 51, 52, 53] 22, e.s [0, 2, 3, 4, 6, 7, 8, 9, 11, 21, 22, 23, 44, 45, 51, 52, 53] 23, .int .i64 n, .int .i64 i, v, .int .i64 l.length, .int .i64 0], 53, .int .i64 0⟩) ⟨by simp, by simp, by simp, by simp, by simp [hs0], by simp, by simp, by simp, by simp, by simp⟩
        obtain ⟨f0, f2, f7, f8, f9, f44, f45, f51, f52, f53⟩ := J
        obtain ⟨s, hs⟩ : ∃ s, s = sumT l i l.length := ⟨_, rfl⟩
        obtain ⟨y, hy⟩ : ∃ y, y = avgV l i := ⟨_, rfl⟩
        have hav := A.avg hin
        have hsb := A.sum hin l.length
        have hyd : y = s / l.length := by rw [hy, hs]; rfl
        rw [← hs] at f9 hsb
        have hset := mix_set (avgV l) (fun _ => 0) n i
        have hs2 := wordsV_set (mix (avgV l) (fun _ => 0) n i) i (avgV l i)
        rw [hset] at hs2
        rw [← hy] at hav hs2
        have hq : (s : Int).tdiv l.length = (y : Nat) := by rw [hyd]; exact Int.ofNat_tdiv _ _
        have z1 : IntKind.i64.wrap (y : Int) = y := wi64 (by omega) (by omega)
        have z2 : IntKind.u16.wrap (y : Int) = y := wu16 (by omega) (by omega)
        have x'n := x'.n
        have w' : g'.get g4.n = some (.cells (wordsV (mix (avgV l) (fun _ => 0) n i)) 38 false) := by rw [x'.get _ (H.get_lt w), w]
        have wn : i < (wordsV (mix (avgV l) (fun _ => 0) n i)).length := by rw [wordsV_length, mix_length]; exact hin
        have hwr := fun v => wr1_of w' (o := i) wn v
        have r5' : g'.get gm.n = some (.cells [.sl g4.n 0 n (.ex n), .int .i64 0] 72 false) := by rw [x'.get _ (by omega), x _ (by omega) (by omega), r5]
        obtain ⟨g2, hg2⟩ : ∃ g2, g2 = g'.put g4.n (.cells (wordsV (mix (avgV l) (fun _ => 0) n (i + 1))) 38 false) := ⟨_, rfl⟩
        have z3 : IntKind.i64.wrap ((i : Int) + 1) = ((i + 1 : Nat) : Int) := by rw [wi64 (by omega) (by omega)]; omega
        simp [l66_2, e44, e45, hin, show (i : Int) < n by omega, e0, sl, hquo, z0, e2, e7, a1, f0, f7, f9, f8, rd1_of r5', show ¬ (l.length : Int) = 0 by omega, show ¬ l.length = 0 by omega, show l ≠ [] by (rintro rfl; simp at hl0), hq, z1, z2, hwr, hs2, ← hg2, ck, V.same, f45, z3]
        exact ⟨j, Nat.lt_succ_self j, by omega, fun c hc hcm => by rw [hg2, get_put_ne hcm, x'.get c (by omega), x c hc hcm], by rw [hg2, H.n_put]; omega, by rw [hg2, get_put_same (H.get_lt w'), hi2], by simp [f0], by simp [f2], by simp [f7], by simp [f44], by rw [hi2]; simp [z3]⟩)
  obtain ⟨⟨y, e7, g7⟩, a7, rfl, I⟩ := loop n ⟨[v, .ptr h0.n 0, e4.s [0, 2, 3, 4, 6, 7, 8, 9, 11, 21, 22, 23, 44, 45, 51, 52, 53] 3, .int .i64 n, e4.s [0, 2, 3, 4, 6, 7, 8, 9, 11, 21, 22, 23, 44, 45, 51, 52, 53] 6, .ptr gm.n 0, e4.s [0, 2, 3, 4, 6, 7, 8, 9, 11, 21, 22, 23, 44, 45, 51, 52, 53] 8, e4.s [0, 2, 3, 4, 6, 7, 8, 9, 11, 21, 22, 23, 44, 45, 51, 52, 53] 9, e4.s [0, 2, 3, 4, 6, 7, 8, 9, 11, 21, 22, 23, 44, 45, 51, 52, 53] 11, e4.s [0, 2, 3, 4, 6, 7, 8, 9, 11, 21, 22, 23, 44, 45, 51, 52, 53] 21, e4.s [0, 2, 3, 4, 6, 7, 8, 9, 11, 21, 22, 23, 44, 45, 51, 52, 53] 22, e4.s [0, 2, 3, 4, 6, 7, 8, 9, 11, 21, 22, 23, 44, 45, 51, 52, 53] 23, .int .i64 n, .int .i64 0, e4.s [0, 2, 3, 4, 6, 7, 8, 9, 11, 21, 22, 23, 44, 45, 51, 52, 53] 51, e4.s [0, 2, 3, 4, 6, 7, 8, 9, 11, 21, 22, 23, 44, 45, 51, 52, 53] 52, e4.s [0, 2, 3, 4, 6, 7, 8, 9, 11, 21, 22, 23, 44, 45, 51, 52, 53] 53], 45, .int .i64 0⟩ g5 ⟨Nat.le_refl _, fun _ _ _ => rfl, Nat.le_refl _, by rw [Nat.sub_self]; exact rm5, by simp, by simp, by simp, by simp, by simp⟩
  obtain ⟨_, x7, gn7, w7, f0', f2', f7', _, _⟩ := I
  simp only at x7 gn7 w7 f0' f2' f7'
  rw [Nat.sub_zero, mix_full] at w7
  have ra : g7.get h0.n = some (.cells [.nils, .int .i64 0] 72 false) := by rw [x7 _ (by omega) (by omega), x5.get _ (by omega), xm.get _ (by omega), x4.get _ (by omega), r1]
  have rq : g7.get gm.n = some (.cells [.sl g4.n 0 n (.ex n), .int .i64 0] 72 false) := by rw [x7 _ (by omega) (by omega), r5]
  obtain ⟨h8, hh8⟩ : ∃ g, g = g7.put h0.n (.cells [.sl g4.n 0 n (.ex n), .int .i64 0] 72 false) := ⟨_, rfl⟩
  have r8 : h8.get h0.n = some (.cells [.sl g4.n 0 n (.ex n), .int .i64 0] 72 false) := by rw [hh8, get_put_same (H.get_lt ra)]
  have b8 : h8.get g4.n = some (.cells (wordsV (tabN (avgV l) n)) 38 false) := by rw [hh8, get_put_ne (by omega)]; exact w7
  rw [w66, f66, s66]
  simp [nw, ← hh1, sl, show ¬ (l.length : Int) = 0 by omega, show ¬ l.length = 0 by omega, show l ≠ [] by (rintro rfl; simp at hl0), p1', p2, ul0, a4, f4, hms, bl, fillW, splice, V.cells, wrN_of (o := 0) get_new_same, ← hg5, rd1_of r5, f0, f2, a7, f7', rdN_of (o := 0) (n := 2) rq (by simp), f2', wrN_of (o := 0) ra, ← hh8, rdN_of (o := 0) (n := 2) r8 (by simp)]
  refine ⟨_, rfl, ⟨.sl g4.n 0 n (.ex n), rfl, ?_, fun y hy => ?_⟩, ?_⟩
  · have := SlR.of (D := fun b => h0.n ≤ b) (n := n) (z := 1) (k := .ex n) b8 (by rw [wordsV_length, tabN_length, Nat.mul_one]) (show h0.n ≤ g4.n by omega)
    rw [show (avgT l n).c = tabN (avgV l) n from rfl, tabN_length]; exact this
  · obtain ⟨i, hi, rfl⟩ := mem_tabN hy
    have := A.avg hi; omega
  · refine ⟨by rw [hh8, H.n_put]; omega, fun c hc => ?_⟩
    rw [hh8, get_put_ne (by omega), x7 c (by omega) (by omega), x5.get c (by omega), xm.get c (by omega), x4.get c (by omega), x1.get c hc]
end avg
end Go.Proofs.Ytfjghgjkpenanaa
