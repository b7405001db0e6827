/- The average of several tables, of both. -/
import Derived.Test.YtfjghgjkpenanaaSaq
set_option linter.unusedVariables false
set_option linter.unusedSimpArgs false
set_option maxRecDepth 20000
namespace Go.Proofs.Ytfjghgjkpenanaa
open Go Go.Zf
open Go.Zf (wi64)

/-- The sum of the first j tables' numbers at i. -/
def sumT (l : List Tb) (i : Nat) : Nat → Nat
  | 0 => l.length / 2
  | j + 1 => sumT l i j + nth (l.getD j ⟨[], 0⟩).c i
def avgV (l : List Tb) (i : Nat) : Nat := sumT l i l.length / l.length
def avgT (l : List Tb) (n : Nat) : Tb := ⟨tabN (avgV l) n, 0⟩
/-- Several tables of one length that may be. -/
def Alike2 (l : List Tb) (n : Nat) : Prop := l.length < 1000 ∧ 0 < l.length ∧ ∀ (i : Nat) (t : Tb), l[i]? = some t → TabOk t ∧ t.c.length = n
theorem Alike2.nth {l : List Tb} {n : Nat} (a : Alike2 l n) (i j : Nat) (hi : i < n) : Go.Proofs.Ytfjghgjkpenanaa.nth (l.getD j ⟨[], 0⟩).c i ≤ 32768 := by
  by_cases hj : j < l.length
  · obtain ⟨t, ht⟩ := get_of_lt hj
    have := a.2.2 j t ht
    rw [List.getD_eq_getElem?_getD, ht]
    exact this.1.le (by rw [this.2]; exact hi)
  · rw [List.getD_eq_getElem?_getD, List.getElem?_eq_none (by omega)]
    simp [Go.Proofs.Ytfjghgjkpenanaa.nth]
theorem Alike2.sum {l : List Tb} {n : Nat} (a : Alike2 l n) {i : Nat} (hi : i < n) : ∀ j, sumT l i j ≤ l.length / 2 + 32768 * j
  | 0 => Nat.le_refl _
  | j + 1 => by have := a.sum hi j; have := a.nth i j hi; simp only [sumT]; omega
theorem Alike2.avg {l : List Tb} {n : Nat} (a : Alike2 l n) {i : Nat} (hi : i < n) : avgV l i ≤ 32768 := by
  have h1 := a.sum hi l.length
  have h2 := a.2.1
  have h3 : sumT l i l.length < 32769 * l.length := by omega
  have := (Nat.div_lt_iff_lt_mul h2).mpr h3
  unfold avgV; omega
theorem Alike2.pos {l : List Tb} {n : Nat} (a : Alike2 l n) : 2 ≤ n ∧ n ≤ 16 := by
  obtain ⟨t, ht⟩ := get_of_lt (l := l) (i := 0) a.2.1
  have := a.2.2 0 t ht
  rw [← this.2]; exact this.1.1

section avg
variable {D : Nat → Prop} {h0 : H} {v : V} {l : List Tb} {cs : List V} {n : Nat}
theorem tab_at (S : SlR D h0 v tT 2 l.length cs) (Ee : Els D h0 cs l) {i : Nat} {t : Tb} (ht : l[i]? = some t) {g : H} (x : Ext h0 g) :
    ∃ b o vc, iaS 2 v (.int .i64 i) = some (.ptr b o) ∧ g.rd1 b o = some vc ∧ g.rdN b o 2 = some [vc, .int .i64 t.n] ∧ U16 D g vc t.c := by
  obtain ⟨b, o, vc, h1, h2, _, h4, h5, _, h7⟩ := RowR.tab (D := D) (h := h0) (v := v) (r := l) ⟨cs, S, Ee⟩ ht
  exact ⟨b, o, vc, h1, rd1_ext x h7 h2, by rw [← h4]; unfold H.rdN; rw [x.get b h7], h5.ext x⟩

structure J67 (v : V) (l : List Tb) (i B2 B5 s m : Nat) (e : E) : Prop where
  e0 : e.s [0, 2, 3, 4, 5, 6, 7, 8] 0 = v
  e2 : e.s [0, 2, 3, 4, 5, 6, 7, 8] 2 = .ptr B2 0
  e5 : e.s [0, 2, 3, 4, 5, 6, 7, 8] 5 = .ptr B5 0
  e6 : e.s [0, 2, 3, 4, 5, 6, 7, 8] 6 = .int .i64 i
  e7 : e.s [0, 2, 3, 4, 5, 6, 7, 8] 7 = .int .i64 s
  e8 : e.s [0, 2, 3, 4, 5, 6, 7, 8] 8 = .int .i64 m
theorem loop67_1 {B2 B5 : Nat} (A : Alike2 l n) (S : SlR D h0 v tT 2 l.length cs) (Ee : Els D h0 cs l) {i : Nat} (hi : i < n) {g : H} (x : Ext h0 g) {e : E} (I : J67 v l i B2 B5 (sumT l i 0) 0 e) :
    ∃ e', loopZ (l67_1 KW loopZ) e g = some ⟨.ex 4, e', g⟩ ∧ J67 v l i B2 B5 (sumT l i l.length) l.length e' := by
  have loop := loop_run (body := l67_1 KW loopZ) (fun j e' g' => j ≤ l.length ∧ g' = g ∧ J67 v l i B2 B5 (sumT l i (l.length - j)) (l.length - j) e')
    (fun s => s.x = .ex 4 ∧ s.h = g ∧ J67 v l i B2 B5 (sumT l i l.length) l.length s.e)
    (fun j e' g' hi' => by
      obtain ⟨hj, rfl, e0, e2, e5, e6, e7, e8⟩ := hi'
      have sl := S.len
      have hl := A.1
      cases j with
      | zero =>
        rw [Nat.sub_zero] at e7 e8
        simp [l67_1, e0, sl, e8]
        exact ⟨rfl, rfl, by simp [e0], by simp [e2], by simp [e5], by simp [e6], by simp [e7], by simp [e8]⟩
      | succ j =>
        obtain ⟨m, hm⟩ : ∃ m, m = l.length - (j + 1) := ⟨_, rfl⟩
        have hm2 : l.length - j = m + 1 := by omega
        rw [← hm] at e7 e8
        have hml : m < l.length := by omega
        obtain ⟨t, ht⟩ := get_of_lt hml
        obtain ⟨b, o, vc, q1, q2, q3, U⟩ := tab_at S Ee ht x
        have ht2 := A.2.2 m t ht
        obtain ⟨b', o', r1, r2, _⟩ := U.at (i := i) (by omega)
        have hs := A.sum hi m
        have hn := A.nth i m hi
        have hg : l.getD m ⟨[], 0⟩ = t := by rw [List.getD_eq_getElem?_getD, ht]; rfl
        rw [hg] at hn
        obtain ⟨y, hy⟩ : ∃ y, y = Go.Proofs.Ytfjghgjkpenanaa.nth t.c i := ⟨_, rfl⟩
        rw [← hy] at r2 hn
        have hss : sumT l i (m + 1) = sumT l i m + y := by rw [sumT, hg, hy]
        obtain ⟨s, hs'⟩ : ∃ s, s = sumT l i m := ⟨_, rfl⟩
        rw [← hs'] at e7 hs hss
        have z1 : IntKind.i64.wrap (y : Int) = y := wi64 (by omega) (by omega)
        have z2 : IntKind.i64.wrap ((s : Int) + y) = ((s + y : Nat) : Int) := by rw [wi64 (by omega) (by omega)]; omega
        have z3 : IntKind.i64.wrap ((m : Int) + 1) = ((m + 1 : Nat) : Int) := by rw [wi64 (by omega) (by omega)]; omega
        obtain ⟨s2, hs2⟩ : ∃ s2, s2 = s + y := ⟨_, rfl⟩
        obtain ⟨m2, hm3⟩ : ∃ m2, m2 = m + 1 := ⟨_, rfl⟩
        rw [← hs2] at z2 hss
        rw [← hm3] at z3 hm2 hss
        simp [l67_1, e0, sl, e8, hml, show (m : Int) < l.length by omega, q1, q2, e6, r1, r2, z1, e7, z2, z3]
        exact ⟨j, Nat.lt_succ_self j, by omega, rfl, by simp [e0], by simp [e2], by simp [e5], by simp [e6], by rw [hm2, hss]; simp, by rw [hm2]; simp⟩)
  obtain ⟨⟨x, e', g'⟩, r1, r2, rfl, r3⟩ := loop l.length e g ⟨Nat.le_refl _, rfl, by rw [Nat.sub_self]; exact I⟩
  simp only at r2 r3
  subst r2
  exact ⟨e', r1, r3⟩

theorem avgT_snoc (f : Nat → Nat) (n : Nat) : tabN f (n + 1) = tabN f n ++ [f n] := tabN_succ f n

structure K67 (h0 : H) (v : V) (l : List Tb) (n B2 B5 j : Nat) (e : E) (g : H) : Prop where
  hj : j ≤ n
  x : ∀ c, c < B5 → g.get c = h0.get c
  gn : h0.n ≤ g.n
  b : ∃ sv, Box B5 0 (tabN (avgV l) (n - j)) g sv
  e0 : e.s [0, 2, 3, 4, 5, 6, 7, 8] 0 = v
  e2 : e.s [0, 2, 3, 4, 5, 6, 7, 8] 2 = .ptr B2 0
  e5 : e.s [0, 2, 3, 4, 5, 6, 7, 8] 5 = .ptr B5 0
  e6 : e.s [0, 2, 3, 4, 5, 6, 7, 8] 6 = .int .i64 ((n - j : Nat) : Int)

theorem average67_ok (A : Alike2 l n) (S : SlR D h0 v tT 2 l.length cs) (Ee : Els D h0 cs l) :
    RT (fun w h' => ∃ vt, w = .tup [vt, .int .i64 0] ∧ NewT h0.n h' vt (avgT l n) ∧ Ext h0 h') (KW 67 [v] h0) := by
  obtain ⟨h1, hh1⟩ : ∃ g, g = h0.new (.cells [.nils, .int .i64 0] 72 false) := ⟨_, rfl⟩
  have x1 : Ext h0 h1 := by rw [hh1]; exact (Ext.refl h0).new _
  have n1 : h1.n = h0.n + 1 := by rw [hh1, H.n_new]
  have r1 : h1.get h0.n = some (.cells [.nils, .int .i64 0] 72 false) := by rw [hh1, get_new_same]
  have sl := S.len
  have hl := A.1
  have hl0 := A.2.1
  have hn := A.pos
  -- all may be
  have loop0 := loop_run (body := l67_0 KW loopZ) (fun j e' g' => j ≤ l.length ∧ Ext h1 g' ∧ e'.s [0, 2, 3, 4, 5, 6, 7, 8] 0 = v ∧ e'.s [0, 2, 3, 4, 5, 6, 7, 8] 2 = .ptr h0.n 0 ∧ e'.s [0, 2, 3, 4, 5, 6, 7, 8] 4 = .int .i64 ((l.length - j : Nat) : Int))
    (fun s => s.x = .ex 0 ∧ Ext h1 s.h ∧ s.e.s [0, 2, 3, 4, 5, 6, 7, 8] 0 = v ∧ s.e.s [0, 2, 3, 4, 5, 6, 7, 8] 2 = .ptr h0.n 0)
    (fun j e' g' hi' => by
      obtain ⟨hj, x, e0, e2, e4⟩ := hi'
      cases j with
      | zero =>
        rw [Nat.sub_zero] at e4
        simp [l67_0, e0, sl, e4]
        exact ⟨rfl, x, by simp [e0], by simp [e2]⟩
      | succ j =>
        obtain ⟨m, hm⟩ : ∃ m, m = l.length - (j + 1) := ⟨_, rfl⟩
        have hm2 : l.length - j = m + 1 := by omega
        rw [← hm] at e4
        have hml : m < l.length := by omega
        obtain ⟨t, ht⟩ := get_of_lt hml
        obtain ⟨t0, ht0⟩ := get_of_lt hl0
        obtain ⟨b, o, vc, q1, q2, q3, U⟩ := tab_at S Ee ht (x1.trans x)
        have ht2 := A.2.2 m t ht
        have ht02 := A.2.2 0 t0 ht0
        obtain ⟨w, g2, c62, rfl, x2⟩ := (check62_ok U (by omega)).elim
        rw [if_pos ht2.1] at c62
        obtain ⟨b', o', vc', q1', q2', q3', U'⟩ := tab_at S Ee ht ((x1.trans x).trans x2)
        rw [q1] at q1'; cases q1'
        obtain ⟨b0, o0, vc0, p1, p2, p3, U0⟩ := tab_at S Ee ht0 ((x1.trans x).trans x2)
        have ul := U'.1.len
        have ul0 := U0.1.len
        rw [ht2.2] at ul
        rw [ht02.2] at ul0
        have q3g := q3'
        have : vc' = vc := by
          have hbl : b < h0.n := by
            obtain ⟨b2, o2, vc2, k1, k2, _, k4, k5, _, k7⟩ := RowR.tab (D := D) (h := h0) (v := v) (r := l) ⟨cs, S, Ee⟩ ht
            rw [q1] at k1; cases k1; exact k7
          have e1 : g2.rd1 b o = g'.rd1 b o := by unfold H.rd1; rw [x2.get b (by have := x1.n; have := x.n; omega)]
          rw [e1, q2] at q2'; cases q2'; rfl
        subst this
        have us := U'.1.same
        have us0 := U0.1.same
        have z3 : IntKind.i64.wrap ((m : Int) + 1) = ((m + 1 : Nat) : Int) := by rw [wi64 (by omega) (by omega)]; omega
        obtain ⟨m2, hm3⟩ : ∃ m2, m2 = m + 1 := ⟨_, rfl⟩
        rw [← hm3] at z3 hm2
        have p1' : iaS 2 v (.int .i64 0) = some (.ptr b0 o0) := by simpa using p1
        simp [l67_0, e0, sl, e4, hml, show (m : Int) < l.length by omega, q1, q3, c62, gl_t, q2', ul, p1', p2, ul0, ck, V.same, V.sames, us, us0, q3g, z3]
        exact ⟨j, Nat.lt_succ_self j, by omega, x.trans x2, by simp [e0], by simp [e2], by rw [hm2]; simp⟩)
  obtain ⟨⟨y, e4, g4⟩, a4, rfl, x4, f0, f2⟩ := loop0 l.length ⟨[v, .ptr h0.n 0, .int .i64 0, .int .i64 0, .tup [], .tup [], .tup [], .tup []], 4, .int .i64 0⟩ h1 ⟨Nat.le_refl _, Ext.refl _, by simp, by simp, by simp⟩
  simp only at x4 f0 f2
  obtain ⟨g5, hg5⟩ : ∃ g, g = g4.new (.cells [.nils, .int .i64 0] 72 false) := ⟨_, rfl⟩
  have x5 : Ext g4 g5 := by rw [hg5]; exact (Ext.refl g4).new _
  have n5 : g5.n = g4.n + 1 := by rw [hg5, H.n_new]
  have r5 : g5.get g4.n = some (.cells [.nils, .int .i64 0] 72 false) := by rw [hg5, get_new_same]
  have m4 := x4.n
  have loop := loop_run (body := l67_2 KW loopZ) (K67 g5 v l n h0.n g4.n) (fun s => s.x = .ex 2 ∧ K67 g5 v l n h0.n g4.n 0 s.e s.h)
    (fun j e g hi => by
      obtain ⟨hj, x, gn, ⟨sv, B⟩, e0, e2, e5, e6⟩ := hi
      have X : Ext h0 g := ⟨by have := x1.n; omega, fun c hc => by rw [x c (by omega), x5.get c (by omega), x4.get c (by omega), x1.get c hc]⟩
      obtain ⟨t0, ht0⟩ := get_of_lt hl0
      have ht02 := A.2.2 0 t0 ht0
      obtain ⟨b0, o0, vc0, p1, p2, p3, U0⟩ := tab_at S Ee ht0 X
      have ul0 := U0.1.len
      rw [ht02.2] at ul0
      have p1' : iaS 2 v (.int .i64 0) = some (.ptr b0 o0) := by simpa using p1
      cases j with
      | zero =>
        rw [Nat.sub_zero] at e6
        simp [l67_2, e0, p1', p2, ul0, e6]
        exact ⟨rfl, hj, x, gn, ⟨sv, B⟩, by simp [e0], by simp [e2], by simp [e5], by simp [e6]⟩
      | succ j =>
        obtain ⟨i, hi⟩ : ∃ i, i = n - (j + 1) := ⟨_, rfl⟩
        have hi2 : n - j = i + 1 := by omega
        rw [← hi] at e6 B
        have hin : i < n := by omega
        obtain ⟨lh, hlh⟩ : ∃ k, k = l.length / 2 := ⟨_, rfl⟩
        have hquo : (l.length : Int).tdiv 2 = (lh : Nat) := by rw [hlh]; exact Int.ofNat_tdiv _ 2
        have z0 : IntKind.i64.wrap (lh : Int) = lh := wi64 (by omega) (by omega)
        have hs0 : sumT l i 0 = lh := by rw [sumT, hlh]
        obtain ⟨e', a1, J⟩ := loop67_1 (B2 := h0.n) (B5 := g4.n) A S Ee hin X (e := ⟨[v, .ptr h0.n 0, e.s [0, 2, 3, 4, 5, 6, 7, 8] 3, e.s [0, 2, 3, 4, 5, 6, 7, 8] 4, .ptr g4.n 0, .int .i64 i, .int .i64 lh, .int .i64 0], 8, .int .i64 0⟩) ⟨by simp, by simp, by simp, by simp, by simp [hs0], by simp⟩
        obtain ⟨f0, f2, f5, f6, f7, f8⟩ := J
        obtain ⟨s, hs⟩ : ∃ s, s = sumT l i l.length := ⟨_, rfl⟩
        obtain ⟨y, hy⟩ : ∃ y, y = avgV l i := ⟨_, rfl⟩
        have hav := A.avg hin
        have hsb := A.sum hin l.length
        have hyd : y = s / l.length := by rw [hy, hs]; rfl
        rw [← hy] at hav
        rw [← hs] at f7 hsb
        have hq : (s : Int).tdiv l.length = (y : Nat) := by rw [hyd]; exact Int.ofNat_tdiv _ _
        have z1 : IntKind.i64.wrap (y : Int) = y := wi64 (by omega) (by omega)
        have z2 : IntKind.u16.wrap (y : Int) = y := wu16 (by omega) (by omega)
        obtain ⟨v', g1, g2, b1, b2, b3, b4, b5, b6⟩ := B.push y (by rw [tabN_length]; omega)
        have hsv := B.s.same
        have z3 : IntKind.i64.wrap ((i : Int) + 1) = ((i + 1 : Nat) : Int) := by rw [wi64 (by omega) (by omega)]; omega
        obtain ⟨m2, hm3⟩ : ∃ m2, m2 = i + 1 := ⟨_, rfl⟩
        rw [← hm3] at z3
        simp [l67_2, e0, p1', p2, ul0, e6, hin, show (i : Int) < n by omega, sl, hquo, z0, e2, e5, a1, f0, f5, f7, rd1_of B.b, show ¬ (l.length : Int) = 0 by omega, show ¬ l.length = 0 by omega, show l ≠ [] by (rintro rfl; simp at hl0), hq, z1, z2, bs, fillW, splice, b1, b3, b2, ck, hsv, V.same, f6, z3]
        exact ⟨j, Nat.lt_succ_self j, by omega, fun c hc => by rw [b5 c hc, x c hc], by omega, ⟨v', by rw [hi2, tabN_succ, ← hy]; exact b4⟩, by simp [f0], by simp [f2], by simp [f5], by rw [hi2, ← hm3]; simp⟩)
  obtain ⟨⟨y, e7, g7⟩, a7, rfl, I⟩ := loop n ⟨[v, .ptr h0.n 0, e4.s [0, 2, 3, 4, 5, 6, 7, 8] 3, e4.s [0, 2, 3, 4, 5, 6, 7, 8] 4, .ptr g4.n 0, .int .i64 0, e4.s [0, 2, 3, 4, 5, 6, 7, 8] 7, e4.s [0, 2, 3, 4, 5, 6, 7, 8] 8], 6, .int .i64 0⟩ g5 ⟨Nat.le_refl _, fun _ _ => rfl, Nat.le_refl _, ⟨.nils, by rw [Nat.sub_self]; exact ⟨r5, GrowV.nil _ _ _ _⟩⟩, by simp, by simp, by simp, by simp⟩
  obtain ⟨_, x7, gn7, ⟨sv, B⟩, f0', f2', f5', _⟩ := I
  simp only at x7 gn7 B f0' f2' f5'
  rw [Nat.sub_zero] at B
  have ra : g7.get h0.n = some (.cells [.nils, .int .i64 0] 72 false) := by rw [x7 _ (by omega), x5.get _ (by omega), x4.get _ (by omega), r1]
  obtain ⟨h8, hh8⟩ : ∃ g, g = g7.put h0.n (.cells [sv, .int .i64 0] 72 false) := ⟨_, rfl⟩
  have r8 : h8.get h0.n = some (.cells [sv, .int .i64 0] 72 false) := by rw [hh8, get_put_same (H.get_lt ra)]
  have hcv := B.s.cells
  have Bb := rdN_of (o := 0) (n := 2) B.b (by simp)
  rw [w67, f67, s67]
  simp [nw, ← hh1, sl, show ¬ (l.length : Int) = 0 by omega, show ¬ l.length = 0 by omega, show l ≠ [] by (rintro rfl; simp at hl0), a4, f0, f2, ← hg5, a7, f5', Bb, f2', wrN_of (o := 0) ra, splice, hcv, ← hh8, rdN_of (o := 0) (n := 2) r8 (by simp)]
  have hG : GrowV (g4.n + 1) h8 sv 38 1 (wordsV (avgT l n).c) (avgT l n).c.length := by
    rw [hh8]; exact B.s.put (B.s.fresh.ne (by omega))
  refine ⟨_, rfl, ⟨sv, rfl, GrowV.slr hG fun b hb => by show h0.n ≤ b; omega, fun y hy => ?_⟩, ?_⟩
  · obtain ⟨i, hi, rfl⟩ := mem_tabN hy
    have := A.avg hi; omega
  · refine ⟨by rw [hh8, H.n_put]; omega, fun c hc => ?_⟩
    rw [hh8, get_put_ne (by omega), x7 c (by omega), x5.get c (by omega), x4.get c (by omega), x1.get c hc]
end avg
end Go.Proofs.Ytfjghgjkpenanaa
