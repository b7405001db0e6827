/- IntraTurned. -/
import Derived.Test.YtpjcmgmmolediaaIn
set_option linter.unusedVariables false
set_option linter.unusedSimpArgs false
namespace Go.Proofs.Ytpjcmgmmolediaa
open Go Go.Zf Go.RowKit Go.WideShapes

theorem w8 (p0 p1 : V) (h : H) : KW 8 [p0, p1] h = f8 KW loopZ p0 p1 h := (callW_eqF _ _ _ _ _ _ rfl).trans (congrFun (congrFun (congrFun (congrFun (congrFun (r8) _) _) p0) p1) h)
theorem w24 (p0 p1 p2 p3 p4 : V) (h : H) : KW 24 [p0, p1, p2, p3, p4] h = f24 KW loopZ p0 p1 p2 p3 p4 h := (callW_eqF _ _ _ _ _ _ rfl).trans (congrFun (congrFun (congrFun (congrFun (congrFun (congrFun (congrFun (congrFun (r24) _) _) p0) p1) p2) p3) p4) h)

theorem fC_turn {ha hl : Bool} {a l : List Nat} {c : Int} : fC hl ha l a c = fC ha hl a l c := by
  unfold fC; cases ha <;> cases hl <;> rfl
theorem fL_turn {ha hl : Bool} (h : ha = true ∨ hl = true) {a l : List Nat} {c : Int} : fL hl ha l a c = fA ha hl a l c := by
  unfold fL fA; rw [fC_turn]; cases ha <;> cases hl <;> first | rfl | simp at h
theorem fA_turn {ha hl : Bool} (h : ha = true ∨ hl = true) {a l : List Nat} {c : Int} : fA hl ha l a c = fL ha hl a l c := by
  unfold fL fA; rw [fC_turn]; cases ha <;> cases hl <;> first | rfl | simp at h
theorem mean_turn (a l : List Nat) : meanV l a = meanV a l := by
  unfold meanV; rw [Nat.add_comm l.length, Nat.add_comm l.sum]
theorem dirE_neg {n d c : Int} {e : Int → Int} : dirE n (-d) c e = dirE n d c e := by
  unfold dirE; by_cases h : d = 0
  · simp [h]
  · simp [h]
theorem dirU_neg {n d : Int} : dirU n (-d) = dirU n d := by
  unfold dirU; by_cases h : d = 0
  · simp [h]
  · simp [h]

/-- The pairs of modes that turn into one another. -/
def Pair (mode delta other : Int) : Prop := (mode = 8 ∧ other = 7 ∧ -3 ≤ delta ∧ delta ≤ 3) ∨ (mode = 1 ∧ other = 2 ∧ -3 ≤ delta ∧ delta ≤ 0) ∨ (delta = 0 ∧ ((mode = 10 ∧ other = 11) ∨ (mode = 0 ∧ other = 0) ∨ (mode = 9 ∧ other = 9) ∨ (mode = 4 ∧ other = 4)))

theorem eOf_neg {l : List Nat} {c : Int} : eOf l c (-1) = c := by unfold eOf; simp
theorem edge_m1 {ha hl : Bool} (h : ha = true ∨ hl = true) {a l : List Nat} {c : Int} : fA ha hl a l c (-1) = fC ha hl a l c ∧ fL ha hl a l c (-1) = fC ha hl a l c := by
  unfold fA fL
  cases ha <;> cases hl <;> simp [eOf_neg] at h ⊢

theorem turn_plain {n mode delta other : Int} (hp : Pair mode delta other) {ha hl : Bool} (h : ha = true ∨ hl = true) {a l : List Nat} {c : Int} (hn : 4 ≤ n) {x y : Int} (x0 : 0 ≤ x) (y0 : 0 ≤ y) :
    predS n mode delta ha hl a l c x y = predS n other (-delta) hl ha l a c y x := by
  unfold predS
  rw [fC_turn (ha := ha) (hl := hl) (a := a) (l := l), fL_turn h, fA_turn h, mean_turn a l]
  obtain ⟨A, hA⟩ : ∃ A, A = fA ha hl a l c := ⟨_, rfl⟩
  obtain ⟨L, hL⟩ : ∃ L, L = fL ha hl a l c := ⟨_, rfl⟩
  obtain ⟨C, hC⟩ : ∃ C, C = fC ha hl a l c := ⟨_, rfl⟩
  have hm1 := edge_m1 (a := a) (l := l) (c := c) h
  rw [← hA, ← hL, ← hC] at hm1
  rw [← hA, ← hL, ← hC]
  rcases hp with ⟨rfl, rfl, d0, d1⟩ | ⟨rfl, rfl, d0, d1⟩ | ⟨rfl, ⟨rfl, rfl⟩ | ⟨rfl, rfl⟩ | ⟨rfl, rfl⟩ | ⟨rfl, rfl⟩⟩
  · have e1 : angleOf 8 delta = (67 + 3 * delta, true) := by
      unfold angleOf; rw [if_neg (by omega)]; rfl
    have e2 : angleOf 7 (-delta) = (203 + 3 * -delta, true) := by
      unfold angleOf; rw [if_neg (by omega)]; rfl
    rw [e1, e2]
    simp only [if_true]
    unfold dirS slt
    rw [dirE_neg, dirE_neg, dirU_neg]
    rw [if_neg (by omega), if_neg (by omega), if_pos (by omega), if_neg (by omega), if_neg (by omega), if_neg (by omega), if_pos (by omega), show 270 - (203 + 3 * -delta) = 67 + 3 * delta by omega]
  · have e1 : angleOf 1 delta = (90 + 3 * delta, true) := by
      unfold angleOf; rw [if_neg (by omega)]; rfl
    have e2 : angleOf 2 (-delta) = (180 + 3 * -delta, true) := by
      unfold angleOf; rw [if_neg (by omega)]; rfl
    rw [e1, e2]
    simp only [if_true]
    unfold dirS
    rw [dirE_neg, dirE_neg, dirU_neg]
    by_cases hd : delta = 0
    · rw [if_pos (by omega), if_neg (by omega), if_pos (by omega)]
    · unfold slt
      rw [if_neg (by omega), if_neg (by omega), if_pos (by omega), if_neg (by omega), if_neg (by omega), if_neg (by omega), if_pos (by omega), show 270 - (180 + 3 * -delta) = 90 + 3 * delta by omega]
  · have e1 : (angleOf 10 0).2 = false := by decide
    have e2 : (angleOf 11 (-0)).2 = false := by decide
    rw [e1, e2]
    simp [softS]
  · have e1 : (angleOf 0 0).2 = false := by decide
    have e2 : (angleOf 0 (-0)).2 = false := by decide
    rw [e1, e2]
    simp
  · have e1 : (angleOf 9 0).2 = false := by decide
    have e2 : (angleOf 9 (-0)).2 = false := by decide
    rw [e1, e2]
    simp only [Bool.false_eq_true, if_false]
    simp [softS]
    congr 1
    omega
  · have e1 : angleOf 4 0 = (135, true) := by decide
    have e2 : angleOf 4 (-0) = (135, true) := by decide
    rw [e1, e2]
    simp only [if_true]
    unfold dirS
    rw [dirE_neg, dirE_neg, dirU_neg]
    have q1 : dirE n 0 C A = A := by unfold dirE; simp
    have q2 : dirE n 0 C L = L := by unfold dirE; simp
    have q3 : dirU n 0 = 0 := by unfold dirU; simp
    have q4 : sl 45 = 64 := by decide
    rw [q1, q2, q3, if_neg (by omega), if_neg (by omega), if_neg (by omega), if_neg (by omega)]
    unfold slt
    simp only [show ¬ (135 : Int) < 90 by omega, show ¬ (180 : Int) < 135 by omega, if_false]
    simp only [show (180 : Int) - 135 = 45 by omega, show (135 : Int) - 90 = 45 by omega, q4]
    unfold vis
    simp only [if_true]
    by_cases c1 : y < x
    · rw [if_pos (by simp; omega), if_neg (by simp; omega)]
    · by_cases c2 : x < y
      · rw [if_neg (by simp; omega), if_pos (by simp; omega)]
      · have : x = y := by omega
        subst this
        rw [if_pos (by simp; omega), if_pos (by simp; omega)]
        unfold btw bt
        simp only [if_true]
        rw [if_neg (by omega), if_neg (by omega)]
        rw [show 64 * x - (x + 1) * 64 = -64 by omega]
        have : (-64 : Int) / 64 + 0 * 1 = -1 := by decide
        rw [this, hm1.1, hm1.2]
        have : (-64 : Int) * 1 / 2 % 32 = 0 := by decide
        rw [this]
        simp

structure I24 (nn : Nat) (s1 s2 : V) (g0 : H) (m : Nat) (j : Nat) (en : E) (g : H) : Prop where
  hg : g = g0
  hj : j ≤ m
  p1 : en.s [0, 1, 2, 3, 4, 5, 10, 11, 12, 13, 14, 15, 16] 1 = .int .i64 nn
  p12 : en.s [0, 1, 2, 3, 4, 5, 10, 11, 12, 13, 14, 15, 16] 12 = s1
  p14 : en.s [0, 1, 2, 3, 4, 5, 10, 11, 12, 13, 14, 15, 16] 14 = s2
  p16 : en.s [0, 1, 2, 3, 4, 5, 10, 11, 12, 13, 14, 15, 16] 16 = .int .i64 ((m - j : Nat) : Int)

theorem loop24 {nn m : Nat} {g : H} {b1 b2 : Nat} {s1 s2 : Int → Int → Int} (hb1 : g.get b1 = some (.cells ((List.range m).map (byteAt s1 nn)) 5 false)) (hb2 : g.get b2 = some (.cells ((List.range m).map (byteAt s2 nn)) 5 false))
    (hs : ∀ x y : Int, 0 ≤ x → 0 ≤ y → s1 x y = s2 y x) (hm : (m : Int) = (nn : Int) * nn) (n4 : 4 ≤ nn) (hnn : nn ≤ 64) (en : E) (hi : I24 nn (.sl b1 0 m (.ex m)) (.sl b2 0 m (.ex m)) g m m en g) :
    ∃ e', loopZ (l24_0 KW loopZ) en g = some ⟨.ex 0, e', g⟩ := by
  have hm2 : (m : Int) ≤ 64 * 64 := by rw [hm]; exact (mul_bd (by omega) (by omega) (by omega) (by omega)).2
  have zm : IntKind.i64.wrap ((nn : Int) * nn) = m := by rw [← hm]; exact Go.Zf.wi64 (by omega) (by omega)
  obtain ⟨s, k1, k2, k3⟩ := loop_run (body := l24_0 KW loopZ) (I24 nn (.sl b1 0 m (.ex m)) (.sl b2 0 m (.ex m)) g m) (fun s => s.x = .ex 0 ∧ s.h = g)
    (fun j en g' hi => by
      obtain ⟨rfl, hj, p1, p12, p14, p16⟩ := hi
      cases j with
      | zero =>
        simp [l24_0, p1, zm, p16]
        exact ⟨rfl, rfl⟩
      | succ j =>
        obtain ⟨k, hk⟩ : ∃ k, k = m - (j + 1) := ⟨_, rfl⟩
        have hk2 : m - j = k + 1 := by omega
        rw [← hk] at p16
        have hkm : k < m := by omega
        have z3 : IntKind.i64.wrap ((k : Int) + 1) = k + 1 := Go.Zf.wi64 (by omega) (by omega)
        have r1 : 0 ≤ (k : Int) % nn := Int.emod_nonneg _ (by omega)
        have r2 : (k : Int) % nn < nn := Int.emod_lt_of_pos _ (by omega)
        have r3 : 0 ≤ (k : Int) / nn := Int.ediv_nonneg (by omega) (by omega)
        have r4 : (k : Int) / nn < nn := Int.ediv_lt_of_lt_mul (by omega) (by omega)
        have q1 : (k : Int).tmod nn = (k : Int) % nn := Int.tmod_eq_emod_of_nonneg (by omega)
        have q2 : (k : Int).tdiv nn = (k : Int) / nn := Int.tdiv_eq_ediv_of_nonneg (by omega)
        obtain ⟨x, hx⟩ : ∃ x : Nat, (x : Int) = (k : Int) % nn := ⟨((k : Int) % nn).toNat, by omega⟩
        obtain ⟨y, hy⟩ : ∃ y : Nat, (y : Int) = (k : Int) / nn := ⟨((k : Int) / nn).toNat, by omega⟩
        have hxm : (x : Int) * nn + y < m := by
          rw [hm]
          have := (mul_bd (a := (x : Int)) (A := nn - 1) (b := (nn : Int)) (B := nn) (by omega) (by omega) (by omega) (Int.le_refl _)).2
          rw [Int.sub_mul] at this
          omega
        have hx0 : 0 ≤ (x : Int) * nn := (mul_bd (a := (x : Int)) (A := nn) (b := (nn : Int)) (B := nn) (by omega) (by omega) (by omega) (Int.le_refl _)).1
        obtain ⟨p, hp⟩ : ∃ p : Nat, (p : Int) = (x : Int) * nn + y := ⟨((x : Int) * nn + y).toNat, by omega⟩
        have e1 : (p : Int) % nn = y := by rw [hp, Int.add_comm, Int.add_mul_emod_self_right, Int.emod_eq_of_lt (by omega) (by omega)]
        have e2 : (p : Int) / nn = x := by rw [hp, Int.add_comm, Int.add_mul_ediv_right _ _ (by omega), Int.ediv_eq_zero_of_lt (by omega) (by omega)]; omega
        have z4 : IntKind.i64.wrap ((k : Int) / nn) = y := by rw [← hy]; exact Go.Zf.wi64 (by omega) (by omega)
        have z5 : IntKind.i64.wrap ((x : Int) * nn) = (x : Int) * nn := Go.Zf.wi64 (by omega) (by omega)
        have z6 : IntKind.i64.wrap ((x : Int) * nn + y) = p := by rw [← hp]; exact Go.Zf.wi64 (by omega) (by omega)
        have hpm : p < m := by omega
        have f1 : ((List.range m).map (byteAt s1 nn))[k]? = some (byteAt s1 nn k) := by simp [hkm]
        have f2 : ((List.range m).map (byteAt s2 nn))[p]? = some (byteAt s2 nn p) := by simp [hpm]
        have heq : byteAt s2 nn p = byteAt s1 nn k := by
          unfold byteAt
          rw [e1, e2, ← hx, ← hy, hs x y (by omega) (by omega)]
        rw [heq] at f2
        obtain ⟨bv, hbv⟩ : ∃ bv, byteAt s1 nn k = .int .u8 bv := ⟨_, rfl⟩
        rw [hbv] at f1 f2
        obtain ⟨cs1, hc1⟩ : ∃ cs, cs = (List.range m).map (byteAt s1 nn) := ⟨_, rfl⟩
        obtain ⟨cs2, hc2⟩ : ∃ cs, cs = (List.range m).map (byteAt s2 nn) := ⟨_, rfl⟩
        rw [← hc1] at hb1 f1
        rw [← hc2] at hb2 f2
        simp [l24_0, p1, zm, p16, show (k : Int) < m by omega, hkm, p12, rd1_of hb1, f1, show ¬ (nn : Int) = 0 by omega, show ¬ nn = 0 by omega, q1, q2, ← hx, z4, z5, z6, p14, show (p : Int) < m by omega, hpm, rd1_of hb2, f2, z3]
        exact ⟨j, Nat.lt_succ_self j, rfl, by omega, by simp [p1], by simp [p12], by simp [p14], by simp [hk2]⟩) m en g hi
  obtain ⟨x, e', h'⟩ := s
  simp only at k2 k3
  subst k2 k3
  exact ⟨e', k1⟩

theorem turns24_ok {h : H} {mode delta other : Int} {ha hl : Bool} {A L : V} {a l : List Nat} {c : Nat} {nn : Nat} (aA : ByAt h A (fitL ha a nn)) (aL : ByAt h L (fitL hl l nn)) (hc : c < 256) (hz : Sz nn = true) (hh : ha = true ∨ hl = true) (hp : Pair mode delta other) :
    RT (fun w h' => w = .bool true ∧ Ext h h') (KW 24 [.agg (edges ha hl A L c), .int .i64 nn, .int .i64 mode, .int .i64 delta, .int .i64 other] h) := by
  obtain ⟨n4, n64, n0⟩ := sz_even hz
  have hd : -3 ≤ delta ∧ delta ≤ 3 ∧ 0 ≤ mode ∧ mode ≤ 12 ∧ 0 ≤ other ∧ other ≤ 12 := by rcases hp with h | h | h <;> omega
  have hb1 : Bad mode delta = false := bad_dirs (by omega) (by omega) (by omega) (by omega) (by unfold Dirs; rcases hp with h | h | h <;> simp <;> omega)
  have hb2 : Bad other (-delta) = false := bad_dirs (by omega) (by omega) (by omega) (by omega) (by unfold Dirs; rcases hp with h | h | h <;> simp <;> omega)
  unfold edges
  obtain ⟨h1, hh1⟩ : ∃ g, g = h.new (.cells [.bool ha, .bool hl, A, L, .int .u8 (c : Nat)] 25 false) := ⟨_, rfl⟩
  have x1 : Ext h h1 := by rw [hh1]; exact (Ext.refl h).new _
  have g1 : h1.get h.n = some (.cells [.bool ha, .bool hl, A, L, .int .u8 (c : Nat)] 25 false) := by rw [hh1, get_new_same]
  obtain ⟨h2, hh2⟩ : ∃ g, g = (h1.new (.cells [.bool false, .bool false, .nils, .nils, .int .u8 0] 25 false)).put h1.n (.cells [.bool hl, .bool ha, L, A, .int .u8 (c : Nat)] 25 false) := ⟨_, rfl⟩
  have x2 : Ext h1 h2 := by rw [hh2]; exact ((Ext.refl h1).new _).put (Nat.le_refl _) _
  have g2 : h2.get h1.n = some (.cells [.bool hl, .bool ha, L, A, .int .u8 (c : Nat)] 25 false) := by rw [hh2, get_put_same (by rw [H.n_new]; omega)]
  have g1' : h2.get h.n = _ := (x2.get _ (H.get_lt g1)).trans g1
  have X2 := x1.trans x2
  obtain ⟨w1, h3, k3, x3, b1, m, hm, rfl, hb3, q3⟩ := (pred_fit (mode := mode) (delta := delta) (aA.ext X2) (aL.ext X2) (c := c) (by omega) (by omega) hz hb1).elim
  have g2' : h3.get h1.n = _ := (x3.get _ (H.get_lt g2)).trans g2
  obtain ⟨w2, h4, k4, x4, b2, m', hm', rfl, hb4, q4⟩ := (pred_fit (mode := other) (delta := -delta) ((aL.ext X2).ext x3) ((aA.ext X2).ext x3) (c := c) (by omega) (by omega) hz hb2).elim
  have : m' = m := by omega
  subst this
  have q3' : h4.get b1 = _ := (x4.get _ (H.get_lt q3)).trans q3
  have hm2 : (m' : Int) ≤ 64 * 64 := by rw [hm]; exact (mul_bd (by omega) (by omega) (by omega) (by omega)).2
  have zm : IntKind.i64.wrap ((nn : Int) * nn) = m' := by rw [← hm]; exact Go.Zf.wi64 (by omega) (by omega)
  have zd : IntKind.i64.wrap (-delta) = -delta := Go.Zf.wi64 (by omega) (by omega)
  obtain ⟨e', r1⟩ := loop24 q3' q4 (fun x y x0 y0 => turn_plain hp hh n4 x0 y0) hm (by omega) (by omega)
    ⟨[.agg [.bool ha, .bool hl, A, L, .int .u8 (c : Nat)], .int .i64 nn, .int .i64 mode, .int .i64 delta, .int .i64 other, .ptr h.n 0, .bool false, .ptr h1.n 0, .sl b1 0 m' (.ex m'), .int .i64 0, .sl b2 0 m' (.ex m'), .int .i64 0, .int .i64 0], 16, .int .i64 0⟩ ⟨rfl, Nat.le_refl _, by simp, by simp, by simp, by simp⟩
  have sA := aA.cells
  have sL := aL.cells
  unfold edges at k3 k4
  rw [w24, f24, s24]
  simp [bx, ← hh1, rd1_of g1, bl, fillW, sA, sL, splice, nw, wrN_of (o := 0) get_new_same, ← hh2, rdN_of (o := 0) (n := 5) g1' (by simp), k3, zd, rdN_of (o := 0) (n := 5) g2' (by simp), k4, zm, r1]
  exact ⟨rfl, (X2.trans x3).trans x4⟩

/-! The law. -/
structure I8 (nn : Nat) (q : V) (hb : H) (j : Nat) (en : E) (g : H) : Prop where
  hj : j ≤ 7
  x : Ext hb g
  p2 : en.s [0, 1, 2, 4, 5, 6] 2 = q
  p5 : en.s [0, 1, 2, 4, 5, 6] 5 = .int .i64 nn
  p6 : en.s [0, 1, 2, 4, 5, 6] 6 = .int .i64 (4 - j : Int)

theorem loop8 {nn : Nat} {q : V} {hb : H} {ha hl : Bool} {A L : V} {a l : List Nat} {c : Nat} (e : Ed6 hb q ha hl A L a l c nn) (hz : Sz nn = true) (hh : ha = true ∨ hl = true) (en : E) (g : H) (hi : I8 nn q hb 7 en g) :
    ∃ e' g', loopZ (l8_0 KW loopZ) en g = some ⟨.ex 0, e', g'⟩ ∧ I8 nn q hb 0 e' g' := by
  obtain ⟨s, k1, k2, k3⟩ := loop_run (body := l8_0 KW loopZ) (I8 nn q hb) (fun s => s.x = .ex 0 ∧ I8 nn q hb 0 s.e s.h)
    (fun j en g hi => by
      obtain ⟨hj, x, p2, p5, p6⟩ := hi
      cases j with
      | zero =>
        simp [l8_0, p6]
        exact ⟨rfl, hj, x, by simp [p2], by simp [p5], by simp⟩
      | succ j =>
        obtain ⟨d, hd⟩ : ∃ d, d = (4 - (j + 1 : Nat) : Int) := ⟨_, rfl⟩
        rw [← hd] at p6
        have z3 : IntKind.i64.wrap (d + 1) = d + 1 := Go.Zf.wi64 (by omega) (by omega)
        obtain ⟨b, hq, hqb⟩ := e.qq
        have hqb' : g.get b = _ := (x.get _ (H.get_lt hqb)).trans hqb
        obtain ⟨w1, g1, r1, rfl, x1⟩ := (turns24_ok (e.aA.ext x) (e.aL.ext x) e.c hz hh (mode := 8) (delta := d) (other := 7) (.inl ⟨rfl, rfl, by omega, by omega⟩)).elim
        have hqb1 : g1.get b = _ := (x1.get _ (H.get_lt hqb')).trans hqb'
        have hedl : (edges ha hl A L c).length = 5 := rfl
        obtain ⟨cs, hcs'⟩ : ∃ cs, cs = edges ha hl A L c := ⟨_, rfl⟩
        rw [← hcs'] at hqb' r1 hedl hqb1
        subst hq
        by_cases hd0 : d ≤ 0
        · obtain ⟨w2, g2, r2, rfl, x2⟩ := (turns24_ok ((e.aA.ext x).ext x1) ((e.aL.ext x).ext x1) e.c hz hh (mode := 1) (delta := d) (other := 2) (.inr (.inl ⟨rfl, rfl, by omega, by omega⟩))).elim
          rw [← hcs'] at r2
          simp [l8_0, p6, show d < 4 by omega, p2, rdN_of (o := 0) (n := 5) hqb' (by omega), rdN_of (o := 0) (n := 5) hqb1 (by omega), List.take_of_length_le, hedl, p5, r1, hd0, r2, z3]
          exact ⟨j, Nat.lt_succ_self j, by omega, (x.trans x1).trans x2, by simp [p2], by simp [p5], by simp; omega⟩
        · simp [l8_0, p6, show d < 4 by omega, p2, rdN_of (o := 0) (n := 5) hqb' (by omega), List.take_of_length_le, hedl, p5, r1, hd0, gk_t, gl_t, z3]
          exact ⟨j, Nat.lt_succ_self j, by omega, x.trans x1, by simp [p2], by simp [p5], by simp; omega⟩) 7 en g hi
  obtain ⟨x, e', h'⟩ := s
  simp only at k2 k3
  subst k2
  exact ⟨e', h', k1, k3⟩

theorem sizes4 (r : Nat) (hr : r < 4) : ∃ nn : Nat, [V.int .i64 4, .int .i64 8, .int .i64 16, .int .i64 32][r]? = some (.int .i64 nn) ∧ Sz nn = true := by
  match r, hr with
  | 0, _ => exact ⟨4, rfl, rfl⟩
  | 1, _ => exact ⟨8, rfl, rfl⟩
  | 2, _ => exact ⟨16, rfl, rfl⟩
  | 3, _ => exact ⟨32, rfl, rfl⟩

theorem edges_length (ha hl : Bool) (A L : V) (c : Int) : (edges ha hl A L c).length = 5 := rfl

set_option maxHeartbeats 800000 in
theorem turned8_ok {h : H} {w : Int} {ha hl : Bool} {A L : V} {a l : List Nat} {c : Nat} (aA : ByAt h A a) (aL : ByAt h L l) (la : a.length < 9223372036854775808) (ll : l.length < 9223372036854775808) (hc : c < 256) (w0 : -9223372036854775808 ≤ w) (w1 : w < 9223372036854775808) :
    RT (fun r h' => r = .bool true) (KW 8 [.agg (edges ha hl A L c), .int .i64 w] h) := by
  unfold edges
  obtain ⟨h1, hh1⟩ : ∃ g, g = h.new (.cells [.bool ha, .bool hl, A, L, .int .u8 (c : Nat)] 25 false) := ⟨_, rfl⟩
  have x1 : Ext h h1 := by rw [hh1]; exact (Ext.refl h).new _
  have g1 : h1.get h.n = some (.cells [.bool ha, .bool hl, A, L, .int .u8 (c : Nat)] 25 false) := by rw [hh1, get_new_same]
  obtain ⟨cs, hcs⟩ : ∃ cs, cs = [V.int .i64 4, .int .i64 8, .int .i64 16, .int .i64 32] := ⟨_, rfl⟩
  obtain ⟨h2, hh2⟩ : ∃ g, g = h1.new (.cells cs 3 false) := ⟨_, rfl⟩
  have x2 : Ext h1 h2 := by rw [hh2]; exact (Ext.refl h1).new _
  have g2 : h2.get h1.n = some (.cells cs 3 false) := by rw [hh2, get_new_same]
  have g1' : h2.get h.n = _ := (x2.get _ (H.get_lt g1)).trans g1
  have X2 := x1.trans x2
  obtain ⟨r, hr, kb⟩ := bring18_ok w 4 h2 (by omega) (by omega) w0 w1
  obtain ⟨nn, hnn, hz⟩ := sizes4 r (by omega)
  obtain ⟨n4, n64, n0⟩ := sz_even hz
  rw [← hcs] at hnn
  -- the edge that is there
  obtain ⟨hl', hhl⟩ : ∃ b : Bool, b = (hl || !ha) := ⟨_, rfl⟩
  have hh : ha = true ∨ hl' = true := by rw [hhl]; cases ha <;> cases hl <;> simp
  obtain ⟨h3, hh3⟩ : ∃ g, g = (if ha = false ∧ hl = false then h2.put h.n (.cells [.bool ha, .bool true, A, L, .int .u8 (c : Nat)] 25 false) else h2) := ⟨_, rfl⟩
  have g3 : h3.get h.n = some (.cells [.bool ha, .bool hl', A, L, .int .u8 (c : Nat)] 25 false) := by
    rw [hh3]
    split
    · rename_i hcase
      rw [get_put_same (H.get_lt g1'), hhl, hcase.1, hcase.2]; rfl
    · rename_i hcase
      rw [g1', hhl]
      cases ha <;> cases hl <;> simp at hcase ⊢
  have x3 : Ext h h3 := by
    rw [hh3]
    split
    · exact X2.put (Nat.le_refl _) _
    · exact X2
  obtain ⟨w', h4, k4, x4, A', L', rfl, bA, bL, fA', fL'⟩ := (fitting19_ok (ha := ha) (hl := hl') (c := (c : Int)) (aA.ext x3) (aL.ext x3) la ll (m := nn) (by omega)).elim
  have g4 : h4.get h.n = _ := (x4.get _ (H.get_lt g3)).trans g3
  obtain ⟨h5, hh5⟩ : ∃ g, g = h4.put h.n (.cells [.bool ha, .bool hl', A', L', .int .u8 (c : Nat)] 25 false) := ⟨_, rfl⟩
  have g5 : h5.get h.n = some (.cells [.bool ha, .bool hl', A', L', .int .u8 (c : Nat)] 25 false) := by rw [hh5, get_put_same (H.get_lt g4)]
  have hn3 := H.get_lt g3
  have e6 : Ed6 h5 (.ptr h.n 0) ha hl' A' L' a l c nn := ⟨⟨h.n, rfl, g5⟩, by rw [hh5]; exact bA.put _ (fA'.ne hn3), by rw [hh5]; exact bL.put _ (fL'.ne hn3), hc⟩
  obtain ⟨e', h6, r1, ⟨_, x6, s2, s5, s6⟩⟩ := loop8 e6 hz hh
    ⟨[.agg [.bool ha, .bool hl, A, L, .int .u8 (c : Nat)], .int .i64 w, .ptr h.n 0, .bool false, .int .i64 nn, .int .i64 (-3)], 6, .int .i64 (-3)⟩ h5 ⟨by omega, Ext.refl _, by simp, by simp, by simp⟩
  have e7 := e6.ext x6
  have g6 : h6.get h.n = _ := (x6.get _ (H.get_lt g5)).trans g5
  obtain ⟨_, h7, k7, rfl, x7⟩ := (turns24_ok e7.aA e7.aL hc hz hh (mode := 10) (delta := 0) (other := 11) (.inr (.inr ⟨rfl, .inl ⟨rfl, rfl⟩⟩))).elim
  have e8 := e7.ext x7
  have g7 : h7.get h.n = _ := (x7.get _ (H.get_lt g6)).trans g6
  obtain ⟨_, h8, k8, rfl, x8⟩ := (turns24_ok e8.aA e8.aL hc hz hh (mode := 0) (delta := 0) (other := 0) (.inr (.inr ⟨rfl, .inr (.inl ⟨rfl, rfl⟩)⟩))).elim
  have e9 := e8.ext x8
  have g8 : h8.get h.n = _ := (x8.get _ (H.get_lt g7)).trans g7
  obtain ⟨_, h9, k9, rfl, x9⟩ := (turns24_ok e9.aA e9.aL hc hz hh (mode := 9) (delta := 0) (other := 9) (.inr (.inr ⟨rfl, .inr (.inr (.inl ⟨rfl, rfl⟩))⟩))).elim
  have e10 := e9.ext x9
  have g9 : h9.get h.n = _ := (x9.get _ (H.get_lt g8)).trans g8
  obtain ⟨_, h10, k10, rfl, x10⟩ := (turns24_ok e10.aA e10.aL hc hz hh (mode := 4) (delta := 0) (other := 4) (.inr (.inr ⟨rfl, .inr (.inr (.inr ⟨rfl, rfl⟩))⟩))).elim
  unfold edges at k4 k7 k8 k9 k10
  have hr4 : r < 4 := by omega
  rw [w8, f8, s8]
  cases hha : ha <;> cases hhl' : hl <;> subst hha <;> subst hhl' <;> subst hhl
  all_goals simp only [Bool.or_true, Bool.or_false, Bool.not_true, Bool.not_false, Bool.true_or, Bool.false_or, and_self, Bool.true_eq_false, false_and, and_false, if_true, if_false] at hh3 k4 k7 k8 k9 k10 hh5 g3 g4 g5 g6 g7 g8 g9 r1
  · simp [bx, ← hh1, works_ok, bs, fillW, ← hcs, ← hh2, kb, hr, hr4, rd1_of g2, hnn, rd1_of g1', gl_t, splice, wr1_of g1', ← hh3, rdN_of (o := 0) (n := 5) g3 (by simp), k4, wrN_of (o := 0) g4, ← hh5, r1, s2, s5, rdN_of (o := 0) (n := 5) g6 (by simp), rdN_of (o := 0) (n := 5) g7 (by simp), rdN_of (o := 0) (n := 5) g8 (by simp), rdN_of (o := 0) (n := 5) g9 (by simp), k7, k8, k9, k10]
    rfl
  · subst hh3
    simp [bx, ← hh1, works_ok, bs, fillW, ← hcs, ← hh2, kb, hr, hr4, rd1_of g2, hnn, rd1_of g1', gl_t, splice, wr1_of g1', rdN_of (o := 0) (n := 5) g3 (by simp), k4, wrN_of (o := 0) g4, ← hh5, r1, s2, s5, rdN_of (o := 0) (n := 5) g6 (by simp), rdN_of (o := 0) (n := 5) g7 (by simp), rdN_of (o := 0) (n := 5) g8 (by simp), rdN_of (o := 0) (n := 5) g9 (by simp), k7, k8, k9, k10]
    rfl
  · subst hh3
    simp [bx, ← hh1, works_ok, bs, fillW, ← hcs, ← hh2, kb, hr, hr4, rd1_of g2, hnn, rd1_of g1', gl_t, splice, wr1_of g1', rdN_of (o := 0) (n := 5) g3 (by simp), k4, wrN_of (o := 0) g4, ← hh5, r1, s2, s5, rdN_of (o := 0) (n := 5) g6 (by simp), rdN_of (o := 0) (n := 5) g7 (by simp), rdN_of (o := 0) (n := 5) g8 (by simp), rdN_of (o := 0) (n := 5) g9 (by simp), k7, k8, k9, k10]
    rfl
  · subst hh3
    simp [bx, ← hh1, works_ok, bs, fillW, ← hcs, ← hh2, kb, hr, hr4, rd1_of g2, hnn, rd1_of g1', gl_t, splice, wr1_of g1', rdN_of (o := 0) (n := 5) g3 (by simp), k4, wrN_of (o := 0) g4, ← hh5, r1, s2, s5, rdN_of (o := 0) (n := 5) g6 (by simp), rdN_of (o := 0) (n := 5) g7 (by simp), rdN_of (o := 0) (n := 5) g8 (by simp), rdN_of (o := 0) (n := 5) g9 (by simp), k7, k8, k9, k10]
    rfl

theorem core8 {Hd : Type} {enc : TypeId × Value → Hd} {W : World} {base : Nat} {v0 v1 : Value} {d0 d1 : DataW Hd} {p0 p1 : List MemPlace} {k : Prop}
    (hok : Value.okWide Try.prog W .any base 25 v0) (hd : DataW.Trod enc Try.prog W 0 (fun _ => true) true 25 v0 d0 p0)
    (hok1 : Value.okWide Try.prog W .any base 3 v1) (hd1 : DataW.Trod enc Try.prog W 0 (fun _ => true) true 3 v1 d1 p1) (hk : k) :
    Calls Try.prog 8 #[v0, v1] W fun e W' => e = .returned (.bool true) ∧ Go.RowKit.Below W.heap.size W W' := by
  obtain ⟨d, rfl, _, _, wd⟩ := Go.ChangeShapes.open_int Try.underlying3 hok1 hd1
  have hw := wf_i64 wd
  obtain ⟨i', h', ha, hl, A, L, c, la, ll, a, hle, hv, bA, bL, _, hc, q1, q2, _⟩ := argEdges (ArgH.empty W) hok hd
  obtain ⟨r, h2, hr, rfl⟩ := (turned8_ok (ha := ha) (hl := hl) bA bL q1 q2 hc hw.1 hw.2).elim
  exact law_calls (us := [v0, .int .i64 d]) (callW_ok mixed kp ov2_ok hr) a.rel (.cons hv (.cons (.int _ _) .nil)) a.dom a.no
end Go.Proofs.Ytpjcmgmmolediaa
