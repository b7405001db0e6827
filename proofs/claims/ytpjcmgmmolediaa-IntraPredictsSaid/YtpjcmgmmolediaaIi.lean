/- paeth, soft. -/
import Derived.Test.YtpjcmgmmolediaaIh
set_option linter.unusedVariables false
set_option linter.unusedSimpArgs false
namespace Go.Proofs.Ytpjcmgmmolediaa
open Go Go.Zf Go.RowKit

def farV (v p : Int) : Int := if v - p < p - v then p - v else v - p
def nearV (l a c : Int) : Int :=
  let p := l + a - c
  let b := if farV a p < farV l p then a else l
  if farV c p < farV b p then c else b

theorem far53_ok {h : H} {b : Nat} {p : Int} (hb : h.get b = some (.cells [.int .i64 p] 3 false)) {v : Int} (v0 : -100000 ≤ v) (v1 : v ≤ 100000) (p0 : -100000 ≤ p) (p1 : p ≤ 100000) :
    KW 53 [.int .i64 v, .ptr b 0] h = some (.ret (.int .i64 (farV v p)), h) := by
  have z1 : IntKind.i64.wrap (v - p) = v - p := Go.Zf.wi64 (by omega) (by omega)
  have z2 : IntKind.i64.wrap (p - v) = p - v := Go.Zf.wi64 (by omega) (by omega)
  rw [w53, f53, s53]
  unfold farV
  simp [rd1_of hb, z1, z2]

theorem round34 {h : H} {b b2 : Nat} {p : Int} {cs : List V} (hb : h.get b = some (.cells [.int .i64 p] 3 false)) (hb2 : h.get b2 = some (.cells cs 3 false)) {v best : Int} {j : Nat} (hj : cs[j]? = some (.int .i64 v)) (j2 : j < 2)
    (v0 : 0 ≤ v) (v1 : v ≤ 1000) (p0 : -1000 ≤ p) (p1 : p ≤ 1000) (b0 : 0 ≤ best) (b1 : best ≤ 1000) (en : E)
    (q11 : en.s [0, 1, 2, 3, 6, 7, 8, 9, 10, 11, 12, 14, 34, 35, 36] 11 = .fn (.func 53) [] [.ptr b 0]) (q12 : en.s [0, 1, 2, 3, 6, 7, 8, 9, 10, 11, 12, 14, 34, 35, 36] 12 = .int .i64 best)
    (q34 : en.s [0, 1, 2, 3, 6, 7, 8, 9, 10, 11, 12, 14, 34, 35, 36] 34 = .sl b2 0 2 (.ex 2)) (q35 : en.s [0, 1, 2, 3, 6, 7, 8, 9, 10, 11, 12, 14, 34, 35, 36] 35 = .int .i64 2) (q36 : en.s [0, 1, 2, 3, 6, 7, 8, 9, 10, 11, 12, 14, 34, 35, 36] 36 = .int .i64 (j : Int)) :
    ∃ e', l34_0 KW loopZ en h = some ⟨.nm, e', h⟩ ∧ e'.s [0, 1, 2, 3, 6, 7, 8, 9, 10, 11, 12, 14, 34, 35, 36] 11 = .fn (.func 53) [] [.ptr b 0] ∧ e'.s [0, 1, 2, 3, 6, 7, 8, 9, 10, 11, 12, 14, 34, 35, 36] 12 = .int .i64 (if farV v p < farV best p then v else best) ∧
      e'.s [0, 1, 2, 3, 6, 7, 8, 9, 10, 11, 12, 14, 34, 35, 36] 34 = .sl b2 0 2 (.ex 2) ∧ e'.s [0, 1, 2, 3, 6, 7, 8, 9, 10, 11, 12, 14, 34, 35, 36] 35 = .int .i64 2 ∧ e'.s [0, 1, 2, 3, 6, 7, 8, 9, 10, 11, 12, 14, 34, 35, 36] 36 = .int .i64 ((j + 1 : Nat) : Int) := by
  have k1 := far53_ok hb (v := v) (by omega) (by omega) (by omega) (by omega)
  have k2 := far53_ok hb (v := best) (by omega) (by omega) (by omega) (by omega)
  have zj : IntKind.i64.wrap ((j : Int) + 1) = j + 1 := Go.Zf.wi64 (by omega) (by omega)
  by_cases hc : farV v p < farV best p
  · simp [l34_0, q11, q12, q34, q35, q36, show (j : Int) < 2 by omega, j2, rd1_of hb2, hj, cdy_fn, k1, k2, hc, zj]
  · simp [l34_0, q11, q12, q34, q35, q36, show (j : Int) < 2 by omega, j2, rd1_of hb2, hj, cdy_fn, k1, k2, hc, zj]

theorem paeth34_ok {h : H} {n c : Int} {vA vL : V} {A L : Int → Int} (aA : Edge h vA A (-big) big) (aL : Edge h vL L (-big) big) (hc : 0 ≤ c) (hc2 : c ≤ 255) {x y : Int} (x0 : 0 ≤ x) (x1 : x < 64) (y0 : 0 ≤ y) (y1 : y < 64) :
    RT (fun w h' => w = .int .i64 (nearV (L y) (A x) c) ∧ Ext h h') (KW 34 [.agg [.int .i64 n, vA, vL, .int .i64 c], .int .i64 x, .int .i64 y] h) := by
  obtain ⟨h1, hh1⟩ : ∃ g, g = (h.new (.cells [.int .i64 n, vA, vL, .int .i64 c] 59 false)) := ⟨_, rfl⟩
  have x1' : Ext h h1 := by rw [hh1]; exact (Ext.refl h).new _
  have g0 : h1.get h.n = some (.cells [.int .i64 n, vA, vL, .int .i64 c] 59 false) := by rw [hh1, get_new_same]
  have bx_ : x ≤ big := by unfold big; omega
  have by_ : y ≤ big := by unfold big; omega
  have bx0 : -big ≤ x := by unfold big; omega
  have by0 : -big ≤ y := by unfold big; omega
  obtain ⟨h2, k1, x2⟩ := aL.run h1 x1' y by0 by_
  obtain ⟨h3, k2, x3⟩ := aA.run h2 (x1'.trans x2) x bx0 bx_
  have v1 := aL.val y by0 by_
  have v2 := aA.val x bx0 bx_
  have g1 : h2.get h.n = _ := (x2.get _ (H.get_lt g0)).trans g0
  have g2 : h3.get h.n = _ := ((x2.trans x3).get _ (H.get_lt g0)).trans g0
  obtain ⟨l, hl⟩ : ∃ l, l = L y := ⟨_, rfl⟩
  obtain ⟨a, ha⟩ : ∃ a, a = A x := ⟨_, rfl⟩
  rw [← hl] at k1 v1
  rw [← ha] at k2 v2
  rw [← hl, ← ha]
  have z1 : IntKind.i64.wrap (l + a) = l + a := Go.Zf.wi64 (by omega) (by omega)
  have z2 : IntKind.i64.wrap (l + a - c) = l + a - c := Go.Zf.wi64 (by omega) (by omega)
  obtain ⟨h4, hh4⟩ : ∃ g, g = (h3.new (.cells [.int .i64 0] 3 false)).put h3.n (.cells [.int .i64 (l + a - c)] 3 false) := ⟨_, rfl⟩
  have x4 : Ext h3 h4 := by rw [hh4]; exact ((Ext.refl h3).new _).put (Nat.le_refl _) _
  have g3 : h4.get h3.n = some (.cells [.int .i64 (l + a - c)] 3 false) := by rw [hh4, get_put_same (by rw [H.n_new]; omega)]
  obtain ⟨h5, hh5⟩ : ∃ g, g = h4.new (.cells [.int .i64 a, .int .i64 c] 3 false) := ⟨_, rfl⟩
  have x5 : Ext h4 h5 := by rw [hh5]; exact (Ext.refl h4).new _
  have g4 : h5.get h3.n = some (.cells [.int .i64 (l + a - c)] 3 false) := by rw [x5.get _ (H.get_lt g3), g3]
  have g5 : h5.get h4.n = some (.cells [.int .i64 a, .int .i64 c] 3 false) := by rw [hh5, get_new_same]
  obtain ⟨e1, r1, a11, a12, a34, a35, a36⟩ := round34 g4 g5 (v := a) (best := l) (j := 0) rfl (by omega) (by omega) (by omega) (by omega) (by omega) (by omega) (by omega)
    ⟨[.agg [.int .i64 n, vA, vL, .int .i64 c], .int .i64 x, .int .i64 y, .ptr h.n 0, .int .i64 0, .int .i64 l, .int .i64 a, .int .i64 c, .ptr h3.n 0, .fn (.func 53) [] [.ptr h3.n 0], .int .i64 l, .und, .sl h4.n 0 2 (.ex 2), .int .i64 2, .int .i64 0], 36, .int .i64 0⟩ (by simp) (by simp) (by simp) (by simp) (by simp)
  have bb : 0 ≤ (if farV a (l + a - c) < farV l (l + a - c) then a else l) ∧ (if farV a (l + a - c) < farV l (l + a - c) then a else l) ≤ 1000 := by split <;> omega
  obtain ⟨e2, r2, b11, b12, b34, b35, b36⟩ := round34 g4 g5 (v := c) (j := 1) rfl (by omega) (by omega) (by omega) (by omega) (by omega) bb.1 bb.2 e1 a11 a12 a34 a35 a36
  have hloop : ∃ e3, loopZ (l34_0 KW loopZ) ⟨[.agg [.int .i64 n, vA, vL, .int .i64 c], .int .i64 x, .int .i64 y, .ptr h.n 0, .int .i64 0, .int .i64 l, .int .i64 a, .int .i64 c, .ptr h3.n 0, .fn (.func 53) [] [.ptr h3.n 0], .int .i64 l, .und, .sl h4.n 0 2 (.ex 2), .int .i64 2, .int .i64 0], 36, .int .i64 0⟩ h5 = some ⟨.ex 0, e3, h5⟩ ∧ e3.s [0, 1, 2, 3, 6, 7, 8, 9, 10, 11, 12, 14, 34, 35, 36] 12 = .int .i64 (nearV l a c) := by
    rw [loopZ_eq, r1, sq_nm, loopZ_eq, r2, sq_nm, loopZ_eq]
    simp [l34_0, b35, b36, b12]
    rfl
  obtain ⟨e3, hloop, hw⟩ := hloop
  simp only [V_und_tup] at hloop
  rw [w34, f34, s34]
  have s1 := aA.same
  have s2 := aL.same
  simp [bx, ← hh1, rd1_of g0, k1, rd1_of g1, k2, rd1_of g2, ck, s1, s2, V.same, z1, z2, nw, wr1_of get_new_same, ← hh4, bs, fillW, splice, ← hh5, hloop, hw]
  exact ⟨rfl, (((x1'.trans x2).trans x3).trans x4).trans x5⟩

/-! soft -/
def wgt (n i : Int) : Int := 255 - 224 * i / (n - 1)
theorem wgt_bd {n i : Int} (hn : 4 ≤ n) (i0 : 0 ≤ i) (i1 : i < n) : 31 ≤ wgt n i ∧ wgt n i ≤ 255 := by
  unfold wgt
  have h1 : 224 * i / (n - 1) ≤ 224 := by
    apply Int.ediv_le_of_le_mul (by omega)
    omega
  have h0 : 0 ≤ 224 * i / (n - 1) := Int.ediv_nonneg (by omega) (by omega)
  omega

theorem soft54_ok {h : H} {b : Nat} {n i : Int} (hb : h.get b = some (.cells [.int .i64 n] 3 false)) (hn : 4 ≤ n) (hn2 : n ≤ 64) (i0 : 0 ≤ i) (i1 : i < n) :
    KW 54 [.int .i64 i, .ptr b 0] h = some (.ret (.int .i64 (wgt n i)), h) := by
  have z1 : IntKind.i64.wrap (224 * i) = 224 * i := Go.Zf.wi64 (by omega) (by omega)
  have z2 : IntKind.i64.wrap (n - 1) = n - 1 := Go.Zf.wi64 (by omega) (by omega)
  have hb' := wgt_bd hn i0 i1
  have hq : (224 * i).tdiv (n - 1) = 224 * i / (n - 1) := Int.tdiv_eq_ediv_of_nonneg (by omega)
  unfold wgt at hb'
  obtain ⟨q, hqq⟩ : ∃ q, q = 224 * i / (n - 1) := ⟨_, rfl⟩
  have hw : wgt n i = 255 - q := by unfold wgt; rw [hqq]
  rw [← hqq] at hq hb'
  have z3 : IntKind.i64.wrap q = q := Go.Zf.wi64 (by omega) (by omega)
  have z4 : IntKind.i64.wrap (255 - q) = 255 - q := Go.Zf.wi64 (by omega) (by omega)
  rw [w54, f54, s54, hw]
  simp [rd1_of hb, z1, z2, show ¬ n - 1 = 0 by omega, hq, z3, z4]

def softS (n dn ac half bits : Int) (A L : Int → Int) (x y : Int) : Int :=
  (dn * (wgt n y * A x + (256 - wgt n y) * L (n - 1)) + ac * (wgt n x * L y + (256 - wgt n x) * A (n - 1)) + half) / bits

set_option maxHeartbeats 1600000 in
theorem soft55_ok {h : H} {bd bw b bn ba bb : Nat} {n dn ac bits half q : Int} {vA vL C : V} {A L : Int → Int} (aA : Edge h vA A (-big) big) (aL : Edge h vL L (-big) big) (hn : 4 ≤ n) (hn2 : n ≤ 64)
    (hd : h.get bd = some (.cells [.int .i64 dn] 3 false)) (hw : h.get bw = some (.cells [.fn (.func 54) [] [.ptr bn 0]] 56 false)) (hb : h.get b = some (.cells [.int .i64 n, vA, vL, C] 59 false)) (hn' : h.get bn = some (.cells [.int .i64 n] 3 false))
    (ha : h.get ba = some (.cells [.int .i64 ac] 3 false)) (hbits : h.get bb = some (.cells [.int .i64 bits] 3 false)) (hm : (dn = 1 ∧ ac = 1 ∧ bits = 9 ∧ half = 256 ∧ q = 512) ∨ (dn = 1 ∧ ac = 0 ∧ bits = 8 ∧ half = 128 ∧ q = 256) ∨ (dn = 0 ∧ ac = 1 ∧ bits = 8 ∧ half = 128 ∧ q = 256))
    {x y : Int} (x0 : 0 ≤ x) (x1 : x < n) (y0 : 0 ≤ y) (y1 : y < n) :
    RT (fun w h' => w = .int .i64 (softS n dn ac half q A L x y) ∧ Ext h h') (KW 55 [.int .i64 x, .int .i64 y, .ptr bd 0, .ptr bw 0, .ptr b 0, .ptr bn 0, .ptr ba 0, .ptr bb 0] h) := by
  have s1 := aA.same
  have s2 := aL.same
  have bg : ∀ i, 0 ≤ i → i < n → -big ≤ i ∧ i ≤ big := fun i _ _ => by unfold big; omega
  obtain ⟨h1, k1, x1'⟩ := aA.run h (Ext.refl _) x (bg x x0 x1).1 (bg x x0 x1).2
  obtain ⟨h2, k2, x2⟩ := aL.run h1 x1' (n - 1) (bg (n - 1) (by omega) (by omega)).1 (bg (n - 1) (by omega) (by omega)).2
  have X2 := x1'.trans x2
  obtain ⟨h3, k3, x3⟩ := aL.run h2 X2 y (bg y y0 y1).1 (bg y y0 y1).2
  have X3 := X2.trans x3
  obtain ⟨h4, k4, x4⟩ := aA.run h3 X3 (n - 1) (bg (n - 1) (by omega) (by omega)).1 (bg (n - 1) (by omega) (by omega)).2
  have X4 := X3.trans x4
  have u1 := aA.val x (bg x x0 x1).1 (bg x x0 x1).2
  have u2 := aL.val (n - 1) (bg (n - 1) (by omega) (by omega)).1 (bg (n - 1) (by omega) (by omega)).2
  have u3 := aL.val y (bg y y0 y1).1 (bg y y0 y1).2
  have u4 := aA.val (n - 1) (bg (n - 1) (by omega) (by omega)).1 (bg (n - 1) (by omega) (by omega)).2
  have wy := wgt_bd hn y0 y1
  have wx := wgt_bd hn x0 x1
  have W : ∀ g, Ext h g → ∀ i, 0 ≤ i → i < n → KW 54 [.int .i64 i, .ptr bn 0] g = some (.ret (.int .i64 (wgt n i)), g) := fun g xg i i0 i1 => soft54_ok (by rw [xg.get _ (H.get_lt hn'), hn']) hn hn2 i0 i1
  have G : ∀ {c : Nat} {z : Blk} {g : H}, h.get c = some z → Ext h g → g.get c = some z := fun hz xg => by rw [xg.get _ (H.get_lt hz), hz]
  unfold softS
  obtain ⟨a1, ha1⟩ : ∃ a, a = A x := ⟨_, rfl⟩
  obtain ⟨l1, hl1⟩ : ∃ a, a = L (n - 1) := ⟨_, rfl⟩
  obtain ⟨l2, hl2⟩ : ∃ a, a = L y := ⟨_, rfl⟩
  obtain ⟨a2, ha2⟩ : ∃ a, a = A (n - 1) := ⟨_, rfl⟩
  have Wy := fun g xg => W g xg y y0 y1
  have Wx := fun g xg => W g xg x x0 x1
  obtain ⟨p, hp⟩ : ∃ p, p = wgt n y := ⟨_, rfl⟩
  obtain ⟨r, hr⟩ : ∃ r, r = wgt n x := ⟨_, rfl⟩
  rw [← ha1] at k1 u1
  rw [← hl1] at k2 u2
  rw [← hl2] at k3 u3
  rw [← ha2] at k4 u4
  rw [← hp] at wy
  rw [← hr] at wx
  rw [← ha1, ← hl1, ← hl2, ← ha2, ← hp, ← hr]
  simp only [← hp] at Wy
  simp only [← hr] at Wx
  have m1 := mul_bd (a := p) (A := 255) (by omega) (by omega) u1.1 u1.2
  have m2 := mul_bd (a := 256 - p) (A := 256) (by omega) (by omega) u2.1 u2.2
  have m3 := mul_bd (a := r) (A := 255) (by omega) (by omega) u3.1 u3.2
  have m4 := mul_bd (a := 256 - r) (A := 256) (by omega) (by omega) u4.1 u4.2
  obtain ⟨t1, ht1⟩ : ∃ t, t = p * a1 := ⟨_, rfl⟩
  obtain ⟨t2, ht2⟩ : ∃ t, t = (256 - p) * l1 := ⟨_, rfl⟩
  obtain ⟨t3, ht3⟩ : ∃ t, t = r * l2 := ⟨_, rfl⟩
  obtain ⟨t4, ht4⟩ : ∃ t, t = (256 - r) * a2 := ⟨_, rfl⟩
  rw [← ht1] at m1
  rw [← ht2] at m2
  rw [← ht3] at m3
  rw [← ht4] at m4
  rw [← ht1, ← ht2, ← ht3, ← ht4]
  have z1 : IntKind.i64.wrap t1 = t1 := Go.Zf.wi64 (by omega) (by omega)
  have z2 : IntKind.i64.wrap t2 = t2 := Go.Zf.wi64 (by omega) (by omega)
  have z3 : IntKind.i64.wrap t3 = t3 := Go.Zf.wi64 (by omega) (by omega)
  have z4 : IntKind.i64.wrap t4 = t4 := Go.Zf.wi64 (by omega) (by omega)
  have z5 : IntKind.i64.wrap (256 - p) = 256 - p := Go.Zf.wi64 (by omega) (by omega)
  have z6 : IntKind.i64.wrap (256 - r) = 256 - r := Go.Zf.wi64 (by omega) (by omega)
  have z7 : IntKind.i64.wrap (t1 + t2) = t1 + t2 := Go.Zf.wi64 (by omega) (by omega)
  have z8 : IntKind.i64.wrap (t3 + t4) = t3 + t4 := Go.Zf.wi64 (by omega) (by omega)
  have z9 : IntKind.i64.wrap (n - 1) = n - 1 := Go.Zf.wi64 (by omega) (by omega)
  have z10 : IntKind.i64.wrap (t1 + t2 + (t3 + t4)) = t1 + t2 + (t3 + t4) := Go.Zf.wi64 (by omega) (by omega)
  have z11 : IntKind.i64.wrap (t1 + t2 + (t3 + t4) + 256) = t1 + t2 + (t3 + t4) + 256 := Go.Zf.wi64 (by omega) (by omega)
  have z12 : IntKind.i64.wrap (t1 + t2 + 128) = t1 + t2 + 128 := Go.Zf.wi64 (by omega) (by omega)
  have z13 : IntKind.i64.wrap (t3 + t4 + 128) = t3 + t4 + 128 := Go.Zf.wi64 (by omega) (by omega)
  have z14 : IntKind.i64.wrap 8 = 8 := Go.Zf.wi64 (by omega) (by omega)
  have z15 : IntKind.i64.wrap 7 = 7 := Go.Zf.wi64 (by omega) (by omega)
  have z16 : IntKind.i64.wrap 256 = 256 := Go.Zf.wi64 (by omega) (by omega)
  have z17 : IntKind.i64.wrap 128 = 128 := Go.Zf.wi64 (by omega) (by omega)
  have z18 : IntKind.i64.wrap 0 = 0 := Go.Zf.wi64 (by omega) (by omega)
  have x0' := Ext.refl h
  rw [w55, f55, s55]
  rcases hm with ⟨rfl, rfl, rfl, rfl, rfl⟩ | ⟨rfl, rfl, rfl, rfl, rfl⟩ | ⟨rfl, rfl, rfl, rfl, rfl⟩
  all_goals
    simp [rd1_of hw, rd1_of (G hw x1'), rd1_of (G hw X2), rd1_of (G hw X3), rd1_of (G hw X4), rd1_of hd, rd1_of (G hd x1'), rd1_of (G hd X2), rd1_of hb, rd1_of (G hb x1'), rd1_of (G hb X2), rd1_of (G hb X3), rd1_of hn', rd1_of (G hn' x1'), rd1_of (G hn' X2), rd1_of (G hn' X3),
      rd1_of (G ha X2), rd1_of (G ha X3), rd1_of (G ha X4), rd1_of (G hbits X4), cdy_fn, Wy h x0', Wy h1 x1', Wx h2 X2, Wx h3 X3, k1, k2, k3, k4, ck, V.same, V.sames, s1, s2, ← ht1, ← ht2, ← ht3, ← ht4, z1, z2, z3, z4, z5, z6, z7, z8, z9, z10, z11, z12, z13, z14, z15, z16, z17, z18, IntKind.bits]
    exact ⟨by simp, X4⟩


set_option maxHeartbeats 1600000 in
theorem soft35_ok {h : H} {n mode : Int} {vA vL C : V} {A L : Int → Int} (aA : Edge h vA A (-big) big) (aL : Edge h vL L (-big) big) (hn : 4 ≤ n) (hn2 : n ≤ 64) (hm : mode = 9 ∨ mode = 10 ∨ mode = 11) :
    RT (fun w h' => Ext h h' ∧ Samp h' w (if mode = 9 then softS n 1 1 256 512 A L else if mode = 11 then softS n 0 1 128 256 A L else softS n 1 0 128 256 A L) n) (KW 35 [.agg [.int .i64 n, vA, vL, C], .int .i64 mode] h) := by
  obtain ⟨h1, hh1⟩ : ∃ g, g = (h.new (.cells [.int .i64 n, vA, vL, C] 59 false)) := ⟨_, rfl⟩
  have x1 : Ext h h1 := by rw [hh1]; exact (Ext.refl h).new _
  have g1 : h1.get h.n = some (.cells [.int .i64 n, vA, vL, C] 59 false) := by rw [hh1, get_new_same]
  obtain ⟨h2, hh2⟩ : ∃ g, g = (h1.new (.cells [.int .i64 0] 3 false)).put h1.n (.cells [.int .i64 n] 3 false) := ⟨_, rfl⟩
  have x2 : Ext h1 h2 := by rw [hh2]; exact ((Ext.refl h1).new _).put (Nat.le_refl _) _
  have g2 : h2.get h1.n = some (.cells [.int .i64 n] 3 false) := by rw [hh2, get_put_same (by rw [H.n_new]; omega)]
  obtain ⟨h3, hh3⟩ : ∃ g, g = (h2.new (.cells [.nilf] 56 false)).put h2.n (.cells [.fn (.func 54) [] [.ptr h1.n 0]] 56 false) := ⟨_, rfl⟩
  have x3 : Ext h2 h3 := by rw [hh3]; exact ((Ext.refl h2).new _).put (Nat.le_refl _) _
  have g3 : h3.get h2.n = some (.cells [.fn (.func 54) [] [.ptr h1.n 0]] 56 false) := by rw [hh3, get_put_same (by rw [H.n_new]; omega)]
  obtain ⟨h4, hh4⟩ : ∃ g, g = ((h3.new (.cells [.int .i64 0] 3 false)).new (.cells [.int .i64 0] 3 false)).put h3.n (.cells [.int .i64 0] 3 false) := ⟨_, rfl⟩
  obtain ⟨h5, hh5⟩ : ∃ g, g = h4.put (h3.n + 1) (.cells [.int .i64 0] 3 false) := ⟨_, rfl⟩
  have hn4 : h4.n = h3.n + 2 := by rw [hh4]; simp only [H.n_put, H.n_new]
  have hn5 : h5.n = h3.n + 2 := by rw [hh5, H.n_put, hn4]
  have x5 : Ext h3 h5 := by rw [hh5, hh4]; exact ((((Ext.refl h3).new _).new _).put (Nat.le_refl _) _).put (by omega) _
  have r1 : ((h3.new (.cells [.int .i64 0] 3 false)).new (.cells [.int .i64 0] 3 false)).get h3.n = some (.cells [.int .i64 0] 3 false) := by rw [get_new_lt (by rw [H.n_new]; omega), get_new_same]
  have r2 : h4.get (h3.n + 1) = some (.cells [.int .i64 0] 3 false) := by rw [hh4, get_put_ne (by omega), get_new_eq (by rw [H.n_new])]
  have g5 : h5.get h3.n = some (.cells [.int .i64 0] 3 false) := by rw [hh5, get_put_ne (by omega), hh4, get_put_same (by simp only [H.n_new]; omega)]
  have g5' : h5.get (h3.n + 1) = some (.cells [.int .i64 0] 3 false) := by rw [hh5, get_put_same (by omega)]
  have z1 : IntKind.i64.wrap 7 = 7 := Go.Zf.wi64 (by omega) (by omega)
  have z2 : IntKind.i64.wrap 8 = 8 := Go.Zf.wi64 (by omega) (by omega)
  have z3 : IntKind.i64.wrap 9 = 9 := Go.Zf.wi64 (by omega) (by omega)
  have fin35 : ∀ (h6 : H) (dn ac bits half q : Int), Ext h3 h6 → h6.n = h3.n + 2 → h6.get h3.n = some (.cells [.int .i64 dn] 3 false) → h6.get (h3.n + 1) = some (.cells [.int .i64 ac] 3 false) →
      ((dn = 1 ∧ ac = 1 ∧ bits = 9 ∧ half = 256 ∧ q = 512) ∨ (dn = 1 ∧ ac = 0 ∧ bits = 8 ∧ half = 128 ∧ q = 256) ∨ (dn = 0 ∧ ac = 1 ∧ bits = 8 ∧ half = 128 ∧ q = 256)) →
      Ext h ((h6.new (.cells [.int .i64 0] 3 false)).put h6.n (.cells [.int .i64 bits] 3 false)) ∧
      Samp ((h6.new (.cells [.int .i64 0] 3 false)).put h6.n (.cells [.int .i64 bits] 3 false)) (.fn (.func 55) [] [.ptr h3.n 0, .ptr h2.n 0, .ptr h.n 0, .ptr h1.n 0, .ptr (h3.n + 1) 0, .ptr h6.n 0]) (softS n dn ac half q A L) n := by
    intro h6 dn ac bits half q x6 hn6 d1 d2 hcase
    have x7 : Ext h6 ((h6.new (.cells [.int .i64 0] 3 false)).put h6.n (.cells [.int .i64 bits] 3 false)) := ((Ext.refl h6).new _).put (Nat.le_refl _) _
    have g7 : ((h6.new (.cells [.int .i64 0] 3 false)).put h6.n (.cells [.int .i64 bits] 3 false)).get h6.n = some (.cells [.int .i64 bits] 3 false) := get_put_same (by rw [H.n_new]; omega)
    refine ⟨(((x1.trans x2).trans x3).trans x6).trans x7, ⟨fun g xg x y q0 q1 q2 q3 => ?_⟩⟩
    have xx := x7.trans xg
    have G : ∀ {c : Nat} {z : Blk} {a : H}, a.get c = some z → Ext a g → g.get c = some z := fun hz xg => by rw [xg.get _ (H.get_lt hz), hz]
    rw [cdy_fn]
    exact soft55_ok (h := g) (aA.ext ((((x1.trans x2).trans x3).trans x6).trans xx)) (aL.ext ((((x1.trans x2).trans x3).trans x6).trans xx)) hn hn2 (G d1 xx) (G g3 (x6.trans xx)) (G g1 (((x2.trans x3).trans x6).trans xx)) (G g2 ((x3.trans x6).trans xx)) (G d2 xx) (G g7 xg) hcase q0 q1 q2 q3
  rw [w35, f35, s35]
  rcases hm with rfl | rfl | rfl
  · obtain ⟨h6, hh6⟩ : ∃ g, g = h5.put h3.n (.cells [.int .i64 1] 3 false) := ⟨_, rfl⟩
    obtain ⟨h7, hh7⟩ : ∃ g, g = h6.put (h3.n + 1) (.cells [.int .i64 1] 3 false) := ⟨_, rfl⟩
    have q6 : h6.get (h3.n + 1) = some (.cells [.int .i64 0] 3 false) := by rw [hh6, get_put_ne (by omega), g5']
    have q7 : h7.get h3.n = some (.cells [.int .i64 1] 3 false) := by rw [hh7, get_put_ne (by omega), hh6, get_put_same (by omega)]
    have q8 : h7.get (h3.n + 1) = some (.cells [.int .i64 1] 3 false) := by rw [hh7, get_put_same (by rw [hh6, H.n_put]; omega)]
    have hn7 : h7.n = h3.n + 2 := by rw [hh7, hh6, H.n_put, H.n_put, hn5]
    have := fin35 h7 1 1 9 256 512 (by rw [hh7, hh6]; exact (x5.put (Nat.le_refl _) _).put (by omega) _) hn7 q7 q8 (.inl ⟨rfl, rfl, rfl, rfl, rfl⟩)
    simp [bx, ← hh1, rd1_of g1, nw, wr1_of get_new_same, ← hh2, ← hh3, H.n_new, wr1_of r1, ← hh4, wr1_of r2, ← hh5, wr1_of g5, ← hh6, wr1_of q6, ← hh7, rd1_of q7, rd1_of q8, z1, z2, z3]
    exact this
  · obtain ⟨h6, hh6⟩ : ∃ g, g = h5.put h3.n (.cells [.int .i64 1] 3 false) := ⟨_, rfl⟩
    have q6 : h6.get (h3.n + 1) = some (.cells [.int .i64 0] 3 false) := by rw [hh6, get_put_ne (by omega), g5']
    have q7 : h6.get h3.n = some (.cells [.int .i64 1] 3 false) := by rw [hh6, get_put_same (by omega)]
    have hn7 : h6.n = h3.n + 2 := by rw [hh6, H.n_put, hn5]
    have := fin35 h6 1 0 8 128 256 (by rw [hh6]; exact (x5.put (Nat.le_refl _) _)) hn7 q7 q6 (.inr (.inl ⟨rfl, rfl, rfl, rfl, rfl⟩))
    simp [bx, ← hh1, rd1_of g1, nw, wr1_of get_new_same, ← hh2, ← hh3, H.n_new, wr1_of r1, ← hh4, wr1_of r2, ← hh5, wr1_of g5, ← hh6, rd1_of q7, rd1_of q6, z1, z2, z3]
    exact this
  · obtain ⟨h6, hh6⟩ : ∃ g, g = h5.put (h3.n + 1) (.cells [.int .i64 1] 3 false) := ⟨_, rfl⟩
    have q6 : h6.get (h3.n + 1) = some (.cells [.int .i64 1] 3 false) := by rw [hh6, get_put_same (by omega)]
    have q7 : h6.get h3.n = some (.cells [.int .i64 0] 3 false) := by rw [hh6, get_put_ne (by omega), g5]
    have hn7 : h6.n = h3.n + 2 := by rw [hh6, H.n_put, hn5]
    have := fin35 h6 0 1 8 128 256 (by rw [hh6]; exact (x5.put (by omega) _)) hn7 q7 q6 (.inr (.inr ⟨rfl, rfl, rfl, rfl, rfl⟩))
    simp [bx, ← hh1, rd1_of g1, nw, wr1_of get_new_same, ← hh2, ← hh3, H.n_new, wr1_of r1, ← hh4, wr1_of r2, ← hh5, wr1_of g5', ← hh6, rd1_of q7, rd1_of q6, z1, z2, z3]
    exact this
end Go.Proofs.Ytpjcmgmmolediaa
