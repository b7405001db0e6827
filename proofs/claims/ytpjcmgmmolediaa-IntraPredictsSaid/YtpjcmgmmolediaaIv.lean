/- The document's answer: slanted, soft, dc. -/
import Derived.Test.YtpjcmgmmolediaaIu
set_option linter.unusedVariables false
set_option linter.unusedSimpArgs false
namespace Go.Proofs.Ytpjcmgmmolediaa
open Go Go.Zf Go.RowKit

theorem slR_bd (t : Int) : 0 ≤ slR t ∧ slR t ≤ 1023 := by
  unfold slR stpR
  repeat' split
  all_goals omega
def sltR (n : Int) (u : Nat) (angle : Int) (A L : Int → Int) (x y : Int) : Int :=
  if angle < 90 then btw n u A ((y + 1) * slR angle) x
  else if 180 < angle then btw n u L ((x + 1) * slR (270 - angle)) y
  else if vis u (64 * x - (y + 1) * slR (180 - angle)) then btw n u A (64 * x - (y + 1) * slR (180 - angle)) 0
  else btw n u L (64 * y - (x + 1) * slR (angle - 90)) 0

set_option maxHeartbeats 1600000 in
theorem slanted44_ok {p1 p2 : Nat} {h : H} {sa sl' : V} {A L : List Int} {u : Nat} (GA : GrowV p1 h sa 3 1 (intsV A) A.length) (GL : GrowV p2 h sl' 3 1 (intsV L) L.length) (hA : 0 < A.length) (hA2 : A.length ≤ 1000) (hL : 0 < L.length) (hL2 : L.length ≤ 1000) (bA : AllB A) (bL : AllB L)
    (hu : u = 0 ∨ u = 1) {n angle x y : Int} (hn : 4 ≤ n) (hn2 : n ≤ 64) (a0 : 0 ≤ angle) (a1 : angle ≤ 300) (x0 : 0 ≤ x) (x1 : x < n) (y0 : 0 ≤ y) (y1 : y < n) :
    RT (fun w h' => w = .int .i64 (sltR n u angle (rdI A) (rdI L) x y) ∧ Ext h h') (KW 44 [.int .i64 n, .int .i64 angle, .agg [sa, .int .i64 (u : Int)], .agg [sl', .int .i64 (u : Int)], .int .i64 x, .int .i64 y] h) := by
  have zz : ∀ n : Int, -1000000 ≤ n → n ≤ 1000000 → IntKind.i64.wrap n = n := fun n a b => Go.Zf.wi64 (by omega) (by omega)
  obtain ⟨h1, hh1⟩ : ∃ g, g = (h.new (.cells [sa, .int .i64 (u : Int)] 68 false)).new (.cells [sl', .int .i64 (u : Int)] 68 false) := ⟨_, rfl⟩
  have x1' : Ext h h1 := by rw [hh1]; exact ((Ext.refl h).new _).new _
  have g0 : h1.get h.n = some (.cells [sa, .int .i64 (u : Int)] 68 false) := by rw [hh1, get_new_lt (by rw [H.n_new]; omega), get_new_same]
  have g1 : h1.get (h.n + 1) = some (.cells [sl', .int .i64 (u : Int)] 68 false) := by rw [hh1, get_new_eq (by rw [H.n_new])]
  have s1 := GA.same
  have s2 := GL.same
  have GA1 := GA.ext x1'
  have GL1 := GL.ext x1'
  have z1 : IntKind.i64.wrap (x + 1) = x + 1 := zz _ (by omega) (by omega)
  have z2 : IntKind.i64.wrap (y + 1) = y + 1 := zz _ (by omega) (by omega)
  rw [w44, f44, s44]
  unfold sltR
  by_cases c1 : angle < 90
  · have hb := slR_bd angle
    obtain ⟨d, hd⟩ : ∃ d, d = slR angle := ⟨_, rfl⟩
    have ks := slope60_ok angle h1
    rw [← hd] at hb ks
    have m := mul_bd (a := y + 1) (A := 64) (by omega) (by omega) hb.1 hb.2
    have z3 : IntKind.i64.wrap ((y + 1) * d) = (y + 1) * d := zz _ (by omega) (by omega)
    obtain ⟨_, h2, k2, rfl, x2⟩ := (between59_ok GA1 hA hA2 bA hu hn hn2 (far := (y + 1) * d) (frm := x) (by omega) (by omega) x0 (by omega)).elim
    simp [bx, H.n_new, ← hh1, c1, ks, rdN_of (o := 0) (n := 2) g0 (by simp), z2, z3, k2, ck, V.same, V.sames, s1]
    exact ⟨by rw [hd], x1'.trans x2⟩
  · by_cases c2 : 180 < angle
    · have hb := slR_bd (270 - angle)
      have z4 : IntKind.i64.wrap (270 - angle) = 270 - angle := zz _ (by omega) (by omega)
      obtain ⟨d, hd⟩ : ∃ d, d = slR (270 - angle) := ⟨_, rfl⟩
      have ks := slope60_ok (270 - angle) h1
      rw [← hd] at hb ks
      have m := mul_bd (a := x + 1) (A := 64) (by omega) (by omega) hb.1 hb.2
      have z3 : IntKind.i64.wrap ((x + 1) * d) = (x + 1) * d := zz _ (by omega) (by omega)
      obtain ⟨_, h2, k2, rfl, x2⟩ := (between59_ok GL1 hL hL2 bL hu hn hn2 (far := (x + 1) * d) (frm := y) (by omega) (by omega) y0 (by omega)).elim
      simp [bx, H.n_new, ← hh1, c1, c2, z4, ks, rdN_of (o := 0) (n := 2) g1 (by simp), z1, z3, k2, ck, V.same, V.sames, s2]
      exact ⟨by rw [hd], x1'.trans x2⟩
    · have hb := slR_bd (180 - angle)
      have hb' := slR_bd (angle - 90)
      have z4 : IntKind.i64.wrap (180 - angle) = 180 - angle := zz _ (by omega) (by omega)
      have z5 : IntKind.i64.wrap (angle - 90) = angle - 90 := zz _ (by omega) (by omega)
      rw [if_neg c1, if_neg c2]
      obtain ⟨d, hd⟩ : ∃ d, d = slR (180 - angle) := ⟨_, rfl⟩
      obtain ⟨d', hd'⟩ : ∃ d, d = slR (angle - 90) := ⟨_, rfl⟩
      have ks := slope60_ok (180 - angle) h1
      have ks' := slope60_ok (angle - 90) h1
      rw [← hd] at hb ks
      rw [← hd'] at hb' ks'
      rw [← hd, ← hd']
      have m := mul_bd (a := x + 1) (A := 64) (by omega) (by omega) hb'.1 hb'.2
      have m' := mul_bd (a := y + 1) (A := 64) (by omega) (by omega) hb.1 hb.2
      have z6 : IntKind.i64.wrap ((y + 1) * d) = (y + 1) * d := zz _ (by omega) (by omega)
      have z7 : IntKind.i64.wrap ((x + 1) * d') = (x + 1) * d' := zz _ (by omega) (by omega)
      have z8 : IntKind.i64.wrap (64 * x) = 64 * x := zz _ (by omega) (by omega)
      have z9 : IntKind.i64.wrap (64 * y) = 64 * y := zz _ (by omega) (by omega)
      have z10 : IntKind.i64.wrap (64 * x - (y + 1) * d) = 64 * x - (y + 1) * d := zz _ (by omega) (by omega)
      have z11 : IntKind.i64.wrap (64 * y - (x + 1) * d') = 64 * y - (x + 1) * d' := zz _ (by omega) (by omega)
      have z12 : IntKind.i64.wrap 6 = 6 := zz _ (by omega) (by omega)
      have z13 : IntKind.i64.wrap 5 = 5 := zz _ (by omega) (by omega)
      have z14 : IntKind.i64.wrap (-1) = -1 := zz _ (by omega) (by omega)
      have z15 : IntKind.i64.wrap (-2) = -2 := zz _ (by omega) (by omega)
      obtain ⟨_, h2, k2, rfl, x2⟩ := (between59_ok GA1 hA hA2 bA hu hn hn2 (far := 64 * x - (y + 1) * d) (frm := 0) (by omega) (by omega) (by omega) (by omega)).elim
      obtain ⟨_, h3, k3, rfl, x3⟩ := (between59_ok GL1 hL hL2 bL hu hn hn2 (far := 64 * y - (x + 1) * d') (frm := 0) (by omega) (by omega) (by omega) (by omega)).elim
      obtain ⟨f1, hf1⟩ : ∃ f, f = 64 * x - (y + 1) * d := ⟨_, rfl⟩
      rw [← hf1] at z10 k2
      rw [← hf1]
      rcases hu with rfl | rfl
      · unfold vis
        simp only [Int.natCast_zero, Int.cast_ofNat_Int] at g0 g1 hh1 k2 k3
        by_cases hc : -1 ≤ f1 / 64
        · simp [bx, H.n_new, ← hh1, c1, c2, z4, ks, z2, z6, z8, ← hf1, z10, rd1_of g0, z12, z14, IntKind.bits, hc, rdN_of (o := 0) (n := 2) g0 (by simp), k2, ck, V.same]
          exact ⟨by simp [hc], x1'.trans x2⟩
        · simp [bx, H.n_new, ← hh1, c1, c2, z4, ks, z2, z6, z8, ← hf1, z10, rd1_of g0, z12, z14, IntKind.bits, hc, z5, ks', rdN_of (o := 0) (n := 2) g1 (by simp), z9, z1, z7, z11, k3, ck, V.same, V.sames, s2]
          exact ⟨by simp [hc], x1'.trans x3⟩
      · unfold vis
        simp only [Int.natCast_one, Int.cast_ofNat_Int] at g0 g1 hh1 k2 k3
        by_cases hc : -2 ≤ f1 / 32
        · simp [bx, H.n_new, ← hh1, c1, c2, z4, ks, z2, z6, z8, ← hf1, z10, rd1_of g0, z13, z15, IntKind.bits, hc, rdN_of (o := 0) (n := 2) g0 (by simp), k2, ck, V.same]
          exact ⟨by simp [hc], x1'.trans x2⟩
        · simp [bx, H.n_new, ← hh1, c1, c2, z4, ks, z2, z6, z8, ← hf1, z10, rd1_of g0, z13, z15, IntKind.bits, hc, z5, ks', rdN_of (o := 0) (n := 2) g1 (by simp), z9, z1, z7, z11, k3, ck, V.same, V.sames, s2]
          exact ⟨by simp [hc], x1'.trans x3⟩

def atL (l : List Int) (i : Int) : Int := l.getD i.toNat 0
theorem growAtI {p : Nat} {h : H} {v : V} {l : List Int} (a : GrowV p h v 3 1 (intsV l) l.length) {i : Int} (i0 : 0 ≤ i) (i1 : i < l.length) : ∃ b o, iaS 1 v (.int .i64 i) = some (.ptr b o) ∧ h.rd1 b o = some (.int .i64 (atL l i)) ∧ b < h.n := by
  obtain ⟨b, o, h1, h2, h3⟩ := a.at (i := i.toNat) (by omega) (intsV_get l i.toNat (by omega))
  rw [show ((i.toNat : Nat) : Int) = i by omega] at h1
  exact ⟨b, o, h1, h2, h3⟩

set_option maxHeartbeats 1600000 in
theorem soft43_ok {p1 p2 : Nat} {h : H} {sa sl' C : V} {A L : List Int} (GA : GrowV p1 h sa 3 1 (intsV A) A.length) (GL : GrowV p2 h sl' 3 1 (intsV L) L.length) {n mode x y : Int} (hA : (A.length : Int) = n) (hL : (L.length : Int) = n) (bA : AllB A) (bL : AllB L)
    (hn : 4 ≤ n) (hn2 : n ≤ 64) (x0 : 0 ≤ x) (x1 : x < n) (y0 : 0 ≤ y) (y1 : y < n) :
    RT (fun w h' => w = .int .i64 (if mode = 10 then softS n 1 0 128 256 (atL A) (atL L) x y else if mode = 11 then softS n 0 1 128 256 (atL A) (atL L) x y else softS n 1 1 256 512 (atL A) (atL L) x y) ∧ Ext h h') (KW 43 [.int .i64 n, .int .i64 mode, .agg [sa, sl', C], .int .i64 x, .int .i64 y] h) := by
  have zz : ∀ n : Int, -1000000 ≤ n → n ≤ 1000000 → IntKind.i64.wrap n = n := fun n a b => Go.Zf.wi64 (by omega) (by omega)
  obtain ⟨h1, hh1⟩ : ∃ g, g = h.new (.cells [sa, sl', C] 65 false) := ⟨_, rfl⟩
  have x1' : Ext h h1 := by rw [hh1]; exact (Ext.refl h).new _
  have g0 : h1.get h.n = some (.cells [sa, sl', C] 65 false) := by rw [hh1, get_new_same]
  have s1 := GA.same
  have s2 := GL.same
  have GA1 := GA.ext x1'
  have GL1 := GL.ext x1'
  obtain ⟨b1, o1, a1, a2, _⟩ := growAtI GA1 x0 (by omega)
  obtain ⟨b2, o2, a3, a4, _⟩ := growAtI GL1 (i := n - 1) (by omega) (by omega)
  obtain ⟨b3, o3, a5, a6, _⟩ := growAtI GL1 y0 (by omega)
  obtain ⟨b4, o4, a7, a8, _⟩ := growAtI GA1 (i := n - 1) (by omega) (by omega)
  have wy := wgt_bd hn y0 y1
  have wx := wgt_bd hn x0 x1
  have u1 := bA x.toNat (by omega)
  have u2 := bL (n - 1).toNat (by omega)
  have u3 := bL y.toNat (by omega)
  have u4 := bA (n - 1).toNat (by omega)
  have qx : (224 * x).tdiv (n - 1) = 224 * x / (n - 1) := Int.tdiv_eq_ediv_of_nonneg (by omega)
  have qy : (224 * y).tdiv (n - 1) = 224 * y / (n - 1) := Int.tdiv_eq_ediv_of_nonneg (by omega)
  unfold softS
  have e1 : atL A x = A.getD x.toNat 0 := rfl
  have e2 : atL L (n - 1) = L.getD (n - 1).toNat 0 := rfl
  have e3 : atL L y = L.getD y.toNat 0 := rfl
  have e4 : atL A (n - 1) = A.getD (n - 1).toNat 0 := rfl
  rw [← e1] at u1
  rw [← e2] at u2
  rw [← e3] at u3
  rw [← e4] at u4
  obtain ⟨v1, hv1⟩ : ∃ a, a = atL A x := ⟨_, rfl⟩
  obtain ⟨v2, hv2⟩ : ∃ a, a = atL L (n - 1) := ⟨_, rfl⟩
  obtain ⟨v3, hv3⟩ : ∃ a, a = atL L y := ⟨_, rfl⟩
  obtain ⟨v4, hv4⟩ : ∃ a, a = atL A (n - 1) := ⟨_, rfl⟩
  rw [← hv1] at u1 a2
  rw [← hv2] at u2 a4
  rw [← hv3] at u3 a6
  rw [← hv4] at u4 a8
  rw [← hv1, ← hv2, ← hv3, ← hv4]
  obtain ⟨dx, hdx⟩ : ∃ d, d = 224 * x / (n - 1) := ⟨_, rfl⟩
  obtain ⟨dy, hdy⟩ : ∃ d, d = 224 * y / (n - 1) := ⟨_, rfl⟩
  have hwx : wgt n x = 255 - dx := by unfold wgt; rw [hdx]
  have hwy : wgt n y = 255 - dy := by unfold wgt; rw [hdy]
  rw [hwx] at wx
  rw [hwy] at wy
  rw [hwx, hwy]
  rw [← hdx] at qx
  rw [← hdy] at qy
  have z0 : IntKind.i64.wrap (224 * x) = 224 * x := zz _ (by omega) (by omega)
  have z1 : IntKind.i64.wrap (224 * y) = 224 * y := zz _ (by omega) (by omega)
  have z2 : IntKind.i64.wrap (n - 1) = n - 1 := zz _ (by omega) (by omega)
  have z3 : IntKind.i64.wrap dx = dx := zz _ (by omega) (by omega)
  have z4 : IntKind.i64.wrap dy = dy := zz _ (by omega) (by omega)
  obtain ⟨r, hr⟩ : ∃ r, r = 255 - dx := ⟨_, rfl⟩
  obtain ⟨p, hp⟩ : ∃ r, r = 255 - dy := ⟨_, rfl⟩
  have z5 : IntKind.i64.wrap (255 - dx) = r := by rw [hr]; exact zz _ (by omega) (by omega)
  have z6 : IntKind.i64.wrap (255 - dy) = p := by rw [hp]; exact zz _ (by omega) (by omega)
  rw [← hr] at wx
  rw [← hp] at wy
  rw [← hr, ← hp]
  have m1 := mul_bd (a := p) (A := 255) (by omega) (by omega) u1.1 u1.2
  have m2 := mul_bd (a := 256 - p) (A := 256) (by omega) (by omega) u2.1 u2.2
  have m3 := mul_bd (a := r) (A := 255) (by omega) (by omega) u3.1 u3.2
  have m4 := mul_bd (a := 256 - r) (A := 256) (by omega) (by omega) u4.1 u4.2
  obtain ⟨t1, ht1⟩ : ∃ t, t = p * v1 := ⟨_, rfl⟩
  obtain ⟨t2, ht2⟩ : ∃ t, t = (256 - p) * v2 := ⟨_, rfl⟩
  obtain ⟨t3, ht3⟩ : ∃ t, t = r * v3 := ⟨_, rfl⟩
  obtain ⟨t4, ht4⟩ : ∃ t, t = (256 - r) * v4 := ⟨_, rfl⟩
  rw [← ht1] at m1
  rw [← ht2] at m2
  rw [← ht3] at m3
  rw [← ht4] at m4
  rw [← ht1, ← ht2, ← ht3, ← ht4]
  have y1' : IntKind.i64.wrap t1 = t1 := zz _ (by omega) (by omega)
  have y2 : IntKind.i64.wrap t2 = t2 := zz _ (by omega) (by omega)
  have y3 : IntKind.i64.wrap t3 = t3 := zz _ (by omega) (by omega)
  have y4 : IntKind.i64.wrap t4 = t4 := zz _ (by omega) (by omega)
  have y5 : IntKind.i64.wrap (256 - p) = 256 - p := zz _ (by omega) (by omega)
  have y6 : IntKind.i64.wrap (256 - r) = 256 - r := zz _ (by omega) (by omega)
  have y7 : IntKind.i64.wrap (t1 + t2) = t1 + t2 := zz _ (by omega) (by omega)
  have y8 : IntKind.i64.wrap (t3 + t4) = t3 + t4 := zz _ (by omega) (by omega)
  have y9 : IntKind.i64.wrap (t1 + t2 + 128) = t1 + t2 + 128 := zz _ (by omega) (by omega)
  have y10 : IntKind.i64.wrap (t3 + t4 + 128) = t3 + t4 + 128 := zz _ (by omega) (by omega)
  have y11 : IntKind.i64.wrap (t1 + t2 + (t3 + t4)) = t1 + t2 + (t3 + t4) := zz _ (by omega) (by omega)
  have y12 : IntKind.i64.wrap (t1 + t2 + (t3 + t4) + 256) = t1 + t2 + (t3 + t4) + 256 := zz _ (by omega) (by omega)
  rw [w43, f43, s43]
  by_cases c1 : mode = 10
  · simp [bx, ← hh1, z0, z1, z2, show ¬ n - 1 = 0 by omega, qx, qy, z3, z4, z5, z6, rd1_of g0, a1, a2, a3, a4, a5, a6, a7, a8, ← ht1, ← ht2, ← ht3, ← ht4, y1', y2, y3, y4, y5, y6, y7, y8, ck, s1, s2, V.same, c1, y9, IntKind.bits]
    exact ⟨by simp, x1'⟩
  · by_cases c2 : mode = 11
    · simp [bx, ← hh1, z0, z1, z2, show ¬ n - 1 = 0 by omega, qx, qy, z3, z4, z5, z6, rd1_of g0, a1, a2, a3, a4, a5, a6, a7, a8, ← ht1, ← ht2, ← ht3, ← ht4, y1', y2, y3, y4, y5, y6, y7, y8, ck, s1, s2, V.same, c1, c2, y10, IntKind.bits]
      exact ⟨by simp, x1'⟩
    · simp [bx, ← hh1, z0, z1, z2, show ¬ n - 1 = 0 by omega, qx, qy, z3, z4, z5, z6, rd1_of g0, a1, a2, a3, a4, a5, a6, a7, a8, ← ht1, ← ht2, ← ht3, ← ht4, y1', y2, y3, y4, y5, y6, y7, y8, ck, s1, s2, V.same, c1, c2, y11, y12, IntKind.bits]
      exact ⟨by simp [c1, c2], x1'⟩

def psum (has : Bool) (l : List Nat) (k : Nat) : Nat := if has then (l.take k).sum else 0
def pcnt (has : Bool) (k : Nat) : Nat := if has then k else 0
structure I41 (ha hl : Bool) (a l : List Nat) (q n : Nat) (g0 : H) (j : Nat) (en : E) (g : H) : Prop where
  hg : g = g0
  hj : j ≤ n
  e0 : en.s [0, 1, 3, 4, 5, 6, 7] 0 = .int .i64 n
  e3 : en.s [0, 1, 3, 4, 5, 6, 7] 3 = .ptr q 0
  e5 : en.s [0, 1, 3, 4, 5, 6, 7] 5 = .int .i64 ((psum ha a (n - j) + psum hl l (n - j) : Nat) : Int)
  e6 : en.s [0, 1, 3, 4, 5, 6, 7] 6 = .int .i64 ((pcnt ha (n - j) + pcnt hl (n - j) : Nat) : Int)
  e7 : en.s [0, 1, 3, 4, 5, 6, 7] 7 = .int .i64 ((n - j : Nat) : Int)

set_option maxHeartbeats 1000000 in
theorem dc41_ok {h : H} {n : Nat} {ha hl : Bool} {A L : V} {a l : List Nat} {c : Int} (aA : ByAt h A a) (aL : ByAt h L l) (la : a.length = if ha then n else 0) (ll : l.length = if hl then n else 0) (n4 : 4 ≤ n) (n64 : n ≤ 64) :
    RT (fun w h' => w = .int .i64 (meanV a l : Nat) ∧ Ext h h') (KW 41 [.int .i64 n, .agg (edges ha hl A L c)] h) := by
  have zz : ∀ n : Int, -1000000 ≤ n → n ≤ 1000000 → IntKind.i64.wrap n = n := fun n a b => Go.Zf.wi64 (by omega) (by omega)
  unfold edges
  obtain ⟨h1, hh1⟩ : ∃ g, g = h.new (.cells [.bool ha, .bool hl, A, L, .int .u8 c] 25 false) := ⟨_, rfl⟩
  have x1 : Ext h h1 := by rw [hh1]; exact (Ext.refl h).new _
  have g1 : h1.get h.n = some (.cells [.bool ha, .bool hl, A, L, .int .u8 c] 25 false) := by rw [hh1, get_new_same]
  have bA := aA.ext x1
  have bL := aL.ext x1
  have pb : ∀ k, k ≤ n → psum ha a k ≤ 255 * k ∧ psum hl l k ≤ 255 * k := by
    intro k hk
    unfold psum
    constructor
    · split
      · rename_i e; rw [if_pos e] at la; exact sum_take_le a aA.lt k (by omega)
      · omega
    · split
      · rename_i e; rw [if_pos e] at ll; exact sum_take_le l aL.lt k (by omega)
      · omega
  obtain ⟨s, r1, r2, r3, r4⟩ := loop_run (body := l41_0 KW loopZ) (I41 ha hl a l h.n n h1) (fun s => s.x = .ex 0 ∧ s.h = h1 ∧ I41 ha hl a l h.n n h1 0 s.e s.h)
    (fun j en g hi => by
      obtain ⟨rfl, hj, e0, e3, e5, e6, e7⟩ := hi
      cases j with
      | zero =>
        simp [l41_0, e0, e7]
        exact ⟨rfl, rfl, rfl, hj, by simp, by simp [e3], by simpa using e5, by simpa using e6, by simp⟩
      | succ j =>
        obtain ⟨k, hk⟩ : ∃ k, k = n - (j + 1) := ⟨_, rfl⟩
        have hk2 : n - j = k + 1 := by omega
        rw [← hk] at e5 e6 e7
        have z3 : IntKind.i64.wrap ((k : Int) + 1) = k + 1 := zz _ (by omega) (by omega)
        have hp := pb k (by omega)
        have hp1 := pb (k + 1) (by omega)
        have hc : pcnt ha k ≤ k ∧ pcnt hl k ≤ k := by unfold pcnt; constructor <;> split <;> omega
        have sA : ha = true → ∃ b o x, iaS 1 A (.int .i64 k) = some (.ptr b o) ∧ g.rd1 b o = some (.int .u8 (x : Nat)) ∧ x < 256 ∧ psum ha a (k + 1) = psum ha a k + x := fun e => by
          rw [if_pos e] at la
          obtain ⟨b, o, q1, q2, _⟩ := bA.at_ k (by omega)
          exact ⟨b, o, _, q1, q2, aA.lt k (by omega), by unfold psum; rw [if_pos e, if_pos e, sum_take_succ a k (by omega)]⟩
        have sL : hl = true → ∃ b o x, iaS 1 L (.int .i64 k) = some (.ptr b o) ∧ g.rd1 b o = some (.int .u8 (x : Nat)) ∧ x < 256 ∧ psum hl l (k + 1) = psum hl l k + x := fun e => by
          rw [if_pos e] at ll
          obtain ⟨b, o, q1, q2, _⟩ := bL.at_ k (by omega)
          exact ⟨b, o, _, q1, q2, aL.lt k (by omega), by unfold psum; rw [if_pos e, if_pos e, sum_take_succ l k (by omega)]⟩
        obtain ⟨S1, hS1⟩ : ∃ s, s = psum ha a k := ⟨_, rfl⟩
        obtain ⟨S2, hS2⟩ : ∃ s, s = psum hl l k := ⟨_, rfl⟩
        obtain ⟨C1, hC1⟩ : ∃ s, s = pcnt ha k := ⟨_, rfl⟩
        obtain ⟨C2, hC2⟩ : ∃ s, s = pcnt hl k := ⟨_, rfl⟩
        rw [← hS1, ← hS2] at e5 hp
        rw [← hC1, ← hC2] at e6 hc
        cases hha : ha <;> cases hhl : hl
        · subst hha hhl
          have w1 : psum false a (k + 1) = S1 := by rw [hS1]; rfl
          have w2 : psum false l (k + 1) = S2 := by rw [hS2]; rfl
          simp [l41_0, e0, e7, show (k : Int) < n by omega, show k < n by omega, e3, rd1_of g1, z3]
          exact ⟨j, Nat.lt_succ_self j, rfl, by omega, by simp [e0], by simp [e3], by simp [hk2, w1, w2, e5], by simp [hk2, e6, hC1, hC2, pcnt], by simp [hk2]⟩
        · subst hha
          obtain ⟨b, o, x, q1, q2, q3, q4⟩ := sL hhl
          subst hhl
          have w1 : psum false a (k + 1) = S1 := by rw [hS1]; rfl
          rw [← hS2] at q4
          have z4 : IntKind.i64.wrap (x : Int) = x := zz _ (by omega) (by omega)
          have z5 : IntKind.i64.wrap ((S1 : Int) + S2 + x) = S1 + S2 + x := zz _ (by omega) (by omega)
          have z6 : IntKind.i64.wrap ((C1 : Int) + C2 + 1) = C1 + C2 + 1 := zz _ (by omega) (by omega)
          simp [l41_0, e0, e7, show (k : Int) < n by omega, show k < n by omega, e3, rd1_of g1, q1, q2, z4, e5, z5, e6, z6, z3]
          exact ⟨j, Nat.lt_succ_self j, rfl, by omega, by simp [e0], by simp [e3], by simp [hk2, w1, q4]; omega, by simp [hk2, hC1, hC2, pcnt], by simp [hk2]⟩
        · subst hhl
          obtain ⟨b, o, x, q1, q2, q3, q4⟩ := sA hha
          subst hha
          have w1 : psum false l (k + 1) = S2 := by rw [hS2]; rfl
          rw [← hS1] at q4
          have z4 : IntKind.i64.wrap (x : Int) = x := zz _ (by omega) (by omega)
          have z5 : IntKind.i64.wrap ((S1 : Int) + S2 + x) = S1 + S2 + x := zz _ (by omega) (by omega)
          have z6 : IntKind.i64.wrap ((C1 : Int) + C2 + 1) = C1 + C2 + 1 := zz _ (by omega) (by omega)
          simp [l41_0, e0, e7, show (k : Int) < n by omega, show k < n by omega, e3, rd1_of g1, q1, q2, z4, e5, z5, e6, z6, z3]
          exact ⟨j, Nat.lt_succ_self j, rfl, by omega, by simp [e0], by simp [e3], by simp [hk2, w1, q4]; omega, by simp [hk2, hC1, hC2, pcnt], by simp [hk2]⟩
        · obtain ⟨b, o, x, q1, q2, q3, q4⟩ := sA hha
          obtain ⟨b', o', x', q1', q2', q3', q4'⟩ := sL hhl
          subst hha hhl
          rw [← hS1] at q4
          rw [← hS2] at q4'
          have z4 : IntKind.i64.wrap (x : Int) = x := zz _ (by omega) (by omega)
          have z4' : IntKind.i64.wrap (x' : Int) = x' := zz _ (by omega) (by omega)
          have z5 : IntKind.i64.wrap ((S1 : Int) + S2 + x) = S1 + S2 + x := zz _ (by omega) (by omega)
          have z5' : IntKind.i64.wrap ((S1 : Int) + S2 + x + x') = S1 + S2 + x + x' := zz _ (by omega) (by omega)
          have z6 : IntKind.i64.wrap ((C1 : Int) + C2 + 1) = C1 + C2 + 1 := zz _ (by omega) (by omega)
          have z6' : IntKind.i64.wrap ((C1 : Int) + C2 + 1 + 1) = C1 + C2 + 1 + 1 := zz _ (by omega) (by omega)
          simp [l41_0, e0, e7, show (k : Int) < n by omega, show k < n by omega, e3, rd1_of g1, q1, q2, q1', q2', z4, z4', e5, z5, z5', e6, z6, z6', z3]
          exact ⟨j, Nat.lt_succ_self j, rfl, by omega, by simp [e0], by simp [e3], by simp [hk2, q4, q4']; omega, by simp [hk2, hC1, hC2, pcnt]; omega, by simp [hk2]⟩) n ⟨[.int .i64 n, .agg [.bool ha, .bool hl, A, L, .int .u8 c], .ptr h.n 0, .int .i64 0, .int .i64 0, .int .i64 0, .int .i64 0], 7, .int .i64 0⟩ h1
    ⟨rfl, Nat.le_refl _, by simp, by simp, by simp [psum], by simp [pcnt], by simp⟩
  obtain ⟨x6, e6, h6⟩ := s
  simp only at r2 r3 r4
  subst r2 r3
  obtain ⟨_, _, t0, t3, t5, t6, t7⟩ := r4
  simp only [Nat.sub_zero] at t5 t6
  have hs : psum ha a n + psum hl l n = a.sum + l.sum := by
    unfold psum
    congr 1
    · cases ha
      · have : a = [] := List.length_eq_zero_iff.mp (by simpa using la)
        subst this; rfl
      · simp only [if_true] at la ⊢; rw [List.take_of_length_le (by omega)]
    · cases hl
      · have : l = [] := List.length_eq_zero_iff.mp (by simpa using ll)
        subst this; rfl
      · simp only [if_true] at ll ⊢; rw [List.take_of_length_le (by omega)]
  have hcn : pcnt ha n + pcnt hl n = a.length + l.length := by rw [la, ll]; rfl
  have hpn := pb n (Nat.le_refl _)
  rw [hs] at t5
  rw [hcn] at t6
  have hsb : a.sum + l.sum ≤ 510 * n := by omega
  obtain ⟨S, hS⟩ : ∃ S, S = a.sum + l.sum := ⟨_, rfl⟩
  obtain ⟨N, hN⟩ : ∃ N, N = a.length + l.length := ⟨_, rfl⟩
  have hN2 : N ≤ 2 * n := by rw [hN, ← hcn]; unfold pcnt; split <;> split <;> omega
  rw [← hS] at t5 hsb
  rw [← hN] at t6
  have hm : meanV a l = if N = 0 then 128 else (S + N / 2) / N := by unfold meanV; rw [← hS, ← hN]
  rw [hm]
  rw [w41, f41, s41]
  by_cases hz : N = 0
  · rw [hz] at t6
    simp [bx, ← hh1, r1, t6]
    exact ⟨by simp [hz], x1⟩
  · have hq : (N : Int).tdiv 2 = ((N / 2 : Nat) : Int) := by rw [Int.tdiv_eq_ediv_of_nonneg (by omega)]; omega
    obtain ⟨q, hqq⟩ : ∃ q, q = N / 2 := ⟨_, rfl⟩
    rw [← hqq] at hq
    have z1 : IntKind.i64.wrap (q : Int) = q := zz _ (by omega) (by omega)
    have z2 : IntKind.i64.wrap ((S : Int) + q) = ((S + q : Nat) : Int) := by rw [zz _ (by omega) (by omega)]; omega
    have hq2 : ((S + q : Nat) : Int).tdiv (N : Int) = (((S + q) / N : Nat) : Int) := by rw [Int.tdiv_eq_ediv_of_nonneg (by omega)]; rfl
    have hle : (S + q) / N ≤ S + q := Nat.div_le_self _ _
    rw [if_neg hz, ← hqq]
    obtain ⟨r, hrr⟩ : ∃ r, r = S + q := ⟨_, rfl⟩
    rw [← hrr] at z2 hq2 hle
    rw [← hrr]
    obtain ⟨m, hmm⟩ : ∃ m, m = r / N := ⟨_, rfl⟩
    rw [← hmm] at hq2 hle
    rw [← hmm]
    have z5 : IntKind.i64.wrap (m : Int) = m := zz _ (by omega) (by omega)
    simp [bx, ← hh1, r1, t6, show ¬ (N : Int) = 0 by omega, hz, hq, z1, t5, z2, hq2, z5]
    exact ⟨rfl, x1⟩
end Go.Proofs.Ytpjcmgmmolediaa
