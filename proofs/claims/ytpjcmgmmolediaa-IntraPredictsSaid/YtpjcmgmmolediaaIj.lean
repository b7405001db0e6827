/- filled; Predict. -/
import Derived.Test.YtpjcmgmmolediaaIi
set_option linter.unusedVariables false
set_option linter.unusedSimpArgs false
namespace Go.Proofs.Ytpjcmgmmolediaa
open Go Go.Zf Go.RowKit

theorem w30 (p0 p1 : V) (h : H) : KW 30 [p0, p1] h = f30 KW loopZ p0 p1 h := (callW_eqF _ _ _ _ _ _ rfl).trans (congrFun (congrFun (congrFun (congrFun (congrFun (r30) _) _) p0) p1) h)
theorem w14 (p0 p1 p2 p3 : V) (h : H) : KW 14 [p0, p1, p2, p3] h = f14 KW loopZ p0 p1 p2 p3 h := (callW_eqF _ _ _ _ _ _ rfl).trans (congrFun (congrFun (congrFun (congrFun (congrFun (congrFun (congrFun (r14) _) _) p0) p1) p2) p3) h)

theorem ldV59 (h : H) (v : V) : ldV Try.prog 59 h v = ldn 4 h v := by
  cases v <;> first | rfl | kernel_rfl
theorem resVs59 (s : Nat → V) (h : H) (a : Nat) (rs : List ResultVar) : resVs Try.prog s h (.cell a 59 :: rs) = bd (ldn 4 h (s a)) fun v => bd (resVs Try.prog s h rs) fun vs => some (v :: vs) := by
  show bd (ldV Try.prog 59 h (s a)) _ = _
  rw [ldV59]

def fC (ha hl : Bool) (a l : List Nat) (c : Int) : Int := if ha then (if hl then c else (a.getD 0 0 : Nat)) else if hl then (l.getD 0 0 : Nat) else 128
def fA (ha hl : Bool) (a l : List Nat) (c : Int) : Int → Int := if ha then eOf a (fC ha hl a l c) else if hl then eOf [l.getD 0 0] (fC ha hl a l c) else eOf [127] 128
def fL (ha hl : Bool) (a l : List Nat) (c : Int) : Int → Int := if hl then eOf l (fC ha hl a l c) else if ha then eOf [a.getD 0 0] (fC ha hl a l c) else eOf [129] 128

set_option maxHeartbeats 800000 in
theorem filled30_ok {h : H} {n : Int} {ha hl : Bool} {A L : V} {a l : List Nat} {c : Int} (aA : ByAt h A a) (aL : ByAt h L l) (la : a.length < 1000000) (ll : l.length < 1000000) (pa : ha = true → 0 < a.length) (pl : hl = true → 0 < l.length) (c0 : 0 ≤ c) (c1 : c ≤ 255) :
    RT (fun w h' => Ext h h' ∧ ∃ vA vL, w = .agg [.int .i64 n, vA, vL, .int .i64 (fC ha hl a l c)] ∧ Edge h' vA (fA ha hl a l c) (-big) big ∧ Edge h' vL (fL ha hl a l c) (-big) big) (KW 30 [.int .i64 n, .agg (edges ha hl A L c)] h) := by
  unfold edges
  obtain ⟨h1, hh1⟩ : ∃ g, g = (h.new (.cells [.bool ha, .bool hl, A, L, .int .u8 c] 25 false)).new (.cells [.int .i64 0, .nilf, .nilf, .int .i64 0] 59 false) := ⟨_, rfl⟩
  have x1 : Ext h h1 := by rw [hh1]; exact ((Ext.refl h).new _).new _
  have g0 : h1.get h.n = some (.cells [.bool ha, .bool hl, A, L, .int .u8 c] 25 false) := by rw [hh1, get_new_lt (by rw [H.n_new]; omega), get_new_same]
  have g1 : h1.get (h.n + 1) = some (.cells [.int .i64 0, .nilf, .nilf, .int .i64 0] 59 false) := by rw [hh1, get_new_eq (by rw [H.n_new])]
  have hn1 : h1.n = h.n + 2 := by rw [hh1]; simp only [H.n_new]
  have s1 := aA.same
  have s2 := aL.same
  have zc : IntKind.i64.wrap c = c := Go.Zf.wi64 (by omega) (by omega)
  have zz : ∀ k : Nat, k < 256 → IntKind.i64.wrap (k : Int) = k := fun k hk => Go.Zf.wi64 (by omega) (by omega)
  have fin30 : ∀ (h2 h3 : H) (v1 v2 : V) (EA EL : Int → Int) (cc : Int) (p1 q1 p2 q2 : Nat), Ext h1 h2 → Ext h2 h3 → EdgeX p1 q1 h2 v1 EA (-big) big → EdgeX p2 q2 h3 v2 EL (-big) big → p1 ≤ h.n → h.n + 2 ≤ q1 → p2 ≤ h.n → h.n + 2 ≤ q2 →
      ∃ h4, h3.wrN (h.n + 1) 0 [.int .i64 n, v1, v2, .int .i64 cc] = some h4 ∧ h4.rdN (h.n + 1) 0 4 = some [.int .i64 n, v1, v2, .int .i64 cc] ∧ h2.get h.n = some (.cells [.bool ha, .bool hl, A, L, .int .u8 c] 25 false) ∧
        (Ext h h4 ∧ Edge h4 v1 EA (-big) big ∧ Edge h4 v2 EL (-big) big) := by
    intro h2 h3 v1 v2 EA EL cc p1 q1 p2 q2 x2 x3 E1 E2 b1 b2 b3 b4
    have g2 : h3.get (h.n + 1) = _ := ((x2.trans x3).get _ (H.get_lt g1)).trans g1
    have hn2 := x2.n
    refine ⟨h3.put (h.n + 1) (.cells [.int .i64 n, v1, v2, .int .i64 cc] 59 false), by rw [wrN_of g2 (by simp)]; rfl, ?_, (x2.get _ (H.get_lt g0)).trans g0, ((x1.trans x2).trans x3).put (by omega) _, ?_, ?_⟩
    · rw [rdN_of (get_put_same (H.get_lt g2)) (by simp)]; rfl
    · exact (E1.mono b1 b2).edge ((x3.x _ _).put (.inl (by omega)) _)
    · exact (E2.mono b3 b4).edge ((ExtX.refl _ _ _).put (.inl (by omega)) _)
  rw [w30, f30, s30]
  cases hha : ha <;> cases hhl : hl <;> subst hha <;> subst hhl
  · obtain ⟨v1, h2, k1, x2, E1⟩ := (flat47_ok (h := h1) (v := 127) (c := 128) (by omega) (by omega) (by omega) (by omega)).elim
    obtain ⟨v2, h3, k2, x3, E2⟩ := (flat47_ok (h := h2) (v := 129) (c := 128) (by omega) (by omega) (by omega) (by omega)).elim
    have hn2 := x2.n
    obtain ⟨h4, f1, f2, f3, f4, f5, f6⟩ := fin30 h2 h3 v1 v2 _ _ 128 _ _ _ _ x2 x3 E1 E2 (by omega) (by omega) (by omega) (by omega)
    simp [bx, ← hh1, nw, H.n_new, rd1_of g0, gl_t, k1, k2, bl, fillW, E1.cells, E2.cells, splice, f1, resVs59, f2]
    exact ⟨f4, v1, v2, rfl, f5, f6⟩
  · have hl0 := pl rfl
    obtain ⟨b, o, i1, i2, i3⟩ := aL.at_ 0 hl0
    have i4 := aL.lt 0 hl0
    obtain ⟨x, hx⟩ : ∃ x, x = l.getD 0 0 := ⟨_, rfl⟩
    have hfc : fC false true a l c = x := by simp only [fC, hx]; simp
    rw [← hx] at i2 i4
    obtain ⟨v1, h2, k1, x2, E1⟩ := (flat47_ok (h := h1) (v := x) (c := x) (by omega) (by omega) (by omega) (by omega)).elim
    obtain ⟨v2, h3, k2, x3, E2⟩ := (of46_ok (h0 := h) (h := h2) (c := x) aL (x1.trans x2) hl0 ll (by omega) (by omega)).elim
    have hn2 := x2.n
    obtain ⟨h4, f1, f2, f3, f4, f5, f6⟩ := fin30 h2 h3 v1 v2 _ _ x _ _ _ _ x2 x3 E1 E2 (by omega) (by omega) (by omega) (by omega)
    have i5 : h1.rd1 b o = some (.int .u8 (x : Int)) := by rw [← i2]; unfold H.rd1; rw [x1.get b i3]
    simp only [Int.ofNat_eq_natCast, Int.cast_ofNat_Int] at i1
    simp [bx, ← hh1, nw, H.n_new, rd1_of g0, rd1_of f3, gl_t, i1, i5, zz x i4, k1, k2, bl, fillW, E1.cells, E2.cells, splice, f1, resVs59, f2, ck, s2]
    exact ⟨f4, v1, v2, by rw [hfc], by rw [show fA false true a l c = eOf [x] x by unfold fA; rw [hfc, hx]; rfl]; simpa using f5, by simpa [fL, hfc] using f6⟩
  · have hl0 := pa rfl
    obtain ⟨b, o, i1, i2, i3⟩ := aA.at_ 0 hl0
    have i4 := aA.lt 0 hl0
    obtain ⟨x, hx⟩ : ∃ x, x = a.getD 0 0 := ⟨_, rfl⟩
    have hfc : fC true false a l c = x := by simp only [fC, hx]; simp
    rw [← hx] at i2 i4
    obtain ⟨v1, h2, k1, x2, E1⟩ := (of46_ok (h0 := h) (h := h1) (c := x) aA x1 hl0 la (by omega) (by omega)).elim
    obtain ⟨v2, h3, k2, x3, E2⟩ := (flat47_ok (h := h2) (v := x) (c := x) (by omega) (by omega) (by omega) (by omega)).elim
    have hn2 := x2.n
    obtain ⟨h4, f1, f2, f3, f4, f5, f6⟩ := fin30 h2 h3 v1 v2 _ _ x _ _ _ _ x2 x3 E1 E2 (by omega) (by omega) (by omega) (by omega)
    have i5 : h1.rd1 b o = some (.int .u8 (x : Int)) := by rw [← i2]; unfold H.rd1; rw [x1.get b i3]
    simp only [Int.ofNat_eq_natCast, Int.cast_ofNat_Int] at i1
    simp [bx, ← hh1, nw, H.n_new, rd1_of g0, rd1_of f3, gl_t, i1, i5, zz x i4, k1, k2, bl, fillW, E1.cells, E2.cells, splice, f1, resVs59, f2, ck, s1]
    exact ⟨f4, v1, v2, by rw [hfc], by simpa [fA, hfc] using f5, by rw [show fL true false a l c = eOf [x] x by unfold fL; rw [hfc, hx]; rfl]; simpa using f6⟩
  · obtain ⟨v1, h2, k1, x2, E1⟩ := (of46_ok (h0 := h) (h := h1) (c := c) aA x1 (pa rfl) la (by omega) (by omega)).elim
    obtain ⟨v2, h3, k2, x3, E2⟩ := (of46_ok (h0 := h) (h := h2) (c := c) aL (x1.trans x2) (pl rfl) ll (by omega) (by omega)).elim
    have hn2 := x2.n
    obtain ⟨h4, f1, f2, f3, f4, f5, f6⟩ := fin30 h2 h3 v1 v2 _ _ c _ _ _ _ x2 x3 E1 E2 (by omega) (by omega) (by omega) (by omega)
    simp [bx, ← hh1, nw, H.n_new, rd1_of g0, rd1_of f3, gl_t, zc, k1, k2, bl, fillW, E1.cells, E2.cells, splice, f1, resVs59, f2, ck, s1, s2]
    exact ⟨f4, v1, v2, by simp [fC], by simpa [fA, fC] using f5, by simpa [fL, fC] using f6⟩


/-! Predict -/
def Bad (mode delta : Int) : Bool := decide (mode < 0) || decide (12 < mode) || (!(angleOf mode delta).2 && (!decide (delta = 0) || (decide (1 ≤ mode) && decide (mode ≤ 8))))
def predS (n mode delta : Int) (ha hl : Bool) (a l : List Nat) (c : Int) : Int → Int → Int :=
  if (angleOf mode delta).2 then dirS n delta (fC ha hl a l c) (angleOf mode delta).1 (fA ha hl a l c) (fL ha hl a l c)
  else if mode = 0 then fun _ _ => (meanV a l : Nat)
  else if mode = 12 then fun x y => nearV (fL ha hl a l c y) (fA ha hl a l c x) (fC ha hl a l c)
  else if mode = 9 then softS n 1 1 256 512 (fA ha hl a l c) (fL ha hl a l c)
  else if mode = 11 then softS n 0 1 128 256 (fA ha hl a l c) (fL ha hl a l c)
  else softS n 1 0 128 256 (fA ha hl a l c) (fL ha hl a l c)
/-- A block's bytes, row by row. -/
def byteAt (s : Int → Int → Int) (n : Int) (k : Nat) : V := .int .u8 (IntKind.u8.wrap (s ((k : Int) % n) ((k : Int) / n)))

structure I14 (hs : H) (v : V) (ob m : Nat) (s : Int → Int → Int) (nn : Int) (j : Nat) (en : E) (g : H) : Prop where
  hj : j ≤ m
  x : Ext hs g
  o : g.get ob = some (.cells (fillTo (byteAt s nn) (.int .u8 0) m (m - j)) 5 false)
  p0 : en.s [0, 1, 2, 3, 7, 8, 9, 10, 11, 12, 13, 14, 15, 16, 81, 82] 0 = .int .i64 nn
  p13 : en.s [0, 1, 2, 3, 7, 8, 9, 10, 11, 12, 13, 14, 15, 16, 81, 82] 13 = v
  p15 : en.s [0, 1, 2, 3, 7, 8, 9, 10, 11, 12, 13, 14, 15, 16, 81, 82] 15 = .sl ob 0 m (.ex m)
  p81 : en.s [0, 1, 2, 3, 7, 8, 9, 10, 11, 12, 13, 14, 15, 16, 81, 82] 81 = .int .i64 m
  p82 : en.s [0, 1, 2, 3, 7, 8, 9, 10, 11, 12, 13, 14, 15, 16, 81, 82] 82 = .int .i64 ((m - j : Nat) : Int)

theorem step14 {hs : H} {v : V} {ob m : Nat} {s : Int → Int → Int} {nn : Int} (S : Samp hs v s nn) (hob : hs.n ≤ ob) (hn : 4 ≤ nn) (hn2 : nn ≤ 64) (hm : (m : Int) = nn * nn) :
    ∀ j en g, I14 hs v ob m s nn j en g → LS (I14 hs v ob m s nn) (fun st => st.x = .ex 1 ∧ I14 hs v ob m s nn 0 st.e st.h) j (l14_0 KW loopZ en g) := by
  intro j en g hi
  obtain ⟨hj, x, o, p0, p13, p15, p81, p82⟩ := hi
  have hm2 : (m : Int) ≤ 64 * 64 := by rw [hm]; exact (mul_bd (by omega) hn2 (by omega) hn2).2
  cases j with
  | zero =>
    simp [l14_0, p81, p82]
    exact ⟨rfl, hj, x, o, by simpa using p0, by simpa using p13, by simpa using p15, by simp, by simp⟩
  | succ j =>
    obtain ⟨k, hk⟩ : ∃ k, k = m - (j + 1) := ⟨_, rfl⟩
    have hk2 : m - j = k + 1 := by omega
    rw [← hk] at o p82
    have q1 : (k : Int).tmod nn = (k : Int) % nn := Int.tmod_eq_emod_of_nonneg (by omega)
    have q2 : (k : Int).tdiv nn = (k : Int) / nn := Int.tdiv_eq_ediv_of_nonneg (by omega)
    have r1 : 0 ≤ (k : Int) % nn := Int.emod_nonneg _ (by omega)
    have r2 : (k : Int) % nn < nn := Int.emod_lt_of_pos _ (by omega)
    have r3 : 0 ≤ (k : Int) / nn := Int.ediv_nonneg (by omega) (by omega)
    have r4 : (k : Int) / nn < nn := Int.ediv_lt_of_lt_mul (by omega) (by omega)
    have zq : IntKind.i64.wrap ((k : Int) / nn) = (k : Int) / nn := Go.Zf.wi64 (by omega) (by omega)
    have z1 : IntKind.i64.wrap ((k : Int) + 1) = k + 1 := Go.Zf.wi64 (by omega) (by omega)
    obtain ⟨w, g1, k1, rfl, x1⟩ := (S.run g x _ _ r1 r2 r3 r4).elim
    have o1 : g1.get ob = _ := (x1.get _ (H.get_lt o)).trans o
    have hlen : k < (fillTo (byteAt s nn) (.int .u8 0) m k).length := by rw [fillTo_length]; omega
    have hset := fillTo_set (byteAt s nn) (.int .u8 0) m k
    have hby : byteAt s nn k = .int .u8 (IntKind.u8.wrap (s ((k : Int) % nn) ((k : Int) / nn))) := rfl
    rw [hby] at hset
    obtain ⟨cs, hcs⟩ : ∃ cs, cs = fillTo (byteAt s nn) (.int .u8 0) m k := ⟨_, rfl⟩
    rw [← hcs] at o1 hlen hset
    simp [l14_0, p81, p82, show (k : Int) < m by omega, show k < m by omega, p0, show ¬ nn = 0 by omega, q1, q2, zq, p13, k1, p15, wr1_of o1 hlen, hset, z1]
    refine ⟨j, Nat.lt_succ_self j, by omega, (x.trans x1).put hob _, ?_, by simp, by simp, by simp, by simp, by simp [hk2]⟩
    rw [get_put_same (H.get_lt o1), hk2]

theorem sz_even {n : Int} (h : Sz n = true) : 4 ≤ n ∧ n ≤ 64 ∧ n ≠ 0 := by have := sz_in h; omega

/-- What Predict answers. -/
def PredOk (h : H) (n mode delta : Int) (ha hl : Bool) (a l : List Nat) (c : Int) (w : V) (h' : H) : Prop :=
  Ext h h' ∧
  if Sz n = false then w = .tup [.nils, .int .i64 2] else if Bad mode delta then w = .tup [.nils, .int .i64 120] else if Good n ha hl a.length l.length = false then w = .tup [.nils, .int .i64 2] else
  ∃ b m : Nat, (m : Int) = n * n ∧ w = .tup [.sl b 0 m (.ex m), .int .i64 0] ∧ h.n ≤ b ∧ h'.get b = some (.cells ((List.range m).map (byteAt (predS n mode delta ha hl a l c) n)) 5 false)

theorem check0 {n : Int} (h : H) : ∃ h', KW 12 [.int .i64 n, .agg [.bool false, .bool false, .nils, .nils, .int .u8 0]] h = some (.ret (.int .i64 (if Sz n then 0 else 2)), h') ∧ Ext h h' := by
  obtain ⟨h', k1, k2, k3⟩ := check12_ok (n := n) (ha := false) (hl := false) (A := .nils) (L := .nils) (a := 0) (l := 0) (c := 0) rfl rfl h
  refine ⟨h', ?_, k2, k3⟩
  have : Good n false false 0 0 = Sz n := by unfold Good Fits; simp
  rw [this] at k1
  exact k1

/-- From the loop on. -/
theorem fin14 {h hs : H} {v : V} {s : Int → Int → Int} {n : Int} {m : Nat} {e : E} {k : E → H → Out} (n4 : 4 ≤ n) (n64 : n ≤ 64) (hm : (m : Int) = n * n) (x : Ext h hs) (S : Samp hs v s n)
    (p0 : e.s [0, 1, 2, 3, 7, 8, 9, 10, 11, 12, 13, 14, 15, 16, 81, 82] 0 = .int .i64 n) (p13 : e.s [0, 1, 2, 3, 7, 8, 9, 10, 11, 12, 13, 14, 15, 16, 81, 82] 13 = v) (p15 : e.s [0, 1, 2, 3, 7, 8, 9, 10, 11, 12, 13, 14, 15, 16, 81, 82] 15 = .sl hs.n 0 m (.ex m))
    (p81 : e.s [0, 1, 2, 3, 7, 8, 9, 10, 11, 12, 13, 14, 15, 16, 81, 82] 81 = .int .i64 m) (p82 : e.s [0, 1, 2, 3, 7, 8, 9, 10, 11, 12, 13, 14, 15, 16, 81, 82] 82 = .int .i64 0)
    (hk : ∀ (en : E) (g : H), fin Try.prog [0, 1, 2, 3, 7, 8, 9, 10, 11, 12, 13, 14, 15, 16, 81, 82] [.tmp 8, .tmp 9] (k en g) = some (.ret (.tup [en.s [0, 1, 2, 3, 7, 8, 9, 10, 11, 12, 13, 14, 15, 16, 81, 82] 15, .int .i64 0]), g)) :
    RT (fun w h' => Ext h h' ∧ ∃ b m : Nat, (m : Int) = n * n ∧ w = .tup [.sl b 0 m (.ex m), .int .i64 0] ∧ h.n ≤ b ∧ h'.get b = some (.cells ((List.range m).map (byteAt s n)) 5 false))
      (fin Try.prog [0, 1, 2, 3, 7, 8, 9, 10, 11, 12, 13, 14, 15, 16, 81, 82] [.tmp 8, .tmp 9] (sq (blk 1 (loopZ (l14_0 KW loopZ) e (hs.new (.cells (List.replicate m (.int .u8 0)) 5 false)))) k)) := by
  refine loop_in (C := fun o => RT _ (fin _ _ _ (sq (blk _ o) _))) (I14 hs v hs.n m s n) (fun st => st.x = .ex 1 ∧ I14 hs v hs.n m s n 0 st.e st.h) (step14 S (Nat.le_refl _) n4 n64 hm) m ⟨Nat.le_refl _, (Ext.refl hs).new _, by rw [get_new_same, Nat.sub_self, fillTo_zero], p0, p13, p15, p81, by simpa using p82⟩ ?_
  rintro ⟨x1, en, g⟩ ⟨hx, hj, x2, o, q0, q13, q15, q81, q82⟩
  simp only at hx o q15 x2
  subst hx
  simp only [blk_ex, if_true, sq_nm]
  rw [hk, q15]
  simp only [Nat.sub_zero, fillTo_all] at o
  exact ⟨x.trans x2, hs.n, m, hm, rfl, x.n, o⟩

theorem angle_bd (mode delta : Int) (hs : (angleOf mode delta).2 = true) : 1 ≤ mode ∧ mode ≤ 8 ∧ -3 ≤ delta ∧ delta ≤ 3 ∧ 0 ≤ (angleOf mode delta).1 ∧ (angleOf mode delta).1 ≤ 300 := by
  unfold angleOf at hs ⊢
  split at hs
  · cases hs
  · rename_i hc
    rw [if_neg hc]
    have hm : mode = 1 ∨ mode = 2 ∨ mode = 3 ∨ mode = 4 ∨ mode = 5 ∨ mode = 6 ∨ mode = 7 ∨ mode = 8 := by omega
    rcases hm with rfl | rfl | rfl | rfl | rfl | rfl | rfl | rfl <;> simp <;> omega

set_option maxHeartbeats 1600000 in
theorem predict14_ok {h : H} {n mode delta : Int} {ha hl : Bool} {A L : V} {a l : List Nat} {c : Int} (aA : ByAt h A a) (aL : ByAt h L l) (c0 : 0 ≤ c) (c1 : c ≤ 255) :
    RT (PredOk h n mode delta ha hl a l c) (KW 14 [.int .i64 n, .int .i64 mode, .int .i64 delta, .agg (edges ha hl A L c)] h) := by
  obtain ⟨h1, hh1⟩ : ∃ g, g = h.new (.cells (edges ha hl A L c) 25 false) := ⟨_, rfl⟩
  have x1 : Ext h h1 := by rw [hh1]; exact (Ext.refl h).new _
  have g1 : h1.get h.n = some (.cells (edges ha hl A L c) 25 false) := by rw [hh1, get_new_same]
  have hlen : (edges ha hl A L c).length = 5 := rfl
  obtain ⟨cs, hcs⟩ : ∃ cs, cs = edges ha hl A L c := ⟨_, rfl⟩
  obtain ⟨h2, k2, x2⟩ := check0 (n := n) h1
  rw [w14, f14, s14]
  unfold PredOk
  cases hz : Sz n with
  | false =>
    rw [hz] at k2
    rw [← hcs] at hh1 ⊢
    simp [bx, ← hh1, bl, fillW, k2]
    exact ⟨x1.trans x2, rfl⟩
  | true =>
    rw [hz] at k2
    obtain ⟨n4, n64, n0⟩ := sz_even hz
    obtain ⟨m, hm⟩ : ∃ m : Nat, (m : Int) = n * n := ⟨(n * n).toNat, by have := (mul_bd (a := n) (b := n) (by omega) n64 (by omega) n64).1; omega⟩
    have hm2 : (m : Int) ≤ 64 * 64 := by rw [hm]; exact (mul_bd (by omega) n64 (by omega) n64).2
    have zm : IntKind.i64.wrap (n * n) = m := by rw [← hm]; exact Go.Zf.wi64 (by omega) (by omega)
    have ka := fun g => angle20_ok mode delta g
    obtain ⟨an, hand⟩ : ∃ p, p = (angleOf mode delta).1 := ⟨_, rfl⟩
    obtain ⟨sl', hsld⟩ : ∃ p, p = (angleOf mode delta).2 := ⟨_, rfl⟩
    simp only [← hand, ← hsld] at ka
    have g2 : h2.get h.n = _ := (x2.get _ (H.get_lt g1)).trans g1
    obtain ⟨h3, k3, x3', x3''⟩ := check12_ok (n := n) (ha := ha) (hl := hl) (c := c) aA.len aL.len h2
    have x3 : Ext h2 h3 := ⟨x3', x3''⟩
    have X3 := (x1.trans x2).trans x3
    have g3 : h3.get h.n = _ := (x3.get _ (H.get_lt g2)).trans g2
    obtain ⟨bd', hbad⟩ : ∃ p, p = Bad mode delta := ⟨_, rfl⟩
    have hguard : ∀ {β : Type} (kk : V → Option β), (bd (binK 0 .lss (.int .i64 mode) (.int .i64 0)) fun t28 =>
       bd (gl t28 false (some (.int .i64 mode))) fun t30 =>
       bd (gl t28 false (binK 0 .gtr t30 (.int .i64 12))) fun t31 =>
       bd (pk t28 (.bool true) t31) fun t32 =>
       bd (gl t32 false (some (.bool sl'))) fun t34 =>
       bd (gl t32 false (unV .not t34)) fun t35 =>
       bd (gl t32 false (some t35)) fun t36 =>
       bd (gl t36 true (some (.int .i64 delta))) fun t37 =>
       bd (gl t36 true (binK 0 .neq t37 (.int .i64 0))) fun t38 =>
       bd (gl t36 true (some t38)) fun t39 =>
       bd (gl t39 false (some (.int .i64 mode))) fun t40 =>
       bd (gl t39 false (binK 0 .geq t40 (.int .i64 1))) fun t41 =>
       bd (gl t39 false (some t41)) fun t42 =>
       bd (gl t42 true (some (.int .i64 mode))) fun t43 =>
       bd (gl t42 true (binK 0 .leq t43 (.int .i64 8))) fun t44 =>
       bd (gl t39 false (pk t42 t44 (.bool false))) fun t45 =>
       bd (gl t36 true (pk t39 (.bool true) t45)) fun t46 =>
       bd (gl t32 false (pk t36 t46 (.bool false))) fun t47 =>
       bd (pk t32 (.bool true) t47) kk) = kk (.bool bd') := by
      intro β kk
      rw [hbad]
      unfold Bad
      rw [← hsld]
      by_cases c1 : mode < 0
      · simp [c1, gl_t]
      · by_cases c2 : 12 < mode
        · simp [c1, c2, gl_t]
        · cases sl' with
          | true => simp [c1, c2, gl_t]
          | false =>
            by_cases c3 : delta = 0
            · by_cases c4 : 1 ≤ mode
              · by_cases c5 : mode ≤ 8
                · simp [c1, c2, c3, c4, c5, gl_t]
                · simp [c1, c2, c3, c4, c5, gl_t]
              · simp [c1, c2, c3, c4, gl_t]
            · simp [c1, c2, c3, gl_t]
    rw [← hbad]
    cases hbd : bd' with
    | true =>
      rw [hbd] at hguard
      rw [← hcs] at hh1 ⊢
      simp [bx, ← hh1, bl, fillW, k2, ka, -binK_lss, hguard]
      exact ⟨x1.trans x2, rfl⟩
    | false =>
      rw [hbd] at hguard
      cases hg : Good n ha hl a.length l.length with
      | false =>
        rw [hg] at k3
        rw [← hcs] at hh1 g1 g2 g3 k3 hlen ⊢
        simp [bx, ← hh1, bl, fillW, k2, ka, -binK_lss, hguard, rdN_of (o := 0) (n := 5) g2 (by simp [hlen]), List.take_of_length_le, hlen, k3]
        exact ⟨X3, rfl⟩
      | true =>
        rw [hg] at k3
        have hsz : (ha = true → (a.length : Int) = n) ∧ (ha = false → a.length = 0) ∧ (hl = true → (l.length : Int) = n) ∧ (hl = false → l.length = 0) := by
          unfold Good Fits at hg
          simp at hg
          obtain ⟨⟨_, h1⟩, h2⟩ := hg
          refine ⟨fun e => by simp [e] at h1; exact h1, fun e => by simp [e] at h1; simp [h1], fun e => by simp [e] at h2; exact h2, fun e => by simp [e] at h2; simp [h2]⟩
        have la : a.length ≤ 64 := by cases ha with
          | true => have := hsz.1 rfl; omega
          | false => have := hsz.2.1 rfl; omega
        have ll : l.length ≤ 64 := by cases hl with
          | true => have := hsz.2.2.1 rfl; omega
          | false => have := hsz.2.2.2 rfl; omega
        obtain ⟨wb, h4, k4, x4, vA, vL, rfl, EA, EL⟩ := (filled30_ok (n := n) (ha := ha) (hl := hl) (aA.ext X3) (aL.ext X3) (by omega) (by omega) (fun e => by have := hsz.1 e; omega) (fun e => by have := hsz.2.2.1 e; omega) c0 c1).elim
        have hfc : 0 ≤ fC ha hl a l c ∧ fC ha hl a l c ≤ 255 := by
          unfold fC
          split
          · split
            · exact ⟨c0, c1⟩
            · rename_i e1 e2
              have := aA.lt 0 (by have := hsz.1 e1; omega)
              omega
          · split
            · rename_i e1 e2
              have := aL.lt 0 (by have := hsz.2.2.1 e2; omega)
              omega
            · omega
        obtain ⟨fc, hfcd⟩ : ∃ f, f = fC ha hl a l c := ⟨_, rfl⟩
        obtain ⟨fa', hfad⟩ : ∃ f, f = fA ha hl a l c := ⟨_, rfl⟩
        obtain ⟨fl', hfld⟩ : ∃ f, f = fL ha hl a l c := ⟨_, rfl⟩
        unfold predS
        rw [← hfcd] at k4 hfc
        rw [← hfad] at EA
        rw [← hfld] at EL
        rw [← hfcd, ← hfad, ← hfld, ← hsld, ← hand]
        obtain ⟨h5, hh5⟩ : ∃ g, g = (h4.new (.cells [.int .i64 0, .nilf, .nilf, .int .i64 0] 59 false)).put h4.n (.cells [.int .i64 n, vA, vL, .int .i64 fc] 59 false) := ⟨_, rfl⟩
        have x5 : Ext h4 h5 := by rw [hh5]; exact ((Ext.refl h4).new _).put (Nat.le_refl _) _
        have X5 := (X3.trans x4).trans x5
        have g5 : h5.get h4.n = some (.cells [.int .i64 n, vA, vL, .int .i64 fc] 59 false) := by rw [hh5, get_put_same (by rw [H.n_new]; omega)]
        have w5 : (h4.new (.cells [.int .i64 0, .nilf, .nilf, .int .i64 0] 59 false)).get h4.n = some (.cells [.int .i64 0, .nilf, .nilf, .int .i64 0] 59 false) := get_new_same
        have g5' : h5.get h.n = _ := ((x4.trans x5).get _ (H.get_lt g3)).trans g3
        have EA5 := EA.ext x5
        have EL5 := EL.ext x5
        rw [← hcs] at hh1 g1 g2 g3 g5' k3 k4 hlen ⊢
        have hbad0 := hbad
        cases hs' : sl' with
        | true =>
          rw [hs'] at ka hguard
          have hab := angle_bd mode delta (by rw [← hsld, hs'])
          rw [← hand] at hab
          obtain ⟨w, h6, k6, x6, S⟩ := (direct31_ok (c := fc) (delta := delta) (angle := an) EA5 EL5 n4 n64 hfc.1 hfc.2 hab.2.2.2.2.1 hab.2.2.2.2.2).elim
          simp [bx, ← hh1, bl, fillW, k2, ka, -binK_lss, hguard, rdN_of (o := 0) (n := 5) g2 (by simp [hlen]), rdN_of (o := 0) (n := 5) g3 (by simp [hlen]), List.take_of_length_le, hlen, k3, k4, nw, wrN_of (o := 0) w5, splice, ← hh5, rdN_of (o := 0) (n := 4) g5, k6, zm, ms, show (m : Int) ≤ 140737488355328 by omega, show (m : Int) < 9223372036854775808 by omega, reps_one]
          exact fin14 n4 n64 hm (X5.trans x6) S (by simp) (by simp) (by simp) (by simp) (by simp) (fun en g => by simp)
        | false =>
          rw [hs'] at ka hguard
          by_cases m0 : mode = 0
          · subst m0
            obtain ⟨w, h6, k6, rfl, x6⟩ := (mean32_ok (ha := ha) (hl := hl) (c := c) (aA.ext X5) (aL.ext X5) (by omega) (by omega)).elim
            obtain ⟨h7, hh7⟩ : ∃ g, g = (h6.new (.cells [.int .i64 0] 3 false)).put h6.n (.cells [.int .i64 (meanV a l : Nat)] 3 false) := ⟨_, rfl⟩
            have x7 : Ext h6 h7 := by rw [hh7]; exact ((Ext.refl h6).new _).put (Nat.le_refl _) _
            have g7 : h7.get h6.n = some (.cells [.int .i64 (meanV a l : Nat)] 3 false) := by rw [hh7, get_put_same (by rw [H.n_new]; omega)]
            have S : Samp h7 (.fn (.func 33) [] [.ptr h6.n 0]) (fun _ _ => (meanV a l : Nat)) n := ⟨fun g xg x y _ _ _ _ => by
              rw [cdy_fn]
              show RT _ (KW 33 [.int .i64 x, .int .i64 y, .ptr h6.n 0] g)
              rw [w33, f33, s33]
              simp [rd1_of (show g.get h6.n = _ from (xg.get _ (H.get_lt g7)).trans g7)]
              exact ⟨rfl, Ext.refl _⟩⟩
            rw [← hcs] at k6
            simp [bx, ← hh1, bl, fillW, k2, ka, -binK_lss, hguard, rdN_of (o := 0) (n := 5) g2 (by simp [hlen]), rdN_of (o := 0) (n := 5) g3 (by simp [hlen]), rdN_of (o := 0) (n := 5) g5' (by simp [hlen]), List.take_of_length_le, hlen, k3, k4, nw, wrN_of (o := 0) w5, splice, ← hh5, k6, wr1_of get_new_same, ← hh7, zm, ms, show (m : Int) ≤ 140737488355328 by omega, show (m : Int) < 9223372036854775808 by omega, reps_one]
            exact fin14 n4 n64 hm ((X5.trans x6).trans x7) S (by simp) (by simp) (by simp) (by simp) (by simp) (fun en g => by simp)
          · by_cases m12 : mode = 12
            · subst m12
              have S : Samp h5 (.fn (.func 34) [.agg [.int .i64 n, vA, vL, .int .i64 fc]] []) (fun x y => nearV (fl' y) (fa' x) fc) n := ⟨fun g xg x y q0 q1 q2 q3 => by
                rw [cdy_fn]
                exact paeth34_ok (EA5.ext xg) (EL5.ext xg) hfc.1 hfc.2 q0 (by omega) q2 (by omega)⟩
              simp [bx, ← hh1, bl, fillW, k2, ka, -binK_lss, hguard, rdN_of (o := 0) (n := 5) g2 (by simp [hlen]), rdN_of (o := 0) (n := 5) g3 (by simp [hlen]), List.take_of_length_le, hlen, k3, k4, nw, wrN_of (o := 0) w5, splice, ← hh5, rdN_of (o := 0) (n := 4) g5, zm, ms, show (m : Int) ≤ 140737488355328 by omega, show (m : Int) < 9223372036854775808 by omega, reps_one]
              exact fin14 n4 n64 hm X5 S (by simp) (by simp) (by simp) (by simp) (by simp) (fun en g => by simp)
            · have m3 : mode = 9 ∨ mode = 10 ∨ mode = 11 := by
                rw [hbd] at hbad0
                unfold Bad at hbad0
                rw [← hsld, hs'] at hbad0
                have e1 : ∀ d, (angleOf mode d).2 = decide (1 ≤ mode ∧ mode ≤ 8 ∧ -3 ≤ d ∧ d ≤ 3) := fun d => by
                  unfold angleOf; split
                  · simp; omega
                  · simp; omega
                simp at hbad0
                omega
              obtain ⟨w, h6, k6, x6, S⟩ := (soft35_ok (C := .int .i64 fc) EA5 EL5 n4 n64 m3).elim
              have mm0 : ¬ mode = 12 := m12
              simp only [m0, m12, if_false]
              simp [bx, ← hh1, bl, fillW, k2, ka, -binK_lss, hguard, rdN_of (o := 0) (n := 5) g2 (by simp [hlen]), rdN_of (o := 0) (n := 5) g3 (by simp [hlen]), List.take_of_length_le, hlen, k3, k4, nw, wrN_of (o := 0) w5, splice, ← hh5, rdN_of (o := 0) (n := 4) g5, m0, m12, k6, zm, ms, show (m : Int) ≤ 140737488355328 by omega, show (m : Int) < 9223372036854775808 by omega, reps_one]
              exact fin14 n4 n64 hm (X5.trans x6) S (by simp) (by simp) (by simp) (by simp) (by simp) (fun en g => by simp)
end Go.Proofs.Ytpjcmgmmolediaa
