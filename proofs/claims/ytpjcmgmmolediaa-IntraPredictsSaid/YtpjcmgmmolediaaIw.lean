/- The document's answer: filled. -/
import Derived.Test.YtpjcmgmmolediaaIv
set_option linter.unusedVariables false
set_option linter.unusedSimpArgs false
namespace Go.Proofs.Ytpjcmgmmolediaa
open Go Go.Zf Go.RowKit

theorem ldV65 (h : H) (v : V) : ldV Try.prog 65 h v = ldn 3 h v := by
  cases v <;> first | rfl | kernel_rfl
theorem resVs65 (s : Nat → V) (h : H) (a : Nat) (rs : List ResultVar) : resVs Try.prog s h (.cell a 65 :: rs) = bd (ldn 3 h (s a)) fun v => bd (resVs Try.prog s h rs) fun vs => some (v :: vs) := by
  show bd (ldV Try.prog 65 h (s a)) _ = _
  rw [ldV65]

def faF (ha hl : Bool) (a l : List Nat) (i : Nat) : Int := if ha then (a.getD i 0 : Nat) else if hl then (l.getD 0 0 : Nat) else 127
def flF (ha hl : Bool) (a l : List Nat) (i : Nat) : Int := if hl then (l.getD i 0 : Nat) else if ha then (a.getD 0 0 : Nat) else 129

structure BoxF (q : Nat) (fa fl : List Int) (g : H) (sa sl : V) : Prop where
  b : g.get q = some (.cells [sa, sl, .int .i64 128] 65 false)
  s : GrowV (q + 1) g sa 3 1 (intsV fa) fa.length
  t : GrowV (q + 1) g sl 3 1 (intsV fl) fl.length
  ne : ∀ b o n k o' n' k', sa = .sl b o n k → sl ≠ .sl b o' n' k'

theorem BoxF.push {q : Nat} {fa fl : List Int} {g : H} {sa sl : V} (a : BoxF q fa fl g sa sl) (x y : Int) (h1 : fa.length < 1000) (h2 : fl.length < 1000) :
    ∃ sa' g1 g2 sl' g3 g4, apZ 3 1 8 (g.new (.cells [.int .i64 x] 3 false)) sa (.sl g.n 0 1 (.ex 1)) = some (sa', g1) ∧ g1.wr1 q 0 sa' = some g2 ∧ (∀ h b o, stZ 1 h (.ptr b o) sa' = (h.wr1 b o sa').bind fun h' => some (.und, h')) ∧
      g2.get q = some (.cells [sa', sl, .int .i64 128] 65 false) ∧
      apZ 3 1 8 (g2.new (.cells [.int .i64 y] 3 false)) sl (.sl g2.n 0 1 (.ex 1)) = some (sl', g3) ∧ g3.wr1 q 1 sl' = some g4 ∧ (∀ h b o, stZ 1 h (.ptr b o) sl' = (h.wr1 b o sl').bind fun h' => some (.und, h')) ∧
      BoxF q (fa ++ [x]) (fl ++ [y]) g4 sa' sl' ∧ (∀ c, c < q → g4.get c = g.get c) ∧ g.n ≤ g4.n := by
  have hq := H.get_lt a.b
  obtain ⟨sa', g1, k1, k2, k3, k4⟩ := push1 (bytes := 8) (.int .i64 x) a.s (by omega) (by omega)
  have hb1 : g1.get q = some (.cells [sa, sl, .int .i64 128] 65 false) := by rw [k4 q hq (a.s.fresh.ne (by omega)), a.b]
  have t1 : GrowV (q + 1) g1 sl 3 1 (intsV fl) fl.length := a.t.keep fun c o m k e => k4 c (a.t.under _ _ _ _ e) fun o' n' k' e' => a.ne _ _ _ _ _ _ _ e' e
  obtain ⟨g2, hg2⟩ : ∃ z, z = g1.put q (.cells [sa', sl, .int .i64 128] 65 false) := ⟨_, rfl⟩
  have b2 : g2.get q = some (.cells [sa', sl, .int .i64 128] 65 false) := by rw [hg2, get_put_same (H.get_lt hb1)]
  have s2 : GrowV (q + 1) g2 sa' 3 1 (intsV (fa ++ [x])) (fa.length + 1) := by rw [hg2, intsV_append]; exact k2.put (k2.fresh.ne (by omega))
  have t2 : GrowV (q + 1) g2 sl 3 1 (intsV fl) fl.length := by rw [hg2]; exact t1.put (t1.fresh.ne (by omega))
  have n2 : g2.n = g1.n := by rw [hg2, H.n_put]
  obtain ⟨sl', g3, m1, m2, m3, m4⟩ := push1 (bytes := 8) (.int .i64 y) t2 (by omega) (by omega)
  have hb3 : g3.get q = some (.cells [sa', sl, .int .i64 128] 65 false) := by rw [m4 q (by omega) (t2.fresh.ne (by omega)), b2]
  -- the blocks are apart: the first new one lies from g.n on, and sl lies below
  have apart : ∀ b o n k o' n' k', sa' = .sl b o n k → sl ≠ .sl b o' n' k' := by
    intro b o n k o' n' k' e e'
    have u := a.t.under _ _ _ _ e'
    have f : (sa' = sa ∧ g1 = g.new (.cells [.int .i64 x] 3 false)) ∨ ∀ c o n k, sa' = .sl c o n k → g.n ≤ c := by
      have g1' := a.s.ext ((Ext.refl g).new (.cells [.int .i64 x] 3 false))
      obtain ⟨v2, h2', q1, _, _, _, q5⟩ := apZ_grow (y := .sl g.n 0 1 (.ex 1)) (m := 1) (new := [.int .i64 x]) (bytes := 8) g1' (by rw [H.n_new]; omega) rfl (by
        unfold firstV; simp only [Nat.mul_one]; rw [rdN_of get_new_same (by simp)]; rfl) (by simp) (by omega)
      rw [k1] at q1
      cases q1
      rcases q5 with q5 | q5
      · exact .inl q5
      · right; intro c o n k e; have := q5 c o n k e; rw [H.n_new] at this; omega
    rcases f with ⟨f, _⟩ | f
    · rw [f] at e; exact a.ne _ _ _ _ _ _ _ e e'
    · have := f _ _ _ _ e; omega
  have s3 : GrowV (q + 1) g3 sa' 3 1 (intsV (fa ++ [x])) (fa.length + 1) := s2.keep fun c o m k e => m4 c (s2.under _ _ _ _ e) fun o' n' k' e' => apart _ _ _ _ _ _ _ e e'
  refine ⟨sa', g1, g2, sl', g3, g3.put q (.cells [sa', sl', .int .i64 128] 65 false), k1, by rw [wr1_of hb1 (by simp), hg2]; rfl, k2.stZ, b2, m1, by rw [wr1_of hb3 (by simp)]; rfl, m2.stZ, ⟨by rw [get_put_same (H.get_lt hb3)], ?_, ?_, ?_⟩, fun c hc => ?_, by rw [H.n_put]; omega⟩
  · rw [List.length_append]; exact s3.put (s3.fresh.ne (by omega))
  · rw [List.length_append, intsV_append]; exact m2.put (m2.fresh.ne (by omega))
  · intro b o n k o' n' k' e e'
    have u := s2.under _ _ _ _ e
    have f : (sl' = sl ∧ g3 = g2.new (.cells [.int .i64 y] 3 false)) ∨ ∀ c o n k, sl' = .sl c o n k → g2.n ≤ c := by
      have g1' := t2.ext ((Ext.refl g2).new (.cells [.int .i64 y] 3 false))
      obtain ⟨v2, h2', q1, _, _, _, q5⟩ := apZ_grow (y := .sl g2.n 0 1 (.ex 1)) (m := 1) (new := [.int .i64 y]) (bytes := 8) g1' (by rw [H.n_new]; omega) rfl (by
        unfold firstV; simp only [Nat.mul_one]; rw [rdN_of get_new_same (by simp)]; rfl) (by simp) (by omega)
      rw [m1] at q1
      cases q1
      rcases q5 with q5 | q5
      · exact .inl q5
      · right; intro c o n k e; have := q5 c o n k e; rw [H.n_new] at this; omega
    rcases f with ⟨f, _⟩ | f
    · rw [f] at e'; exact apart _ _ _ _ _ _ _ e e'
    · have := f _ _ _ _ e'; omega
  · rw [get_put_ne (by omega), m4 c (by omega) (t2.fresh.ne (by omega)), hg2, get_put_ne (by omega), k4 c (by omega) (a.s.fresh.ne (by omega))]

structure I37 (ha hl : Bool) (a l : List Nat) (q n : Nat) (h0 : H) (j : Nat) (en : E) (g : H) : Prop where
  hj : j ≤ n
  x : ∀ b, b < q → g.get b = h0.get b
  hn : h0.n ≤ g.n
  b : ∃ sa sl, BoxF q (tab (faF ha hl a l) (n - j)) (tab (flF ha hl a l) (n - j)) g sa sl
  e0 : en.s [0, 1, 3, 4, 5, 6, 7, 8] 0 = .int .i64 n
  e3 : en.s [0, 1, 3, 4, 5, 6, 7, 8] 3 = .ptr (q - 2) 0
  e4 : en.s [0, 1, 3, 4, 5, 6, 7, 8] 4 = .ptr (q - 1) 0
  e5 : en.s [0, 1, 3, 4, 5, 6, 7, 8] 5 = .ptr q 0
  e6 : en.s [0, 1, 3, 4, 5, 6, 7, 8] 6 = .int .i64 ((n - j : Nat) : Int)

set_option maxHeartbeats 3200000 in
theorem filled37_ok {h : H} {n : Nat} {ha hl : Bool} {A L : V} {a l : List Nat} {c : Int} (aA : ByAt h A a) (aL : ByAt h L l) (la : a.length = if ha then n else 0) (ll : l.length = if hl then n else 0) (n4 : 4 ≤ n) (n64 : n ≤ 64) (c0 : 0 ≤ c) (c1 : c ≤ 255) :
    RT (fun w h' => Ext h h' ∧ ∃ sa sl, w = .agg [sa, sl, .int .i64 (fC ha hl a l c)] ∧ GrowV h.n h' sa 3 1 (intsV (tab (faF ha hl a l) n)) n ∧ GrowV h.n h' sl 3 1 (intsV (tab (flF ha hl a l) n)) n) (KW 37 [.int .i64 n, .agg (edges ha hl A L c)] h) := by
  have zz : ∀ n : Int, -1000000 ≤ n → n ≤ 1000000 → IntKind.i64.wrap n = n := fun n a b => Go.Zf.wi64 (by omega) (by omega)
  unfold edges
  obtain ⟨h1, hh1⟩ : ∃ g, g = (h.new (.cells [.bool ha, .bool hl, A, L, .int .u8 c] 25 false)).new (.cells [.nils, .nils, .int .i64 0] 65 false) := ⟨_, rfl⟩
  have x1 : Ext h h1 := by rw [hh1]; exact ((Ext.refl h).new _).new _
  have hn1 : h1.n = h.n + 2 := by rw [hh1]; simp only [H.n_new]
  have g0 : h1.get h.n = some (.cells [.bool ha, .bool hl, A, L, .int .u8 c] 25 false) := by rw [hh1, get_new_lt (by rw [H.n_new]; omega), get_new_same]
  have g1 : h1.get (h.n + 1) = some (.cells [.nils, .nils, .int .i64 0] 65 false) := by rw [hh1, get_new_eq (by rw [H.n_new])]
  obtain ⟨h2, hh2⟩ : ∃ g, g = (h1.new (.cells [.nils, .nils, .int .i64 0] 65 false)).put h1.n (.cells [.nils, .nils, .int .i64 128] 65 false) := ⟨_, rfl⟩
  have x2 : Ext h1 h2 := by rw [hh2]; exact ((Ext.refl h1).new _).put (Nat.le_refl _) _
  have hn2 : h2.n = h.n + 3 := by rw [hh2]; simp only [H.n_put, H.n_new]; omega
  have B2 : BoxF (h.n + 2) [] [] h2 .nils .nils := ⟨by rw [hh2, ← hn1, get_put_same (by rw [H.n_new]; omega)], .inl ⟨rfl, rfl, rfl⟩, .inl ⟨rfl, rfl, rfl⟩, fun b o n k o' n' k' e => by cases e⟩
  have sA := aA.same
  have sL := aL.same
  have loop := loop_run (body := l37_0 KW loopZ) (I37 ha hl a l (h.n + 2) n h1) (fun s => s.x = .ex 0 ∧ I37 ha hl a l (h.n + 2) n h1 0 s.e s.h)
    (fun j en g hi => by
      obtain ⟨hj, x, hn, ⟨sa, sl, B⟩, e0, e3, e4, e5, e6⟩ := hi
      simp only [Nat.add_sub_cancel] at e3
      cases j with
      | zero =>
        simp [l37_0, e0, e6]
        exact ⟨rfl, hj, x, hn, ⟨sa, sl, B⟩, by simp, by simpa using e3, by simp [e4], by simp [e5], by simp⟩
      | succ j =>
        obtain ⟨k, hk⟩ : ∃ k, k = n - (j + 1) := ⟨_, rfl⟩
        have hk2 : n - j = k + 1 := by omega
        rw [← hk] at e6 B
        have z3 : IntKind.i64.wrap ((k : Int) + 1) = k + 1 := zz _ (by omega) (by omega)
        have gE : g.get h.n = some (.cells [.bool ha, .bool hl, A, L, .int .u8 c] 25 false) := (x h.n (by omega)).trans g0
        have rdA : ha = true → ∀ i, i < n → ∃ b o, iaS 1 A (.int .i64 i) = some (.ptr b o) ∧ g.rd1 b o = some (.int .u8 (a.getD i 0 : Nat)) ∧ a.getD i 0 < 256 := fun e i hi => by
          rw [if_pos e] at la
          obtain ⟨b, o, q1, q2, q3⟩ := aA.at_ i (by omega)
          exact ⟨b, o, q1, by rw [← q2]; unfold H.rd1; rw [x b (by omega), x1.get b q3], aA.lt i (by omega)⟩
        have rdL : hl = true → ∀ i, i < n → ∃ b o, iaS 1 L (.int .i64 i) = some (.ptr b o) ∧ g.rd1 b o = some (.int .u8 (l.getD i 0 : Nat)) ∧ l.getD i 0 < 256 := fun e i hi => by
          rw [if_pos e] at ll
          obtain ⟨b, o, q1, q2, q3⟩ := aL.at_ i (by omega)
          exact ⟨b, o, q1, by rw [← q2]; unfold H.rd1; rw [x b (by omega), x1.get b q3], aL.lt i (by omega)⟩
        obtain ⟨v1, hv1⟩ : ∃ v, v = faF ha hl a l k := ⟨_, rfl⟩
        obtain ⟨v2, hv2⟩ : ∃ v, v = flF ha hl a l k := ⟨_, rfl⟩
        obtain ⟨sa', ga, gb, sl', gc, gd, b1, b2, b3, b4, b5, b6, b7, b8, b9, b10⟩ := B.push v1 v2 (by rw [tab_length]; omega) (by rw [tab_length]; omega)
        have Bb := B.b
        have fin : ∀ w : E, w.s [0, 1, 3, 4, 5, 6, 7, 8] 0 = .int .i64 n → w.s [0, 1, 3, 4, 5, 6, 7, 8] 3 = .ptr h.n 0 → w.s [0, 1, 3, 4, 5, 6, 7, 8] 4 = .ptr (h.n + 2 - 1) 0 → w.s [0, 1, 3, 4, 5, 6, 7, 8] 5 = .ptr (h.n + 2) 0 → w.s [0, 1, 3, 4, 5, 6, 7, 8] 6 = .int .i64 ((k : Int) + 1) → ∃ m, m < j + 1 ∧ I37 ha hl a l (h.n + 2) n h1 m w gd := fun w y0 y3 y4 y5 y6 =>
          ⟨j, Nat.lt_succ_self j, by omega, fun b hb => by rw [b9 b hb, x b hb], by omega, ⟨sa', sl', by rw [hk2, tab_succ, tab_succ, ← hv1, ← hv2]; exact b8⟩, y0, by simpa using y3, y4, y5, by rw [y6, hk2]; rfl⟩
        cases hha : ha <;> cases hhl : hl
        · subst hha hhl
          have w1 : v1 = 127 := by rw [hv1]; rfl
          have w2 : v2 = 129 := by rw [hv2]; rfl
          rw [w1] at b1
          rw [w2] at b5
          simp [l37_0, e0, e6, show (k : Int) < n by omega, show k < n by omega, e3, rd1_of gE, gl_t, e5, rd1_of Bb, bs, fillW, splice, b1, b3, b2, rd1_of b4, b5, b7, b6, z3]
          exact fin _ (by simp [e0]) (by simp [e3]) (by simp [e4]) (by simp [e5]) (by simp)
        · subst hha
          obtain ⟨p, o, q1, q2, q3⟩ := rdL hhl k (by omega)
          obtain ⟨p', o', q1', q2', q3'⟩ := rdL hhl 0 (by omega)
          subst hhl
          have w1 : v1 = (l.getD 0 0 : Nat) := by rw [hv1]; rfl
          have w2 : v2 = (l.getD k 0 : Nat) := by rw [hv2]; rfl
          rw [w1] at b1
          rw [w2] at b5
          obtain ⟨y, hy⟩ : ∃ y, y = l.getD k 0 := ⟨_, rfl⟩
          obtain ⟨y', hy'⟩ : ∃ y, y = l.getD 0 0 := ⟨_, rfl⟩
          rw [← hy] at q2 q3 b5
          rw [← hy'] at q2' q3' b1
          simp only [Int.natCast_zero, Int.cast_ofNat_Int] at q1'
          have z4 : IntKind.i64.wrap (y : Int) = y := zz _ (by omega) (by omega)
          have z5 : IntKind.i64.wrap (y' : Int) = y' := zz _ (by omega) (by omega)
          simp [l37_0, e0, e6, show (k : Int) < n by omega, show k < n by omega, e3, rd1_of gE, gl_t, q1, q2, q1', q2', z4, z5, ck, sL, V.same, e5, rd1_of Bb, bs, fillW, splice, b1, b3, b2, rd1_of b4, b5, b7, b6, z3]
          exact fin _ (by simp [e0]) (by simp [e3]) (by simp [e4]) (by simp [e5]) (by simp)
        · subst hhl
          obtain ⟨p, o, q1, q2, q3⟩ := rdA hha k (by omega)
          obtain ⟨p', o', q1', q2', q3'⟩ := rdA hha 0 (by omega)
          subst hha
          have w1 : v1 = (a.getD k 0 : Nat) := by rw [hv1]; rfl
          have w2 : v2 = (a.getD 0 0 : Nat) := by rw [hv2]; rfl
          rw [w1] at b1
          rw [w2] at b5
          obtain ⟨y, hy⟩ : ∃ y, y = a.getD k 0 := ⟨_, rfl⟩
          obtain ⟨y', hy'⟩ : ∃ y, y = a.getD 0 0 := ⟨_, rfl⟩
          rw [← hy] at q2 q3 b1
          rw [← hy'] at q2' q3' b5
          simp only [Int.natCast_zero, Int.cast_ofNat_Int] at q1'
          have z4 : IntKind.i64.wrap (y : Int) = y := zz _ (by omega) (by omega)
          have z5 : IntKind.i64.wrap (y' : Int) = y' := zz _ (by omega) (by omega)
          simp [l37_0, e0, e6, show (k : Int) < n by omega, show k < n by omega, e3, rd1_of gE, gl_t, q1, q2, q1', q2', z4, z5, ck, sA, V.same, e5, rd1_of Bb, bs, fillW, splice, b1, b3, b2, rd1_of b4, b5, b7, b6, z3]
          exact fin _ (by simp [e0]) (by simp [e3]) (by simp [e4]) (by simp [e5]) (by simp)
        · obtain ⟨p, o, q1, q2, q3⟩ := rdA hha k (by omega)
          obtain ⟨p', o', q1', q2', q3'⟩ := rdL hhl k (by omega)
          subst hha hhl
          have w1 : v1 = (a.getD k 0 : Nat) := by rw [hv1]; rfl
          have w2 : v2 = (l.getD k 0 : Nat) := by rw [hv2]; rfl
          rw [w1] at b1
          rw [w2] at b5
          obtain ⟨y, hy⟩ : ∃ y, y = a.getD k 0 := ⟨_, rfl⟩
          obtain ⟨y', hy'⟩ : ∃ y, y = l.getD k 0 := ⟨_, rfl⟩
          rw [← hy] at q2 q3 b1
          rw [← hy'] at q2' q3' b5
          have z4 : IntKind.i64.wrap (y : Int) = y := zz _ (by omega) (by omega)
          have z5 : IntKind.i64.wrap (y' : Int) = y' := zz _ (by omega) (by omega)
          simp [l37_0, e0, e6, show (k : Int) < n by omega, show k < n by omega, e3, rd1_of gE, gl_t, q1, q2, q1', q2', z4, z5, ck, sA, sL, V.same, e5, rd1_of Bb, bs, fillW, splice, b1, b3, b2, rd1_of b4, b5, b7, b6, z3]
          exact fin _ (by simp [e0]) (by simp [e3]) (by simp [e4]) (by simp [e5]) (by simp))
  obtain ⟨s, r1, r2, ⟨_, x5, hn5, ⟨sa, sl, B5⟩, t0, t3, t4, t5, t6⟩⟩ := loop n ⟨[.int .i64 n, .agg [.bool ha, .bool hl, A, L, .int .u8 c], .ptr h.n 0, .ptr (h.n + 1) 0, .ptr (h.n + 2) 0, .int .i64 0, .und, .und], 6, .int .i64 0⟩ h2
    ⟨Nat.le_refl _, fun b hb => x2.get b (by omega), by omega, ⟨.nils, .nils, by rw [Nat.sub_self]; exact B2⟩, by simp, by simp, by simp, by simp, by simp⟩
  obtain ⟨x6, e6, h6⟩ := s
  simp only at r2 x5 hn5 B5 t0 t3 t4 t5 t6
  subst r2
  simp at t3 t4 t5
  simp only [Nat.sub_zero] at B5
  simp only [V_und_tup] at r1
  have g06 : h6.get h.n = _ := (x5 h.n (by omega)).trans g0
  have g16 : h6.get (h.n + 1) = _ := (x5 (h.n + 1) (by omega)).trans g1
  have q6 := B5.b
  have hq6 := H.get_lt q6
  have done : ∀ (C : Int) (h7 : H), h7 = h6.put (h.n + 2) (.cells [sa, sl, .int .i64 C] 65 false) ∨ (h7 = h6 ∧ C = 128) → ∃ h8, h7.rdN (h.n + 2) 0 3 = some [sa, sl, .int .i64 C] ∧ h7.wrN (h.n + 1) 0 [sa, sl, .int .i64 C] = some h8 ∧ h8.rdN (h.n + 1) 0 3 = some [sa, sl, .int .i64 C] ∧
      (Ext h h8 ∧ ∃ sa' sl', V.agg [sa, sl, .int .i64 C] = .agg [sa', sl', .int .i64 C] ∧ GrowV h.n h8 sa' 3 1 (intsV (tab (faF ha hl a l) n)) n ∧ GrowV h.n h8 sl' 3 1 (intsV (tab (flF ha hl a l) n)) n) := by
    intro C h7 hc
    have e7 : h7.get (h.n + 2) = some (.cells [sa, sl, .int .i64 C] 65 false) := by
      rcases hc with rfl | ⟨rfl, rfl⟩
      · exact get_put_same hq6
      · exact q6
    have e7' : h7.get (h.n + 1) = some (.cells [.nils, .nils, .int .i64 0] 65 false) := by
      rcases hc with rfl | ⟨rfl, rfl⟩
      · rw [get_put_ne (by omega)]; exact g16
      · exact g16
    have x7 : ∀ b, b < h.n → h7.get b = h.get b := fun b hb => by
      rcases hc with rfl | ⟨rfl, rfl⟩
      · rw [get_put_ne (by omega), x5 b (by omega), x1.get b hb]
      · rw [x5 b (by omega), x1.get b hb]
    have n7 : h7.n = h6.n := by
      rcases hc with rfl | ⟨rfl, rfl⟩
      · rw [H.n_put]
      · rfl
    have s7 : GrowV (h.n + 3) h7 sa 3 1 (intsV (tab (faF ha hl a l) n)) n := by
      have := B5.s
      rw [tab_length] at this
      rcases hc with rfl | ⟨rfl, rfl⟩
      · exact this.put (this.fresh.ne (by omega))
      · exact this
    have t7 : GrowV (h.n + 3) h7 sl 3 1 (intsV (tab (flF ha hl a l) n)) n := by
      have := B5.t
      rw [tab_length] at this
      rcases hc with rfl | ⟨rfl, rfl⟩
      · exact this.put (this.fresh.ne (by omega))
      · exact this
    refine ⟨h7.put (h.n + 1) (.cells [sa, sl, .int .i64 C] 65 false), by simp [rdN_of (o := 0) (n := 3) e7 (by simp)], by simp [wrN_of (o := 0) (vs := [sa, sl, .int .i64 C]) e7' (by simp), splice], by simp [rdN_of (o := 0) (n := 3) (get_put_same (x := .cells [sa, sl, .int .i64 C] 65 false) (H.get_lt e7')) (by simp)], ⟨by rw [H.n_put, n7]; omega, fun b hb => by rw [get_put_ne (by omega), x7 b hb]⟩, sa, sl, rfl, ?_, ?_⟩
    · rcases s7.put (c := h.n + 1) (y := .cells [sa, sl, .int .i64 C] 65 false) (s7.fresh.ne (by omega)) with h | ⟨b, q1, q2, q3, q4⟩
      · exact .inl h
      · exact .inr ⟨b, q1, q2, q3, by omega⟩
    · rcases t7.put (c := h.n + 1) (y := .cells [sa, sl, .int .i64 C] 65 false) (t7.fresh.ne (by omega)) with h | ⟨b, q1, q2, q3, q4⟩
      · exact .inl h
      · exact .inr ⟨b, q1, q2, q3, by omega⟩
  have zc : IntKind.i64.wrap c = c := zz _ (by omega) (by omega)
  have W0 : (h1.new (.cells [.nils, .nils, .int .i64 0] 65 false)).wrN (h.n + 2) 0 [.nils, .nils, .int .i64 128] = some h2 := by
    rw [← hn1, wrN_of get_new_same (by simp), hh2]; rfl
  rw [w37, f37, s37]
  cases hha : ha <;> cases hhl : hl
  · subst hha hhl
    obtain ⟨h8, d1, d2, d3, d4⟩ := done 128 h6 (.inr ⟨rfl, rfl⟩)
    simp [bx, nw, H.n_new, ← hh1, bl, fillW, splice, hn1, W0, r1, t3, rd1_of g06, gl_t, t5, d1, t4, d2, resVs65, d3]
    exact d4
  · subst hha
    rw [if_pos hhl] at ll
    obtain ⟨p, o, q1, q2, q3⟩ := aL.at_ 0 (by omega)
    have q2' : h6.rd1 p o = some (.int .u8 (l.getD 0 0 : Nat)) := by rw [← q2]; unfold H.rd1; rw [x5 p (by omega), x1.get p q3]
    have hlt := aL.lt 0 (by omega)
    subst hhl
    obtain ⟨y, hy⟩ : ∃ y, y = l.getD 0 0 := ⟨_, rfl⟩
    have hfc : fC false true a l c = y := by unfold fC; rw [hy]; simp
    rw [← hy] at q2' hlt
    have z4 : IntKind.i64.wrap (y : Int) = y := zz _ (by omega) (by omega)
    obtain ⟨h8, d1, d2, d3, d4⟩ := done y (h6.put (h.n + 2) (.cells [sa, sl, .int .i64 y] 65 false)) (.inl rfl)
    simp only [Int.natCast_zero, Int.cast_ofNat_Int] at q1
    rw [hfc]
    simp [bx, nw, H.n_new, ← hh1, bl, fillW, splice, hn1, W0, r1, t3, rd1_of g06, gl_t, q1, q2', z4, t5, wr1_of q6, d1, t4, d2, resVs65, d3]
    exact d4
  · subst hhl
    rw [if_pos hha] at la
    obtain ⟨p, o, q1, q2, q3⟩ := aA.at_ 0 (by omega)
    have q2' : h6.rd1 p o = some (.int .u8 (a.getD 0 0 : Nat)) := by rw [← q2]; unfold H.rd1; rw [x5 p (by omega), x1.get p q3]
    have hlt := aA.lt 0 (by omega)
    subst hha
    obtain ⟨y, hy⟩ : ∃ y, y = a.getD 0 0 := ⟨_, rfl⟩
    have hfc : fC true false a l c = y := by unfold fC; rw [hy]; simp
    rw [← hy] at q2' hlt
    have z4 : IntKind.i64.wrap (y : Int) = y := zz _ (by omega) (by omega)
    obtain ⟨h8, d1, d2, d3, d4⟩ := done y (h6.put (h.n + 2) (.cells [sa, sl, .int .i64 y] 65 false)) (.inl rfl)
    simp only [Int.natCast_zero, Int.cast_ofNat_Int] at q1
    rw [hfc]
    simp [bx, nw, H.n_new, ← hh1, bl, fillW, splice, hn1, W0, r1, t3, rd1_of g06, gl_t, q1, q2', z4, t5, wr1_of q6, d1, t4, d2, resVs65, d3]
    exact d4
  · subst hha hhl
    obtain ⟨h8, d1, d2, d3, d4⟩ := done c (h6.put (h.n + 2) (.cells [sa, sl, .int .i64 c] 65 false)) (.inl rfl)
    simp [bx, nw, H.n_new, ← hh1, bl, fillW, splice, hn1, W0, r1, t3, rd1_of g06, zc, t5, wr1_of q6, d1, t4, d2, resVs65, d3]
    exact d4
end Go.Proofs.Ytpjcmgmmolediaa
