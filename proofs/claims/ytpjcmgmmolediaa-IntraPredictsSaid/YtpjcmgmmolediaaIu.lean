/- The document's answer: doubled, between, slanted. -/
import Derived.Test.YtpjcmgmmolediaaIt
set_option linter.unusedVariables false
set_option linter.unusedSimpArgs false
namespace Go.Proofs.Ytpjcmgmmolediaa
open Go Go.Zf Go.RowKit

def dbV (L : List Int) (i : Int) : Int :=
  if i % 2 = 0 then rdI L (i / 2) else clipI ((-rdI L (i / 2 - 1) + 9 * rdI L (i / 2) + 9 * rdI L (i / 2 + 1) - rdI L (i / 2 + 2) + 8) / 16) 0 255
def dbF (L : List Int) (j : Nat) : Int := dbV L ((j : Int) - 4)
def dbL (L : List Int) (n : Nat) : List Int := tab (dbF L) (4 * n + 12)

theorem tm2 (i : Int) : i.tmod 2 = 0 ↔ i % 2 = 0 := by
  rw [← Int.dvd_iff_tmod_eq_zero, Int.dvd_iff_emod_eq_zero]

structure I40 (h0 : H) (sv : V) (u : Int) (L : List Int) (n q : Nat) (M : Nat) (j : Nat) (en : E) (g : H) : Prop where
  hj : j ≤ M
  x : ∀ b, b < q → g.get b = h0.get b
  hn : h0.n ≤ g.n
  b : ∃ so, Box q 1 (tab (dbF L) (M - j)) g so
  e1 : en.s [0, 1, 2, 4, 5, 6, 7, 8] 1 = .int .i64 n
  e2 : en.s [0, 1, 2, 4, 5, 6, 7, 8] 2 = .ptr (q - 2) 0
  e4 : en.s [0, 1, 2, 4, 5, 6, 7, 8] 4 = .ptr (q - 1) 0
  e5 : en.s [0, 1, 2, 4, 5, 6, 7, 8] 5 = .ptr q 0
  e6 : en.s [0, 1, 2, 4, 5, 6, 7, 8] 6 = .int .i64 (((M - j : Nat) : Int) - 4)

set_option maxHeartbeats 1600000 in
theorem doubled40_ok {p : Nat} {h : H} {sv : V} {L : List Int} {u : Int} {n : Nat} (G : GrowV p h sv 3 1 (intsV L) L.length) (hL : 4 ≤ L.length) (hL2 : L.length ≤ 1000) (hb : AllB L) (n4 : 4 ≤ n) (n64 : n ≤ 64) :
    RT (fun w h' => Ext h h' ∧ ∃ sv', w = .agg [sv', .int .i64 1] ∧ GrowV h.n h' sv' 3 1 (intsV (dbL L n)) (dbL L n).length) (KW 40 [.agg [sv, .int .i64 u], .int .i64 n] h) := by
  obtain ⟨M, hM⟩ : ∃ M, M = 4 * n + 12 := ⟨_, rfl⟩
  have zz : ∀ n : Int, -100000 ≤ n → n ≤ 100000 → IntKind.i64.wrap n = n := fun n a b => Go.Zf.wi64 (by omega) (by omega)
  have zM : IntKind.i64.wrap (4 * (n : Int)) = 4 * n := zz _ (by omega) (by omega)
  have zM2 : IntKind.i64.wrap (4 * (n : Int) + 8) = (M : Int) - 4 := by rw [zz _ (by omega) (by omega)]; omega
  obtain ⟨h1, hh1⟩ : ∃ g, g = ((h.new (.cells [sv, .int .i64 u] 68 false)).new (.cells [.nils, .int .i64 0] 68 false)) := ⟨_, rfl⟩
  have x1 : Ext h h1 := by rw [hh1]; exact (((Ext.refl h).new _).new _)
  have hn1 : h1.n = h.n + 2 := by rw [hh1]; simp only [H.n_new]
  have g0 : h1.get h.n = some (.cells [sv, .int .i64 u] 68 false) := by rw [hh1, get_new_lt (by rw [H.n_new]; omega), get_new_same]
  have g1 : h1.get (h.n + 1) = some (.cells [.nils, .int .i64 0] 68 false) := by rw [hh1, get_new_eq (by simp only [H.n_new])]
  have G1 := G.ext x1
  have hsame := G.same
  have hund := G.under
  obtain ⟨h3, hh3⟩ : ∃ g, g = (h1.new (.cells [.nils, .int .i64 0] 68 false)).put h1.n (.cells [.nils, .int .i64 1] 68 false) := ⟨_, rfl⟩
  have B3 : Box (h.n + 2) 1 (tab (dbF L) 0) h3 .nils := ⟨by rw [hh3, ← hn1, get_put_same (by rw [H.n_new]; omega)], .inl ⟨rfl, rfl, rfl⟩⟩
  have x13 : ∀ b, b < h.n + 2 → h3.get b = h1.get b := fun b hb => by rw [hh3, get_put_ne (by omega), get_new_lt (by omega)]
  have loop := loop_run (body := l40_0 KW loopZ) (I40 h1 sv u L n (h.n + 2) M) (fun s => s.x = .ex 0 ∧ I40 h1 sv u L n (h.n + 2) M 0 s.e s.h)
    (fun j en g hi => by
      obtain ⟨hj, x, hn, ⟨so, B⟩, e1, e2, e4, e5, e6⟩ := hi
      simp only [Nat.add_sub_cancel] at e2
      cases j with
      | zero =>
        simp [l40_0, e1, zM, zM2, e6]
        exact ⟨rfl, hj, x, hn, ⟨so, B⟩, by simp, by simpa using e2, by simp [e4], by simp [e5], by simp⟩
      | succ j =>
        obtain ⟨k, hk⟩ : ∃ k, k = M - (j + 1) := ⟨_, rfl⟩
        have hk2 : M - j = k + 1 := by omega
        rw [← hk] at e6 B
        obtain ⟨i, hi⟩ : ∃ i : Int, i = (k : Int) - 4 := ⟨_, rfl⟩
        rw [← hi] at e6
        have z3 : IntKind.i64.wrap (i + 1) = i + 1 := zz _ (by omega) (by omega)
        have gE : g.get h.n = some (.cells [sv, .int .i64 u] 68 false) := (x h.n (by omega)).trans g0
        have GE : GrowV p g sv 3 1 (intsV L) L.length := G1.keep fun c o m k e => x c (by have := hund _ _ _ _ e; omega)
        obtain ⟨m, hm⟩ : ∃ m : Int, m = i / 2 := ⟨_, rfl⟩
        obtain ⟨_, ga, a1, rfl, xa⟩ := (at56_ok (u := u) GE (by omega) (by omega) (i := m) (by omega) (by omega)).elim
        have gE1 : ga.get h.n = _ := (xa.get _ (H.get_lt gE)).trans gE
        have Ba := B.ext xa
        have z4 : IntKind.i64.wrap (m - 1) = m - 1 := zz _ (by omega) (by omega)
        have z5 : IntKind.i64.wrap (m + 1) = m + 1 := zz _ (by omega) (by omega)
        have z5' : IntKind.i64.wrap (m + 2) = m + 2 := zz _ (by omega) (by omega)
        by_cases hpar : i % 2 = 0
        · have ht : i.tmod 2 = 0 := (tm2 i).mpr hpar
          have hval : dbF L k = rdI L m := by unfold dbF dbV; rw [← hi, if_pos hpar, hm]
          obtain ⟨v', g1', g2', b1, b2, b3, b4, b5, b6⟩ := Ba.push (rdI L m) (by rw [tab_length]; omega)
          simp [l40_0, e1, zM, zM2, e6, show i < (M : Int) - 4 by omega, ← hm, IntKind.bits, e2, rdN_of (o := 0) (n := 2) gE (by simp), a1, ht, e5, rd1_of Ba.b, bs, fillW, splice, b1, b3, b2, z3]
          refine ⟨j, Nat.lt_succ_self j, by omega, fun b hb => by rw [b5 b hb, xa.get b (by omega), x b hb], by have := xa.n; omega, ⟨v', ?_⟩, by simp [e1], by simp [e2], by simp [e4], by simp [e5], by simp [hk2]; omega⟩
          rw [hk2, tab_succ, hval]; exact b4
        · have ht : ¬ i.tmod 2 = 0 := fun e => hpar ((tm2 i).mp e)
          obtain ⟨_, gb, a2, rfl, xb⟩ := (at56_ok (u := u) (GE.ext xa) (by omega) (by omega) (i := m - 1) (by omega) (by omega)).elim
          obtain ⟨_, gc, a3, rfl, xc⟩ := (at56_ok (u := u) ((GE.ext xa).ext xb) (by omega) (by omega) (i := m) (by omega) (by omega)).elim
          obtain ⟨_, gd, a4, rfl, xd⟩ := (at56_ok (u := u) (((GE.ext xa).ext xb).ext xc) (by omega) (by omega) (i := m + 1) (by omega) (by omega)).elim
          obtain ⟨_, gf, a5, rfl, xf⟩ := (at56_ok (u := u) ((((GE.ext xa).ext xb).ext xc).ext xd) (by omega) (by omega) (i := m + 2) (by omega) (by omega)).elim
          have gE2 : gb.get h.n = _ := (xb.get _ (H.get_lt gE1)).trans gE1
          have gE3 : gc.get h.n = _ := (xc.get _ (H.get_lt gE2)).trans gE2
          have gE4 : gd.get h.n = _ := (xd.get _ (H.get_lt gE3)).trans gE3
          have Bb := (((Ba.ext xb).ext xc).ext xd).ext xf
          have y1 := hb.rd (by omega) (m - 1)
          have y2 := hb.rd (by omega) m
          have y3 := hb.rd (by omega) (m + 1)
          have y4 := hb.rd (by omega) (m + 2)
          have hval : dbF L k = clipI ((-rdI L (m - 1) + 9 * rdI L m + 9 * rdI L (m + 1) - rdI L (m + 2) + 8) / 16) 0 255 := by unfold dbF dbV; rw [← hi, if_neg hpar, hm]
          obtain ⟨r1, hr1⟩ : ∃ r, r = rdI L (m - 1) := ⟨_, rfl⟩
          obtain ⟨r2, hr2⟩ : ∃ r, r = rdI L m := ⟨_, rfl⟩
          obtain ⟨r3, hr3⟩ : ∃ r, r = rdI L (m + 1) := ⟨_, rfl⟩
          obtain ⟨r4, hr4⟩ : ∃ r, r = rdI L (m + 2) := ⟨_, rfl⟩
          rw [← hr1] at a2 y1 hval
          rw [← hr2] at a1 a3 y2 hval
          rw [← hr3] at a4 y3 hval
          rw [← hr4] at a5 y4 hval
          have q1 : IntKind.i64.wrap (-r1) = -r1 := zz _ (by omega) (by omega)
          have q2 : IntKind.i64.wrap (9 * r2) = 9 * r2 := zz _ (by omega) (by omega)
          have q3 : IntKind.i64.wrap (-r1 + 9 * r2) = -r1 + 9 * r2 := zz _ (by omega) (by omega)
          have q4 : IntKind.i64.wrap (9 * r3) = 9 * r3 := zz _ (by omega) (by omega)
          have q5 : IntKind.i64.wrap (-r1 + 9 * r2 + 9 * r3) = -r1 + 9 * r2 + 9 * r3 := zz _ (by omega) (by omega)
          have q6 : IntKind.i64.wrap (-r1 + 9 * r2 + 9 * r3 - r4) = -r1 + 9 * r2 + 9 * r3 - r4 := zz _ (by omega) (by omega)
          have q7 : IntKind.i64.wrap (-r1 + 9 * r2 + 9 * r3 - r4 + 8) = -r1 + 9 * r2 + 9 * r3 - r4 + 8 := zz _ (by omega) (by omega)
          obtain ⟨cv', hcv⟩ : ∃ c, c = clipI ((-r1 + 9 * r2 + 9 * r3 - r4 + 8) / 16) 0 255 := ⟨_, rfl⟩
          have kcl := clip57_ok ((-r1 + 9 * r2 + 9 * r3 - r4 + 8) / 16) 0 255 gf
          rw [← hcv] at hval kcl
          obtain ⟨v', g1', g2', b1, b2, b3, b4, b5, b6⟩ := Bb.push cv' (by rw [tab_length]; omega)
          simp [l40_0, e1, zM, zM2, e6, show i < (M : Int) - 4 by omega, ← hm, IntKind.bits, e2, rdN_of (o := 0) (n := 2) gE (by simp), a1, ht, rdN_of (o := 0) (n := 2) gE1 (by simp), z4, a2, rdN_of (o := 0) (n := 2) gE2 (by simp), a3, rdN_of (o := 0) (n := 2) gE3 (by simp), z5, a4, rdN_of (o := 0) (n := 2) gE4 (by simp), z5', a5,
            q1, q2, q3, q4, q5, q6, q7, kcl, ck, V.same, V.sames, hsame, e5, rd1_of Bb.b, bs, fillW, splice, b1, b3, b2, z3]
          refine ⟨j, Nat.lt_succ_self j, by omega, fun b hb => ?_, by have := xa.n; have := xb.n; have := xc.n; have := xd.n; have := xf.n; omega, ⟨v', ?_⟩, by simp [e1], by simp [e2], by simp [e4], by simp [e5], by simp [hk2]; omega⟩
          · rw [b5 b hb, ((((xa.trans xb).trans xc).trans xd).trans xf).get b (by omega), x b hb]
          · rw [hk2, tab_succ, hval]; exact b4)
  obtain ⟨s, r1, r2, ⟨_, x5, hn5, ⟨so, B5⟩, t1, t2, t4, t5, t6⟩⟩ := loop M ⟨[.agg [sv, .int .i64 u], .int .i64 n, .ptr h.n 0, .ptr (h.n + 1) 0, .ptr (h.n + 2) 0, .int .i64 (-4), .und, .und], 6, .int .i64 (-4)⟩ h3
    ⟨Nat.le_refl _, x13, by rw [hh3, H.n_put, H.n_new]; omega, ⟨.nils, by rw [Nat.sub_self]; exact B3⟩, by simp, by simp, by simp, by simp, by simp⟩
  obtain ⟨x6, e6, h6⟩ := s
  simp only at r2 x5 hn5 B5 t1 t2 t4 t5 t6
  subst r2
  have g16 : h6.get (h.n + 1) = _ := (x5 (h.n + 1) (by omega)).trans g1
  have q6 := B5.b
  obtain ⟨h7, hh7⟩ : ∃ g, g = h6.put (h.n + 1) (.cells [so, .int .i64 1] 68 false) := ⟨_, rfl⟩
  have g7 : h7.get (h.n + 1) = some (.cells [so, .int .i64 1] 68 false) := by rw [hh7, get_put_same (H.get_lt g16)]
  simp only [V_und_tup] at r1
  simp at t4 t5
  rw [← hn1] at r1
  rw [w40, f40, s40]
  simp [bx, nw, H.n_new, ← hh1, bl, fillW, splice, wrN_of (o := 0) get_new_same, ← hh3, r1, t5, t4, rdN_of (o := 0) (n := 2) q6 (by simp), wrN_of (o := 0) g16, ← hh7, resVs68, rdN_of (o := 0) (n := 2) g7 (by simp)]
  refine ⟨⟨by rw [hh7, H.n_put]; have := x1.n; omega, fun b hb => ?_⟩, so, rfl, ?_⟩
  · rw [hh7, get_put_ne (by omega), x5 b (by omega), x1.get b hb]
  · have := B5.s
    rw [Nat.sub_zero, hM] at this
    rw [hh7]
    have := this.put (c := h.n + 1) (y := .cells [so, .int .i64 1] 68 false) (this.fresh.ne (by omega))
    rcases this with h | ⟨b, q1, q2, q3, q4⟩
    · exact .inl h
    · exact .inr ⟨b, q1, q2, q3, by omega⟩

theorem between59_ok {p : Nat} {h : H} {sv : V} {L : List Int} {u : Nat} (G : GrowV p h sv 3 1 (intsV L) L.length) (hL : 0 < L.length) (hL2 : L.length ≤ 1000) (hb : AllB L) (hu : u = 0 ∨ u = 1) {n : Int} (hn : 4 ≤ n) (hn2 : n ≤ 64) {far frm : Int} (f0 : -500000 ≤ far) (f1 : far ≤ 500000) (g0 : 0 ≤ frm) (g1 : frm ≤ 64) :
    RT (fun v' h' => v' = .int .i64 (btw n u (rdI L) far frm) ∧ Ext h h') (KW 59 [.agg [sv, .int .i64 (u : Int)], .int .i64 n, .int .i64 far, .int .i64 frm] h) := by
  have zz : ∀ n : Int, -1000000 ≤ n → n ≤ 1000000 → IntKind.i64.wrap n = n := fun n a b => Go.Zf.wi64 (by omega) (by omega)
  obtain ⟨h1, hh1⟩ : ∃ g, g = h.new (.cells [sv, .int .i64 (u : Int)] 68 false) := ⟨_, rfl⟩
  have x1 : Ext h h1 := by rw [hh1]; exact (Ext.refl h).new _
  have g0' : h1.get h.n = some (.cells [sv, .int .i64 (u : Int)] 68 false) := by rw [hh1, get_new_same]
  have G1 := G.ext x1
  have hsv := G.same
  have z1 : IntKind.i64.wrap (2 * n) = 2 * n := zz _ (by omega) (by omega)
  have z2 : IntKind.i64.wrap (2 * n - 1) = 2 * n - 1 := zz _ (by omega) (by omega)
  have key : ∀ (last at_ s : Int), 0 ≤ last → last ≤ 1000 → -500000 ≤ at_ → at_ ≤ 500000 → 0 ≤ s → s < 32 →
      ∃ w h', Ext h h' ∧ w = (if last ≤ at_ then rdI L last else ((32 - s) * rdI L at_ + s * rdI L (at_ + 1) + 16) / 32) ∧
        (last ≤ at_ → KW 56 [.agg [sv, .int .i64 (u : Int)], .int .i64 last] h1 = some (.ret (.int .i64 w), h')) ∧
        (¬ last ≤ at_ → ∃ y1 y2 k1, KW 56 [.agg [sv, .int .i64 (u : Int)], .int .i64 at_] h1 = some (.ret (.int .i64 y1), k1) ∧ k1.get h.n = some (.cells [sv, .int .i64 (u : Int)] 68 false) ∧ KW 56 [.agg [sv, .int .i64 (u : Int)], .int .i64 (at_ + 1)] k1 = some (.ret (.int .i64 y2), h') ∧ w = ((32 - s) * y1 + s * y2 + 16) / 32 ∧
          0 ≤ (32 - s) * y1 ∧ (32 - s) * y1 ≤ 32 * 255 ∧ 0 ≤ s * y2 ∧ s * y2 ≤ 32 * 255) := by
    intro last at_ s l0 l1 a0 a1 s0 s1
    by_cases hc : last ≤ at_
    · obtain ⟨_, k, k1, rfl, k2⟩ := (at56_ok (u := (u : Int)) G1 hL (by omega) (i := last) (by omega) (by omega)).elim
      exact ⟨rdI L last, k, x1.trans k2, by simp [hc], fun _ => k1, fun h => absurd hc h⟩
    · obtain ⟨_, k, k1, rfl, k2⟩ := (at56_ok (u := (u : Int)) G1 hL (by omega) (i := at_) (by omega) (by omega)).elim
      obtain ⟨_, k', k3, rfl, k4⟩ := (at56_ok (u := (u : Int)) (G1.ext k2) hL (by omega) (i := at_ + 1) (by omega) (by omega)).elim
      have v1 := hb.rd hL at_
      have v2 := hb.rd hL (at_ + 1)
      have m1 := mul_bd (a := 32 - s) (A := 32) (by omega) (by omega) v1.1 v1.2
      have m2 := mul_bd (a := s) (A := 32) (by omega) (by omega) v2.1 v2.2
      exact ⟨_, k', (x1.trans k2).trans k4, rfl, fun h => absurd h hc, fun _ => ⟨_, _, k, k1, by rw [k2.get _ (H.get_lt g0'), g0'], k3, by simp [hc], m1.1, m1.2, m2.1, m2.2⟩⟩
  rcases hu with rfl | rfl
  · have z3 : IntKind.i64.wrap frm = frm := zz _ (by omega) (by omega)
    have z4 : IntKind.i64.wrap (far / 64 + frm) = far / 64 + frm := zz _ (by omega) (by omega)
    have z5 : IntKind.i64.wrap far = far := zz _ (by omega) (by omega)
    have z6 : IntKind.i64.wrap 6 = 6 := zz _ (by omega) (by omega)
    have hand : binK 0 .and (.int .i64 (far / 2)) (.int .i64 31) = some (.int .i64 (far / 2 % 32)) := binK_mask 0 _ 5 (by omega)
    obtain ⟨s, hs⟩ : ∃ s, s = far / 2 % 32 := ⟨_, rfl⟩
    obtain ⟨at_, hat⟩ : ∃ at_, at_ = far / 64 + frm := ⟨_, rfl⟩
    obtain ⟨w, h', x2, hw, c1, c2⟩ := key (2 * n - 1) at_ s (by omega) (by omega) (by omega) (by omega) (by omega) (by omega)
    have hb' : btw n 0 (rdI L) far frm = w := by
      rw [hw]; simp only [btw, bt, if_true, Int.mul_one, hs, hat]
    rw [hb', w59, f59, s59]
    rw [← hs] at hand
    rw [← hat] at z4
    simp only [Int.natCast_zero, Int.cast_ofNat_Int] at hh1 g0' c1 c2
    by_cases hc : 2 * n - 1 ≤ at_
    · simp [bx, ← hh1, rd1_of g0', z1, z2, z3, z4, z5, z6, IntKind.bits, -binK_and, hand, ← hat, hc, rdN_of (o := 0) (n := 2) g0' (by simp), c1 hc]
      exact ⟨rfl, x2⟩
    · obtain ⟨y1, y2, k1, d1, d1', d2, d3, d4, d5, d6, d7⟩ := c2 hc
      have z7 : IntKind.i64.wrap (32 - s) = 32 - s := zz _ (by omega) (by omega)
      have z8 : IntKind.i64.wrap ((32 - s) * y1) = (32 - s) * y1 := zz _ (by omega) (by omega)
      have z9 : IntKind.i64.wrap (at_ + 1) = at_ + 1 := zz _ (by omega) (by omega)
      have z10 : IntKind.i64.wrap (s * y2) = s * y2 := zz _ (by omega) (by omega)
      have z11 : IntKind.i64.wrap ((32 - s) * y1 + s * y2) = (32 - s) * y1 + s * y2 := zz _ (by omega) (by omega)
      have z12 : IntKind.i64.wrap ((32 - s) * y1 + s * y2 + 16) = (32 - s) * y1 + s * y2 + 16 := zz _ (by omega) (by omega)
      simp [bx, ← hh1, rd1_of g0', z1, z2, z3, z4, z5, z6, z7, z8, z9, z10, z11, z12, IntKind.bits, -binK_and, hand, ← hat, hc, rdN_of (o := 0) (n := 2) g0' (by simp), d1, rdN_of (o := 0) (n := 2) d1' (by simp), d2, ck, V.same, V.sames, hsv]
      exact ⟨by rw [d3], x2⟩
  · have z3 : IntKind.i64.wrap (frm * 2) = frm * 2 := zz _ (by omega) (by omega)
    have z4 : IntKind.i64.wrap (far / 32 + frm * 2) = far / 32 + frm * 2 := zz _ (by omega) (by omega)
    have z5 : IntKind.i64.wrap (far * 2) = far * 2 := zz _ (by omega) (by omega)
    have z6 : IntKind.i64.wrap 5 = 5 := zz _ (by omega) (by omega)
    have z0 : IntKind.i64.wrap ((2 * n - 1) * 2) = (2 * n - 1) * 2 := zz _ (by omega) (by omega)
    have hand : binK 0 .and (.int .i64 (far * 2 / 2)) (.int .i64 31) = some (.int .i64 (far * 2 / 2 % 32)) := binK_mask 0 _ 5 (by omega)
    rw [show far * 2 / 2 = far by omega] at hand
    obtain ⟨s, hs⟩ : ∃ s, s = far % 32 := ⟨_, rfl⟩
    obtain ⟨at_, hat⟩ : ∃ at_, at_ = far / 32 + frm * 2 := ⟨_, rfl⟩
    obtain ⟨w, h', x2, hw, c1, c2⟩ := key ((2 * n - 1) * 2) at_ s (by omega) (by omega) (by omega) (by omega) (by omega) (by omega)
    have hb' : btw n 1 (rdI L) far frm = w := by
      rw [hw]; simp only [btw, bt, Nat.one_ne_zero, if_false, hs, hat, show far * 2 / 2 = far by omega]
    rw [hb', w59, f59, s59]
    rw [← hs] at hand
    rw [← hat] at z4
    simp only [Int.natCast_one, Int.cast_ofNat_Int] at hh1 g0' c1 c2
    by_cases hc : (2 * n - 1) * 2 ≤ at_
    · simp [bx, ← hh1, rd1_of g0', z0, z1, z2, z3, z4, z5, z6, IntKind.bits, -binK_and, hand, ← hat, hc, rdN_of (o := 0) (n := 2) g0' (by simp), c1 hc]
      exact ⟨rfl, x2⟩
    · obtain ⟨y1, y2, k1, d1, d1', d2, d3, d4, d5, d6, d7⟩ := c2 hc
      have z7 : IntKind.i64.wrap (32 - s) = 32 - s := zz _ (by omega) (by omega)
      have z8 : IntKind.i64.wrap ((32 - s) * y1) = (32 - s) * y1 := zz _ (by omega) (by omega)
      have z9 : IntKind.i64.wrap (at_ + 1) = at_ + 1 := zz _ (by omega) (by omega)
      have z10 : IntKind.i64.wrap (s * y2) = s * y2 := zz _ (by omega) (by omega)
      have z11 : IntKind.i64.wrap ((32 - s) * y1 + s * y2) = (32 - s) * y1 + s * y2 := zz _ (by omega) (by omega)
      have z12 : IntKind.i64.wrap ((32 - s) * y1 + s * y2 + 16) = (32 - s) * y1 + s * y2 + 16 := zz _ (by omega) (by omega)
      simp [bx, ← hh1, rd1_of g0', z0, z1, z2, z3, z4, z5, z6, z7, z8, z9, z10, z11, z12, IntKind.bits, -binK_and, hand, ← hat, hc, rdN_of (o := 0) (n := 2) g0' (by simp), d1, rdN_of (o := 0) (n := 2) d1' (by simp), d2, ck, V.same, V.sames, hsv]
      exact ⟨by rw [d3], x2⟩
end Go.Proofs.Ytpjcmgmmolediaa
