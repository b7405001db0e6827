/- The document's answer: smoothed, doubled. -/
import Derived.Test.YtpjcmgmmolediaaIs
set_option linter.unusedVariables false
set_option linter.unusedSimpArgs false
namespace Go.Proofs.Ytpjcmgmmolediaa
open Go Go.Zf Go.RowKit

def AllB (l : List Int) : Prop := ∀ i, i < l.length → 0 ≤ l.getD i 0 ∧ l.getD i 0 ≤ 255
theorem AllB.rd {l : List Int} (a : AllB l) (h : 0 < l.length) (i : Int) : 0 ≤ rdI l i ∧ rdI l i ≤ 255 := by
  unfold rdI
  have := clipI_bd (x := i + 4) (hi := (l.length : Int) - 1) (by omega)
  exact a _ (by omega)
theorem Box.ext {q : Nat} {u : Int} {l : List Int} {g g' : H} {sv : V} (a : Box q u l g sv) (x : Ext g g') : Box q u l g' sv :=
  ⟨by rw [x.get _ (H.get_lt a.b), a.b], a.s.ext x⟩

def smF (L : List Int) (n : Nat) (i : Nat) : Int :=
  (rdI L (min (i : Int) (2 * n - 1) - 1) + 2 * rdI L (min (i : Int) (2 * n - 1)) + rdI L (min (min (i : Int) (2 * n - 1) + 1) (2 * n - 1)) + 2) / 4
def smL (L : List Int) (n : Nat) : List Int := L.take 4 ++ tab (smF L n) (2 * n + 4)

structure I39 (h0 : H) (sv : V) (u : Int) (L : List Int) (n q : Nat) (M : Nat) (j : Nat) (en : E) (g : H) : Prop where
  hj : j ≤ M
  x : ∀ b, b < q → g.get b = h0.get b
  hn : h0.n ≤ g.n
  b : ∃ so, Box q 0 (L.take 4 ++ tab (smF L n) (M - j)) g so
  e1 : en.s [0, 1, 2, 4, 5, 6, 7] 1 = .int .i64 n
  e2 : en.s [0, 1, 2, 4, 5, 6, 7] 2 = .ptr (q - 2) 0
  e4 : en.s [0, 1, 2, 4, 5, 6, 7] 4 = .ptr (q - 1) 0
  e5 : en.s [0, 1, 2, 4, 5, 6, 7] 5 = .ptr q 0
  e6 : en.s [0, 1, 2, 4, 5, 6, 7] 6 = .int .i64 ((M - j : Nat) : Int)

set_option maxHeartbeats 1000000 in
theorem smoothed39_ok {p : Nat} {h : H} {sv : V} {L : List Int} {u : Int} {n : Nat} (G : GrowV p h sv 3 1 (intsV L) L.length) (hL : 4 ≤ L.length) (hL2 : L.length ≤ 1000) (hb : AllB L) (n4 : 4 ≤ n) (n64 : n ≤ 64) :
    RT (fun w h' => Ext h h' ∧ ∃ sv', w = .agg [sv', .int .i64 0] ∧ GrowV h.n h' sv' 3 1 (intsV (smL L n)) (smL L n).length) (KW 39 [.agg [sv, .int .i64 u], .int .i64 n] h) := by
  obtain ⟨M, hM⟩ : ∃ M, M = 2 * n + 4 := ⟨_, rfl⟩
  have zz : ∀ n : Int, -100000 ≤ n → n ≤ 100000 → IntKind.i64.wrap n = n := fun n a b => Go.Zf.wi64 (by omega) (by omega)
  have zM : IntKind.i64.wrap (2 * (n : Int)) = 2 * n := zz _ (by omega) (by omega)
  have zM2 : IntKind.i64.wrap (2 * (n : Int) + 4) = M := by rw [zz _ (by omega) (by omega)]; omega
  have zM3 : IntKind.i64.wrap (2 * (n : Int) - 1) = 2 * n - 1 := zz _ (by omega) (by omega)
  obtain ⟨h1, hh1⟩ : ∃ g, g = ((h.new (.cells [sv, .int .i64 u] 68 false)).new (.cells [.nils, .int .i64 0] 68 false)).new (.cells [.nils, .int .i64 0] 68 false) := ⟨_, rfl⟩
  have x1 : Ext h h1 := by rw [hh1]; exact (((Ext.refl h).new _).new _).new _
  have hn1 : h1.n = h.n + 3 := by rw [hh1]; simp only [H.n_new]
  have g0 : h1.get h.n = some (.cells [sv, .int .i64 u] 68 false) := by rw [hh1, get_new_lt (by simp only [H.n_new]; omega), get_new_lt (by rw [H.n_new]; omega), get_new_same]
  have g1 : h1.get (h.n + 1) = some (.cells [.nils, .int .i64 0] 68 false) := by rw [hh1, get_new_lt (by simp only [H.n_new]; omega), get_new_eq (by simp only [H.n_new])]
  have g2 : h1.get (h.n + 2) = some (.cells [.nils, .int .i64 0] 68 false) := by rw [hh1, get_new_eq (by simp only [H.n_new])]
  have G1 := G.ext x1
  obtain ⟨b, rfl, hbb, hbl, hbp⟩ : ∃ b, sv = .sl b 0 L.length (.op 1) ∧ h1.get b = some (.cells (intsV L) 3 false) ∧ (intsV L).length = L.length * 1 ∧ p ≤ b := by
    rcases G1 with ⟨_, h0, _⟩ | h
    · omega
    · exact h
  have hblt : b < h.n := by
    rcases G with ⟨_, h0, _⟩ | ⟨b', e1, e2, _⟩
    · omega
    · cases e1; exact H.get_lt e2
  have hsl : slS 1 (.sl b 0 L.length (.op 1)) none (some (.int .i64 4)) none = some (.sl b 0 4 (.op 1)) := by
    simp [slS, optB, sbV, show (4 : Int) ≤ L.length by omega, hL]
  have hf : firstV h1 1 4 (.sl b 0 4 (.op 1)) = some (intsV (L.take 4)) := by
    unfold firstV; simp only [Nat.mul_one]; rw [rdN_of hbb (by rw [intsV_length]; omega)]; simp [intsV, List.map_take]
  obtain ⟨v2, h2, k2, G2, n2, f2, s2⟩ := apZ_grow (p := h.n + 3) (e := 3) (z := 1) (bytes := 8) (h := h1) (v := .nils) (n := 0) (cs := []) (y := .sl b 0 4 (.op 1)) (m := 4) (GrowV.nil _ _ _ _) (by omega) rfl hf (by rw [intsV_length, List.length_take]; omega) (by omega)
  have x2 : Ext h1 h2 := ⟨n2, fun c hc => f2 c hc (fun o n k e => by cases e)⟩
  have g2' : h2.get (h.n + 2) = _ := (x2.get _ (H.get_lt g2)).trans g2
  have g1' : h2.get (h.n + 1) = _ := (x2.get _ (H.get_lt g1)).trans g1
  have g0' : h2.get h.n = _ := (x2.get _ (H.get_lt g0)).trans g0
  have SV2 := G2.stZ
  obtain ⟨h3, hh3⟩ : ∃ g, g = h2.put (h.n + 2) (.cells [v2, .int .i64 0] 68 false) := ⟨_, rfl⟩
  have B3 : Box (h.n + 2) 0 (L.take 4 ++ tab (smF L n) 0) h3 v2 := ⟨by rw [hh3, get_put_same (H.get_lt g2')], by
    have := G2.put (c := h.n + 2) (y := .cells [v2, .int .i64 0] 68 false) (G2.fresh.ne (by omega))
    rw [hh3]
    simp only [List.nil_append, Nat.zero_add] at this
    simpa [tab, show min 4 L.length = 4 by omega] using this⟩
  have x13 : ∀ b, b < h.n + 2 → h3.get b = h1.get b := fun b hb => by rw [hh3, get_put_ne (by omega), x2.get b (by omega)]
  have loop := loop_run (body := l39_0 KW loopZ) (I39 h1 (.sl b 0 L.length (.op 1)) u L n (h.n + 2) M) (fun s => s.x = .ex 0 ∧ I39 h1 (.sl b 0 L.length (.op 1)) u L n (h.n + 2) M 0 s.e s.h)
    (fun j en g hi => by
      obtain ⟨hj, x, hn, ⟨so, B⟩, e1, e2, e4, e5, e6⟩ := hi
      simp only [Nat.add_sub_cancel] at e2
      cases j with
      | zero =>
        simp [l39_0, e1, zM, zM2, e6]
        exact ⟨rfl, hj, x, hn, ⟨so, B⟩, by simp, by simpa using e2, by simp [e4], by simp [e5], by simp⟩
      | succ j =>
        obtain ⟨k, hk⟩ : ∃ k, k = M - (j + 1) := ⟨_, rfl⟩
        have hk2 : M - j = k + 1 := by omega
        rw [← hk] at e6 B
        have z3 : IntKind.i64.wrap ((k : Int) + 1) = k + 1 := zz _ (by omega) (by omega)
        have gE : g.get h.n = some (.cells [.sl b 0 L.length (.op 1), .int .i64 u] 68 false) := (x h.n (by omega)).trans g0
        have GE : GrowV p g (.sl b 0 L.length (.op 1)) 3 1 (intsV L) L.length := .inr ⟨b, rfl, by rw [x b (by omega), hbb], hbl, hbp⟩
        obtain ⟨m, hm⟩ : ∃ m : Int, m = min (k : Int) (2 * n - 1) := ⟨_, rfl⟩
        obtain ⟨m2, hm2⟩ : ∃ m2 : Int, m2 = min (m + 1) (2 * n - 1) := ⟨_, rfl⟩
        have c1 : (if 2 * (n : Int) - 1 < (k : Int) then 2 * (n : Int) - 1 else (k : Int)) = m := by omega
        have c2 : (if 2 * (n : Int) - 1 < m + 1 then 2 * (n : Int) - 1 else m + 1) = m2 := by omega
        have z4 : IntKind.i64.wrap (m - 1) = m - 1 := zz _ (by omega) (by omega)
        have z5 : IntKind.i64.wrap (m + 1) = m + 1 := zz _ (by omega) (by omega)
        obtain ⟨_, ga, a1, rfl, xa⟩ := (at56_ok (u := u) GE (by omega) (by omega) (i := m - 1) (by omega) (by omega)).elim
        obtain ⟨_, gb, a2, rfl, xb⟩ := (at56_ok (u := u) (GE.ext xa) (by omega) (by omega) (i := m) (by omega) (by omega)).elim
        obtain ⟨_, gc, a3, rfl, xc⟩ := (at56_ok (u := u) ((GE.ext xa).ext xb) (by omega) (by omega) (i := m2) (by omega) (by omega)).elim
        have gE1 : ga.get h.n = _ := (xa.get _ (H.get_lt gE)).trans gE
        have gE2 : gb.get h.n = _ := (xb.get _ (H.get_lt gE1)).trans gE1
        have Ba := B.ext xa
        have Bb := Ba.ext xb
        have Bc := Bb.ext xc
        have y1 := hb.rd (by omega) (m - 1)
        have y2 := hb.rd (by omega) m
        have y3 := hb.rd (by omega) m2
        have hval : smF L n k = (rdI L (m - 1) + 2 * rdI L m + rdI L m2 + 2) / 4 := by unfold smF; rw [hm2, hm]
        obtain ⟨r1, hr1⟩ : ∃ r, r = rdI L (m - 1) := ⟨_, rfl⟩
        obtain ⟨r2, hr2⟩ : ∃ r, r = rdI L m := ⟨_, rfl⟩
        obtain ⟨r3, hr3⟩ : ∃ r, r = rdI L m2 := ⟨_, rfl⟩
        rw [← hr1] at a1 y1 hval
        rw [← hr2] at a2 y2 hval
        rw [← hr3] at a3 y3 hval
        have z6 : IntKind.i64.wrap (2 * r2) = 2 * r2 := zz _ (by omega) (by omega)
        have z7 : IntKind.i64.wrap (r1 + 2 * r2) = r1 + 2 * r2 := zz _ (by omega) (by omega)
        have z8 : IntKind.i64.wrap (r1 + 2 * r2 + r3) = r1 + 2 * r2 + r3 := zz _ (by omega) (by omega)
        have z9 : IntKind.i64.wrap (r1 + 2 * r2 + r3 + 2) = r1 + 2 * r2 + r3 + 2 := zz _ (by omega) (by omega)
        obtain ⟨v', g1', g2', b1, b2, b3, b4, b5, b6⟩ := Bc.push ((r1 + 2 * r2 + r3 + 2) / 4) (by simp [tab_length]; omega)
        have hsv := B.s.same
        simp [l39_0, e1, zM, zM2, e6, show (k : Int) < M by omega, show k < M by omega, zM3, c1, e2, rdN_of (o := 0) (n := 2) gE (by simp), z4, a1, rdN_of (o := 0) (n := 2) gE1 (by simp), a2, rdN_of (o := 0) (n := 2) gE2 (by simp), z5, c2, a3, e5, rd1_of Bc.b, z6, z7, z8, z9, IntKind.bits, bs, fillW, splice, b1, b3, b2,
          ck, rd1_of B.b, rd1_of Ba.b, rd1_of Bb.b, hsv, V.same, V.sames, z3]
        refine ⟨j, Nat.lt_succ_self j, by omega, fun b hb => by rw [b5 b hb, xc.get b (by have := xa.n; have := xb.n; omega), xb.get b (by have := xa.n; omega), xa.get b (by omega), x b hb], by have := xa.n; have := xb.n; have := xc.n; omega, ⟨v', ?_⟩, by simp [e1], by simp [e2], by simp [e4], by simp [e5], by simp [hk2]⟩
        rw [hk2, tab_succ, ← List.append_assoc, hval]; exact b4)
  obtain ⟨s, r1, r2, ⟨_, x5, hn5, ⟨so, B5⟩, t1, t2, t4, t5, t6⟩⟩ := loop M ⟨[.agg [.sl b 0 L.length (.op 1), .int .i64 u], .int .i64 n, .ptr h.n 0, .ptr (h.n + 1) 0, .ptr (h.n + 2) 0, .int .i64 0, .und], 6, .int .i64 0⟩ h3
    ⟨Nat.le_refl _, x13, by rw [hh3, H.n_put]; exact n2, ⟨v2, by rw [Nat.sub_self]; exact B3⟩, by simp, by simp, by simp, by simp, by simp⟩
  obtain ⟨x6, e6, h6⟩ := s
  simp only at r2 x5 hn5 B5 t1 t2 t4 t5 t6
  subst r2
  have g16 : h6.get (h.n + 1) = _ := (x5 (h.n + 1) (by omega)).trans g1
  have q6 := B5.b
  obtain ⟨h7, hh7⟩ : ∃ g, g = h6.put (h.n + 1) (.cells [so, .int .i64 0] 68 false) := ⟨_, rfl⟩
  have g7 : h7.get (h.n + 1) = some (.cells [so, .int .i64 0] 68 false) := by rw [hh7, get_put_same (H.get_lt g16)]
  simp only [V_und_tup] at r1
  simp at t4 t5
  rw [w39, f39, s39]
  simp [bx, nw, H.n_new, ← hh1, rd1_of g2, rd1_of g0, hsl, k2, SV2, wr1_of g2', ck, V.same, ← hh3, r1, t5, t4, rdN_of (o := 0) (n := 2) q6 (by simp), wrN_of (o := 0) g16, splice, ← hh7, resVs68, rdN_of (o := 0) (n := 2) g7 (by simp)]
  refine ⟨⟨by rw [hh7, H.n_put]; have := x1.n; omega, fun b hb => ?_⟩, so, rfl, ?_⟩
  · rw [hh7, get_put_ne (by omega), x5 b (by omega), x1.get b hb]
  · have := B5.s
    rw [Nat.sub_zero, hM] at this
    rw [hh7]
    have := this.put (c := h.n + 1) (y := .cells [so, .int .i64 0] 68 false) (this.fresh.ne (by omega))
    rcases this with h | ⟨b, q1, q2, q3, q4⟩
    · exact .inl h
    · exact .inr ⟨b, q1, q2, q3, by omega⟩
end Go.Proofs.Ytpjcmgmmolediaa
