/- IntraReads: the law. -/
import Derived.Test.YtpjcmgmmolediaaIp
set_option linter.unusedVariables false
set_option linter.unusedSimpArgs false
namespace Go.Proofs.Ytpjcmgmmolediaa
open Go Go.Zf Go.RowKit Go.WideShapes

theorem fitL_length (has : Bool) (a : List Nat) (nn : Nat) : (fitL has a nn).length = if has then nn else 0 := by
  cases has
  · rfl
  · exact strL_length a nn

set_option maxHeartbeats 3200000 in
theorem reads9_ok {h : H} {w : Int} {v : Nat} {ha hl : Bool} {A L : V} {a l : List Nat} {c : Nat} (aA : ByAt h A a) (aL : ByAt h L l) (la : a.length < 9223372036854775808) (ll : l.length < 9223372036854775808) (hc : c < 256) (hv : v < 256) (w0 : -9223372036854775808 ≤ w) (w1 : w < 9223372036854775808) :
    RT (fun r h' => r = .bool true) (KW 9 [.agg (edges ha hl A L c), .int .i64 w, .int .u8 (v : Nat)] h) := by
  obtain ⟨h1, hh1⟩ : ∃ g, g = h.new (.cells (edges ha hl A L c) 25 false) := ⟨_, rfl⟩
  have x1 : Ext h h1 := by rw [hh1]; exact (Ext.refl h).new _
  have g1 : h1.get h.n = some (.cells (edges ha hl A L c) 25 false) := by rw [hh1, get_new_same]
  obtain ⟨cs, hcs⟩ : ∃ cs, cs = [V.int .i64 4, .int .i64 8, .int .i64 16] := ⟨_, rfl⟩
  obtain ⟨h2, hh2⟩ : ∃ g, g = h1.new (.cells cs 3 false) := ⟨_, rfl⟩
  have x2 : Ext h1 h2 := by rw [hh2]; exact (Ext.refl h1).new _
  have g2 : h2.get h1.n = some (.cells cs 3 false) := by rw [hh2, get_new_same]
  have g1' : h2.get h.n = _ := (x2.get _ (H.get_lt g1)).trans g1
  obtain ⟨r, hr, kb⟩ := bring18_ok w 3 h2 (by omega) (by omega) w0 w1
  obtain ⟨nn, hnn, hz⟩ := sizes3 r (by omega)
  obtain ⟨n4, n64, n0⟩ := sz_even hz
  rw [← hcs] at hnn
  obtain ⟨w', h4, k4, x4, A', L', rfl, bA, bL, fA', fL'⟩ := (fitting19_ok (ha := ha) (hl := hl) (c := (c : Int)) (aA.ext (x1.trans x2)) (aL.ext (x1.trans x2)) la ll (m := nn) (by omega)).elim
  have g4 : h4.get h.n = _ := (x4.get _ (H.get_lt g1')).trans g1'
  obtain ⟨h5, hh5⟩ : ∃ g, g = h4.put h.n (.cells (edges ha hl A' L' c) 25 false) := ⟨_, rfl⟩
  have g5 : h5.get h.n = some (.cells (edges ha hl A' L' c) 25 false) := by rw [hh5, get_put_same (H.get_lt g4)]
  have hn2 := H.get_lt g1'
  have bA5 : ByAt h5 A' (fitL ha a nn) := by rw [hh5]; exact bA.put _ (fA'.ne hn2)
  have bL5 : ByAt h5 L' (fitL hl l nn) := by rw [hh5]; exact bL.put _ (fL'.ne hn2)
  have lA := fitL_length ha a nn
  have lL := fitL_length hl l nn
  have bigA : (fitL ha a nn).length ≤ 64 := by rw [lA]; split <;> omega
  have bigL : (fitL hl l nn).length ≤ 64 := by rw [lL]; split <;> omega
  obtain ⟨a1, ha1⟩ : ∃ x, x = fitL ha a nn := ⟨_, rfl⟩
  obtain ⟨l1, hl1⟩ : ∃ x, x = fitL hl l nn := ⟨_, rfl⟩
  rw [← ha1] at bA5 lA bigA
  rw [← hl1] at bL5 lL bigL
  obtain ⟨_, h6, k6, x6, A2, L2, rfl, GA, GL, hdist⟩ := (copied11_ok (ha := ha) (hl := hl) (c := (c : Int)) bA5 bL5 (by omega) (by omega)).elim
  obtain ⟨h7, hh7⟩ : ∃ g, g = (h6.new (.cells [.bool false, .bool false, .nils, .nils, .int .u8 0] 25 false)).put h6.n (.cells (edges ha hl A2 L2 c) 25 false) := ⟨_, rfl⟩
  have x7 : Ext h6 h7 := by rw [hh7]; exact ((Ext.refl h6).new _).put (Nat.le_refl _) _
  have g7 : h7.get h6.n = some (.cells (edges ha hl A2 L2 c) 25 false) := by rw [hh7, get_put_same (by rw [H.n_new]; omega)]
  obtain ⟨c2, hc2, hc2'⟩ := u8_ex ((c : Int) + (v : Int))
  obtain ⟨h8, hh8⟩ : ∃ g, g = h7.put h6.n (.cells (edges ha hl A2 L2 c2) 25 false) := ⟨_, rfl⟩
  have g8 : h8.get h6.n = some (.cells (edges ha hl A2 L2 c2) 25 false) := by rw [hh8, get_put_same (H.get_lt g7)]
  have x8 : Ext h6 h8 := by rw [hh8]; exact x7.put (Nat.le_refl _) _
  have X8 := x6.trans x8
  have g5_8 : h8.get h.n = _ := (X8.get _ (H.get_lt g5)).trans g5
  have g5_7 : h7.get h.n = _ := ((x6.trans x7).get _ (H.get_lt g5)).trans g5
  have GA8 := GA.ext x8
  have GL8 := GL.ext x8
  have e9 : Ed9 h8 h.n h6.n ha hl A' L' A2 L2 a1 l1 a1 l1 c c2 nn := ⟨g5_8, g8, bA5.ext X8, bL5.ext X8, GA8.by bA5.lt, GL8.by bL5.lt, hc, hc2', lA, lL, lA, lL⟩
  obtain ⟨en1, h9, r1, ⟨_, x9, s2, s3, s7, s8, s9⟩⟩ := loop9_0 (v := .int .u8 (v : Nat)) e9 hz
    ⟨[.agg (edges ha hl A L c), .int .i64 w, .int .u8 (v : Nat), .ptr h.n 0, .bool false, .int .i64 nn, .ptr h6.n 0, .int .i64 0, .und, .und, .und, .und, .und, .und, .und, .und, .und, .und, .und], 9, .int .i64 0⟩ h8 ⟨by omega, Ext.refl _, by simp, by simp, by simp, by simp, by simp⟩
  have e9' := e9.ext x9
  have GA9 := GA8.ext x9
  have GL9 := GL8.ext x9
  have hq6L : ∀ o n k, L2 ≠ .sl h6.n o n k := fun o n k e => by have := GL.under _ _ _ _ e; omega
  have hq6A : ∀ o n k, A2 ≠ .sl h6.n o n k := fun o n k e => by have := GA.under _ _ _ _ e; omega
  obtain ⟨en2, h10, l2, r2, ll2, lt2, GL10, n10, f10, t2, t3, t7, t8⟩ := loop9_1 (v := v) (nn := nn) (q1 := h.n) e9'.g2 GL9 rfl bL5.lt bigL hq6L
    ⟨[en1.s [0, 1, 2, 3, 6, 7, 8, 9, 10, 11, 12, 13, 14, 15, 16, 17, 18, 19, 20] 0, en1.s [0, 1, 2, 3, 6, 7, 8, 9, 10, 11, 12, 13, 14, 15, 16, 17, 18, 19, 20] 1, .int .u8 (v : Nat), .ptr h.n 0, en1.s [0, 1, 2, 3, 6, 7, 8, 9, 10, 11, 12, 13, 14, 15, 16, 17, 18, 19, 20] 6, .int .i64 nn, .ptr h6.n 0, en1.s [0, 1, 2, 3, 6, 7, 8, 9, 10, 11, 12, 13, 14, 15, 16, 17, 18, 19, 20] 9, en1.s [0, 1, 2, 3, 6, 7, 8, 9, 10, 11, 12, 13, 14, 15, 16, 17, 18, 19, 20] 10, en1.s [0, 1, 2, 3, 6, 7, 8, 9, 10, 11, 12, 13, 14, 15, 16, 17, 18, 19, 20] 11, en1.s [0, 1, 2, 3, 6, 7, 8, 9, 10, 11, 12, 13, 14, 15, 16, 17, 18, 19, 20] 12, en1.s [0, 1, 2, 3, 6, 7, 8, 9, 10, 11, 12, 13, 14, 15, 16, 17, 18, 19, 20] 13, en1.s [0, 1, 2, 3, 6, 7, 8, 9, 10, 11, 12, 13, 14, 15, 16, 17, 18, 19, 20] 14, .int .i64 0, en1.s [0, 1, 2, 3, 6, 7, 8, 9, 10, 11, 12, 13, 14, 15, 16, 17, 18, 19, 20] 16, en1.s [0, 1, 2, 3, 6, 7, 8, 9, 10, 11, 12, 13, 14, 15, 16, 17, 18, 19, 20] 17, en1.s [0, 1, 2, 3, 6, 7, 8, 9, 10, 11, 12, 13, 14, 15, 16, 17, 18, 19, 20] 18, en1.s [0, 1, 2, 3, 6, 7, 8, 9, 10, 11, 12, 13, 14, 15, 16, 17, 18, 19, 20] 19, en1.s [0, 1, 2, 3, 6, 7, 8, 9, 10, 11, 12, 13, 14, 15, 16, 17, 18, 19, 20] 20], 15, .int .i64 0⟩ (by simp) (by simp) (by simp) (by simp) (by simp)
  have X59 := X8.trans x9
  have X510 : Ext h5 h10 := ⟨by rw [n10]; exact X59.n, fun i hi => by rw [f10 i (GL9.fresh.ne hi), X59.get i hi]⟩
  have GA10 : GrowV h5.n h10 A2 5 1 (bytesV a1) a1.length := GA9.keep fun b o n k e => f10 b fun o' n' k' e' => hdist _ _ _ _ _ _ _ e e'
  have g10 : h10.get h6.n = some (.cells (edges ha hl A2 L2 c2) 25 false) := by rw [f10 _ hq6L, e9'.g2]
  have g5_10 : h10.get h.n = _ := (X510.get _ (H.get_lt g5)).trans g5
  have badV : Bad 1 0 = false := by decide
  have badH : Bad 2 0 = false := by decide
  obtain ⟨_, h11, k11, x11, b1, m, hm, rfl, hb1, q11⟩ := (pred_fit2 (mode := 1) (delta := 0) (bA5.ext X510) (bL5.ext X510) lA lL (c := c) (by omega) (by omega) hz badV).elim
  obtain ⟨_, h12, k12, x12, b2, m2, hm2, rfl, hb2, q12⟩ := (pred_fit2 (mode := 1) (delta := 0) ((GA10.by bA5.lt).ext x11) ((GL10.by lt2).ext x11) lA (by rw [ll2]; exact lL) (c := c2) (by omega) (by omega) hz badV).elim
  have : m2 = m := by omega
  subst this
  have hmb : (m2 : Int) ≤ 64 * 64 := by rw [hm]; exact (mul_bd (by omega) (by omega) (by omega) (by omega)).2
  have q11' : h12.get b1 = _ := (x12.get _ (H.get_lt q11)).trans q11
  have kE1 : ha = true → KW 16 [.sl b1 0 m2 (.ex m2), .sl b2 0 m2 (.ex m2)] h12 = some (.ret (.bool true), h12) := fun e => by
    have B1 := pred_by q11'
    have B2 := pred_by q12
    rw [bytes_eq (s' := predS nn 1 0 ha hl a1 l2 c2) (by omega) (fun x y x0 y0 => reads_V e x0)] at B1
    exact eq16_ok B1 B2 (by simp; omega)
  have g11 : h11.get h6.n = _ := (x11.get _ (H.get_lt g10)).trans g10
  have g12 : h12.get h6.n = _ := (x12.get _ (H.get_lt g11)).trans g11
  have g5_12 : h12.get h.n = _ := ((x11.trans x12).get _ (H.get_lt g5_10)).trans g5_10
  have GA12 := GA10.ext (x11.trans x12)
  obtain ⟨en3, h13, a2, r3, la2, lta2, GA13, n13, f13, u2, u3, u7, u8⟩ := loop9_2 (v := v) (nn := nn) (q1 := h.n) g12 GA12 rfl bA5.lt bigA hq6A
    ⟨[en2.s [0, 1, 2, 3, 6, 7, 8, 9, 10, 11, 12, 13, 14, 15, 16, 17, 18, 19, 20] 0, en2.s [0, 1, 2, 3, 6, 7, 8, 9, 10, 11, 12, 13, 14, 15, 16, 17, 18, 19, 20] 1, .int .u8 (v : Nat), .ptr h.n 0, en2.s [0, 1, 2, 3, 6, 7, 8, 9, 10, 11, 12, 13, 14, 15, 16, 17, 18, 19, 20] 6, .int .i64 nn, .ptr h6.n 0, en2.s [0, 1, 2, 3, 6, 7, 8, 9, 10, 11, 12, 13, 14, 15, 16, 17, 18, 19, 20] 9, en2.s [0, 1, 2, 3, 6, 7, 8, 9, 10, 11, 12, 13, 14, 15, 16, 17, 18, 19, 20] 10, en2.s [0, 1, 2, 3, 6, 7, 8, 9, 10, 11, 12, 13, 14, 15, 16, 17, 18, 19, 20] 11, en2.s [0, 1, 2, 3, 6, 7, 8, 9, 10, 11, 12, 13, 14, 15, 16, 17, 18, 19, 20] 12, en2.s [0, 1, 2, 3, 6, 7, 8, 9, 10, 11, 12, 13, 14, 15, 16, 17, 18, 19, 20] 13, en2.s [0, 1, 2, 3, 6, 7, 8, 9, 10, 11, 12, 13, 14, 15, 16, 17, 18, 19, 20] 14, en2.s [0, 1, 2, 3, 6, 7, 8, 9, 10, 11, 12, 13, 14, 15, 16, 17, 18, 19, 20] 15, .sl b1 0 m2 (.ex m2), .int .i64 0, .sl b2 0 m2 (.ex m2), .int .i64 0, .int .i64 0], 20, .int .i64 0⟩ (by simp) (by simp) (by simp) (by simp) (by simp)
  have X512 := X510.trans (x11.trans x12)
  have X513 : Ext h5 h13 := ⟨by rw [n13]; exact X512.n, fun i hi => by rw [f13 i (GA12.fresh.ne hi), X512.get i hi]⟩
  have g13 : h13.get h6.n = some (.cells (edges ha hl A2 L2 c2) 25 false) := by rw [f13 _ hq6A, g12]
  have g5_13 : h13.get h.n = _ := (X513.get _ (H.get_lt g5)).trans g5
  obtain ⟨L3, h14, k14, x14, GL3⟩ := (copy25_ok (bL5.ext X513) (by omega)).elim
  have g14 : h14.get h6.n = _ := (x14.get _ (H.get_lt g13)).trans g13
  have g5_14 : h14.get h.n = _ := (x14.get _ (H.get_lt g5_13)).trans g5_13
  have h6lt := H.get_lt g13
  obtain ⟨h15, hh15⟩ : ∃ g, g = h14.put h6.n (.cells (edges ha hl A2 L3 c2) 25 false) := ⟨_, rfl⟩
  have g15 : h15.get h6.n = some (.cells (edges ha hl A2 L3 c2) 25 false) := by rw [hh15, get_put_same (H.get_lt g14)]
  have n6 := x6.n
  have X515 : Ext h5 h15 := by rw [hh15]; exact (X513.trans x14).put n6 _
  have g5_15 : h15.get h.n = _ := (X515.get _ (H.get_lt g5)).trans g5
  have GA15 : GrowV h5.n h15 A2 5 1 (bytesV a2) a1.length := by rw [hh15]; exact (GA13.ext x14).put hq6A
  have GL15 : GrowV h13.n h15 L3 5 1 (bytesV l1) l1.length := by rw [hh15]; exact GL3.put (GL3.fresh.ne h6lt)
  obtain ⟨_, h16, k16, x16, b3, m3, hm3, rfl, hb3, q16⟩ := (pred_fit2 (mode := 2) (delta := 0) (bA5.ext X515) (bL5.ext X515) lA lL (c := c) (by omega) (by omega) hz badH).elim
  obtain ⟨_, h17, k17, x17, b4, m4, hm4, rfl, hb4, q17⟩ := (pred_fit2 (mode := 2) (delta := 0) ((GA15.by lta2).ext x16) ((GL15.by bL5.lt).ext x16) (by rw [la2]; exact lA) lL (c := c2) (by omega) (by omega) hz badH).elim
  have : m3 = m2 := by omega
  subst this
  have : m4 = m3 := by omega
  subst this
  have q16' : h17.get b3 = _ := (x17.get _ (H.get_lt q16)).trans q16
  have kE2 : hl = true → KW 16 [.sl b3 0 m4 (.ex m4), .sl b4 0 m4 (.ex m4)] h17 = some (.ret (.bool true), h17) := fun e => by
    have B1 := pred_by q16'
    have B2 := pred_by q17
    rw [bytes_eq (s' := predS nn 2 0 ha hl a2 l1 c2) (by omega) (fun x y x0 y0 => reads_H e y0)] at B1
    exact eq16_ok B1 B2 (by simp; omega)
  have g16 : h16.get h6.n = _ := (x16.get _ (H.get_lt g15)).trans g15
  have g5_17 : h17.get h.n = _ := ((x16.trans x17).get _ (H.get_lt g5_15)).trans g5_15
  have SL3 := GL3.stZ
  simp only [V_und_tup] at r1
  unfold edges at hh1 g1 g1' k4 hh5 g5 k6 hh7 g7 hh8 g8 g5_8 g5_7 r1 g5_10 k11 k12 g10 g11 g12 g5_12 g13 g14 hh15 g15 k16 k17 g16 g5_13 g5_15 g5_17 g4
  unfold edges
  have hr3 : r < 3 := by omega
  rw [w9, f9, Ytpjcmgmmolediaa.s9]
  cases hha : ha <;> cases hhl : hl <;> subst hha <;> subst hhl
  · simp [bx, ← hh1, works_ok, bs, fillW, splice, ← hcs, ← hh2, kb, hr, hr3, rd1_of g2, hnn, rdN_of (o := 0) (n := 5) g1' (by simp), k4, wrN_of (o := 0) g4, ← hh5, rdN_of (o := 0) (n := 5) g5 (by simp), k6, nw, wrN_of (o := 0) get_new_same, ← hh7, rd1_of g5_7, hc2, wr1_of g7, ← hh8, r1, s2, s3, s7, s8, r2, t2, t3, t7, t8, rdN_of (o := 0) (n := 5) g5_10 (by simp), k11, rdN_of (o := 0) (n := 5) g11 (by simp), k12, rd1_of g5_12, gl_t, gk_t, r3, u2, u3, u7, u8, rd1_of g5_13, k14, SL3, wr1_of g14, ← hh15, rdN_of (o := 0) (n := 5) g5_15 (by simp), k16, rdN_of (o := 0) (n := 5) g16 (by simp), k17, rd1_of g5_17]
    rfl
  · simp [bx, ← hh1, works_ok, bs, fillW, splice, ← hcs, ← hh2, kb, hr, hr3, rd1_of g2, hnn, rdN_of (o := 0) (n := 5) g1' (by simp), k4, wrN_of (o := 0) g4, ← hh5, rdN_of (o := 0) (n := 5) g5 (by simp), k6, nw, wrN_of (o := 0) get_new_same, ← hh7, rd1_of g5_7, hc2, wr1_of g7, ← hh8, r1, s2, s3, s7, s8, r2, t2, t3, t7, t8, rdN_of (o := 0) (n := 5) g5_10 (by simp), k11, rdN_of (o := 0) (n := 5) g11 (by simp), k12, rd1_of g5_12, gl_t, gk_t, r3, u2, u3, u7, u8, rd1_of g5_13, k14, SL3, wr1_of g14, ← hh15, rdN_of (o := 0) (n := 5) g5_15 (by simp), k16, rdN_of (o := 0) (n := 5) g16 (by simp), k17, rd1_of g5_17, kE2 rfl]
    rfl
  · simp [bx, ← hh1, works_ok, bs, fillW, splice, ← hcs, ← hh2, kb, hr, hr3, rd1_of g2, hnn, rdN_of (o := 0) (n := 5) g1' (by simp), k4, wrN_of (o := 0) g4, ← hh5, rdN_of (o := 0) (n := 5) g5 (by simp), k6, nw, wrN_of (o := 0) get_new_same, ← hh7, rd1_of g5_7, hc2, wr1_of g7, ← hh8, r1, s2, s3, s7, s8, r2, t2, t3, t7, t8, rdN_of (o := 0) (n := 5) g5_10 (by simp), k11, rdN_of (o := 0) (n := 5) g11 (by simp), k12, rd1_of g5_12, kE1 rfl, gl_t, gk_t, r3, u2, u3, u7, u8, rd1_of g5_13, k14, SL3, wr1_of g14, ← hh15, rdN_of (o := 0) (n := 5) g5_15 (by simp), k16, rdN_of (o := 0) (n := 5) g16 (by simp), k17, rd1_of g5_17]
    rfl
  · simp [bx, ← hh1, works_ok, bs, fillW, splice, ← hcs, ← hh2, kb, hr, hr3, rd1_of g2, hnn, rdN_of (o := 0) (n := 5) g1' (by simp), k4, wrN_of (o := 0) g4, ← hh5, rdN_of (o := 0) (n := 5) g5 (by simp), k6, nw, wrN_of (o := 0) get_new_same, ← hh7, rd1_of g5_7, hc2, wr1_of g7, ← hh8, r1, s2, s3, s7, s8, r2, t2, t3, t7, t8, rdN_of (o := 0) (n := 5) g5_10 (by simp), k11, rdN_of (o := 0) (n := 5) g11 (by simp), k12, rd1_of g5_12, kE1 rfl, gl_t, gk_t, r3, u2, u3, u7, u8, rd1_of g5_13, k14, SL3, wr1_of g14, ← hh15, rdN_of (o := 0) (n := 5) g5_15 (by simp), k16, rdN_of (o := 0) (n := 5) g16 (by simp), k17, rd1_of g5_17, kE2 rfl]
    rfl

theorem core9 {Hd : Type} {enc : TypeId × Value → Hd} {W : World} {base : Nat} {v0 v1 v2 : Value} {d0 d1 d2 : DataW Hd} {p0 p1 p2 : List MemPlace} {k : Prop}
    (hok : Value.okWide Try.prog W .any base 25 v0) (hd : DataW.Trod enc Try.prog W 0 (fun _ => true) true 25 v0 d0 p0)
    (hok1 : Value.okWide Try.prog W .any base 3 v1) (hd1 : DataW.Trod enc Try.prog W 0 (fun _ => true) true 3 v1 d1 p1)
    (hok2 : Value.okWide Try.prog W .any base 5 v2) (hd2 : DataW.Trod enc Try.prog W 0 (fun _ => true) true 5 v2 d2 p2) (hk : k) :
    Calls Try.prog 9 #[v0, v1, v2] W fun e W' => e = .returned (.bool true) ∧ Go.RowKit.Below W.heap.size W W' := by
  obtain ⟨d, rfl, _, _, wd⟩ := Go.ChangeShapes.open_int Try.underlying3 hok1 hd1
  obtain ⟨m, rfl, _, _, wm⟩ := Go.ChangeShapes.open_int Try.underlying5 hok2 hd2
  have hw := wf_i64 wd
  obtain ⟨v, hv, rfl⟩ := wf_u8 wm
  obtain ⟨i', h', ha, hl, A, L, c, la, ll, a, hle, hvr, bA, bL, _, hc, q1, q2, _⟩ := argEdges (ArgH.empty W) hok hd
  obtain ⟨r, h2, hr, rfl⟩ := (reads9_ok (ha := ha) (hl := hl) bA bL q1 q2 hc hv hw.1 hw.2).elim
  exact law_calls (us := [v0, .int .i64 d, .int .u8 v]) (callW_ok mixed kp ov2_ok hr) a.rel (.cons hvr (.cons (.int _ _) (.cons (.int _ _) .nil))) a.dom a.no
end Go.Proofs.Ytpjcmgmmolediaa
