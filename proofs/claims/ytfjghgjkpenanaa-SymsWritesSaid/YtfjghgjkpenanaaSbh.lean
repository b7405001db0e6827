/- SymsBack: the law's core. -/
import Derived.Test.YtfjghgjkpenanaaSbg
set_option linter.unusedVariables false
set_option linter.unusedSimpArgs false
set_option maxRecDepth 20000
namespace Go.Proofs.Ytfjghgjkpenanaa
open Go Go.Zf Go.RowKit Go.WideShapes
open Go.Zf (wi64)

theorem back5_ok {h : H} {v : V} {l0 : List Dd} (ad : Bool) (A0 : DosAt h v l0) (cut : ∀ m, m ≤ l0.length → ∃ y, slS 5 v none (some (.int .i64 (m : Nat))) none = some y ∧ DosAt h y (l0.take m)) : RT (fun w h' => w = .bool true ∧ Ext h h') (KW 5 [v, .bool ad] h) := by
  obtain ⟨w, g1, a1, rfl, x1⟩ := (awake22_ok h).elim
  obtain ⟨v', l, hl, A, hcut⟩ : ∃ v' l, l.length ≤ 400 ∧ DosAt h v' l ∧ ((l0.length ≤ 400 ∧ v' = v) ∨ (400 < l0.length ∧ slS 5 v none (some (.int .i64 400)) none = some v')) := by
    by_cases c : 400 < l0.length
    · obtain ⟨v', k1, k2⟩ := cut 400 (by omega)
      exact ⟨v', _, by simp; omega, k2, .inr ⟨c, k1⟩⟩
    · exact ⟨v, l0, by omega, A0, .inl ⟨by omega, rfl⟩⟩
  obtain ⟨w, g2, a2, v2, rfl, W2, x2⟩ := (default27_ok g1).elim
  obtain ⟨w, g3, a3, p, rfl, C3, x3⟩ := (writer12_ok W2.setR defS_ok ad).elim
  have X3 : Ext h g3 := (x1.trans x2).trans x3
  have m1 := x1.n
  have m2 := x2.n
  have m3 := x3.n
  obtain ⟨e4, g4, a4, hj4, x4, ⟨D, G, p', m, vs, cs, C4, hD, hm, V7, hV, hG, hS, e5, e7⟩, f0, f1, f8⟩ := loop5_0 (h0 := h) (ad := ad) hl A (e := ⟨[v', .bool ad, .bool false, .ptr p 0, .int .i64 0, .nils, .int .i64 0, .tup [], .tup [], .tup [], .tup [], .tup [], .tup [], .tup [], .tup [], .tup [], .tup [], .tup [], .tup [], .tup [], .tup []], 8, .int .i64 0⟩) (g := g3)
    ⟨Nat.le_refl _, X3, ⟨fun b => g2.n ≤ b ∧ b < g3.n, fun _ => False, p, 0, .nils, [], (by rw [Nat.sub_self, stI_zero]; exact C3.mono fun b hb hd => ⟨hd, hb⟩), fun b hb => ⟨by omega, hb.2⟩, by omega, (by rw [Nat.sub_self]; exact GrowV.nil _ _ _ _), (fun b o n k e => by cases e), fun b hb => False.elim hb, (fun t ht => by rw [Nat.sub_self] at ht; simp [cnt] at ht), by simp, by simp⟩, by simp, by simp, by simp⟩
  rw [Nat.sub_zero] at C4 V7 hS hm
  obtain ⟨T, hT, sT, _, _, hdef⟩ := stI_w l ad l.length (Nat.le_refl _)
  obtain ⟨w, g5, a5, bv, rfl, W5, x5⟩ := (bytes19_ok C4 hT).elim
  obtain ⟨B, hB⟩ : ∃ B, B = bytes T.1 T.2.1 := ⟨_, rfl⟩
  rw [← hB] at W5
  obtain ⟨w, g6, a6, v6, rfl, W6, x6⟩ := (default27_ok g5).elim
  have hBl : B.length < 140737488355329 := by
    have so := C4.ok.2.1
    rw [hT] at so
    have h2 : T.1.length ≤ 3 * m := so.2.1
    have h3 := so.2.2
    rw [hB, bytes_len]
    have := trimN_le (emits 4 T.1 T.2.1).1 (T.1.length + 4)
    omega
  obtain ⟨w, g7, a7, r, rfl, C7, x7⟩ := (reader25_ok (W5.slb.keep x6.get) hBl W5.byte W6.setR defS_ok ad).elim
  rw [hB, rdI_zero hT] at C7
  have V6 : GrowV h.n g6 vs 25 1 cs (cnt l.length) := (V7.ext x5).ext x6
  have S6 : Sets' G g6 cs l ad (cnt l.length) := fun t ht => by
    obtain ⟨w, k1, k2⟩ := hS t ht
    exact ⟨w, k1, (k2.ext x5).ext x6⟩
  have X6 : Ext h g6 := (x4.trans x5).trans x6
  have A6 := A.ext X6
  simp only [k5] at e5 e7 f0 f1 f8
  obtain ⟨e8, g8, a8, hj8, x8, ⟨D8, r', m8, C8, hD8, hm8, e15⟩, d0, d1, d5, d7, d17⟩ := loop5_1 (h0 := g6) (v := v') (vs := vs) (vw := .ptr p' 0) (ad := ad) (G := G) (cs := cs) hT hl A6 V6 S6 (e := ⟨[v', .bool ad, e4.s [0, 1, 4, 5, 6, 7, 8, 9, 10, 11, 12, 14, 15, 16, 17, 18, 19, 20, 21, 23, 25] 4, .ptr p' 0, .int .i64 0, vs, e4.s [0, 1, 4, 5, 6, 7, 8, 9, 10, 11, 12, 14, 15, 16, 17, 18, 19, 20, 21, 23, 25] 8, e4.s [0, 1, 4, 5, 6, 7, 8, 9, 10, 11, 12, 14, 15, 16, 17, 18, 19, 20, 21, 23, 25] 9, e4.s [0, 1, 4, 5, 6, 7, 8, 9, 10, 11, 12, 14, 15, 16, 17, 18, 19, 20, 21, 23, 25] 10, e4.s [0, 1, 4, 5, 6, 7, 8, 9, 10, 11, 12, 14, 15, 16, 17, 18, 19, 20, 21, 23, 25] 11, e4.s [0, 1, 4, 5, 6, 7, 8, 9, 10, 11, 12, 14, 15, 16, 17, 18, 19, 20, 21, 23, 25] 12, bv, .ptr r 0, .int .i64 0, .int .i64 0, e4.s [0, 1, 4, 5, 6, 7, 8, 9, 10, 11, 12, 14, 15, 16, 17, 18, 19, 20, 21, 23, 25] 18, e4.s [0, 1, 4, 5, 6, 7, 8, 9, 10, 11, 12, 14, 15, 16, 17, 18, 19, 20, 21, 23, 25] 19, e4.s [0, 1, 4, 5, 6, 7, 8, 9, 10, 11, 12, 14, 15, 16, 17, 18, 19, 20, 21, 23, 25] 20, e4.s [0, 1, 4, 5, 6, 7, 8, 9, 10, 11, 12, 14, 15, 16, 17, 18, 19, 20, 21, 23, 25] 21, e4.s [0, 1, 4, 5, 6, 7, 8, 9, 10, 11, 12, 14, 15, 16, 17, 18, 19, 20, 21, 23, 25] 23, e4.s [0, 1, 4, 5, 6, 7, 8, 9, 10, 11, 12, 14, 15, 16, 17, 18, 19, 20, 21, 23, 25] 25], 17, .int .i64 0⟩) (g := g7)
    ⟨Nat.le_refl _, x7, ⟨fun b => g6.n ≤ b ∧ b < g7.n, r, 0, by rw [Nat.sub_self]; exact C7.mono fun b hb hd => ⟨hd, hb⟩, fun b hb => hb, by omega, by simp⟩, by simp, by simp, by simp, by simp, by simp⟩
  rw [Nat.sub_zero] at C8
  simp only [k5] at d0 d1 d5 d7 d17 e15
  have X8 : Ext g4 g8 := (x5.trans x6).trans x8
  have C4' := C4.ext X8
  obtain ⟨w, g9, a9, v9, rfl, W9, x9⟩ := (set17_ok C4').elim
  obtain ⟨g10, hg10⟩ : ∃ y, y = (g9.new (.cells [.nils] 25 false)).put g9.n (.cells [v9] 25 false) := ⟨_, rfl⟩
  have x10 : Ext g9 g10 := by rw [hg10]; exact ((Ext.refl g9).new _).put (Nat.le_refl _) _
  have r10 : g10.get g9.n = some (.cells [v9] 25 false) := by rw [hg10, get_put_same (by rw [H.n_new]; omega)]
  have hv9 : V.cells v9 = some [v9] := by obtain ⟨_, k3, _⟩ := W9.setR; exact k3.cells
  have C10 := ((C8.ext x9).ext x10)
  obtain ⟨w, g11, a11, v11, rfl, W11, x11⟩ := (set17_ok C10).elim
  obtain ⟨g12, hg12⟩ : ∃ y, y = (g11.new (.cells [.nils] 25 false)).put g11.n (.cells [v11] 25 false) := ⟨_, rfl⟩
  have x12 : Ext g11 g12 := by rw [hg12]; exact ((Ext.refl g11).new _).put (Nat.le_refl _) _
  have r12 : g12.get g11.n = some (.cells [v11] 25 false) := by rw [hg12, get_put_same (by rw [H.n_new]; omega)]
  have hv11 : V.cells v11 = some [v11] := by obtain ⟨_, k3, _⟩ := W11.setR; exact k3.cells
  have r10' : g12.get g9.n = some (.cells [v9] 25 false) := by
    have := x11.get _ (H.get_lt r10)
    rw [x12.get _ (by have := H.get_lt r10; have := x11.n; omega), this, r10]
  have sm := C4.ok.1.small
  obtain ⟨w, g13, a13, rfl, x13⟩ := (same31_ok (((W9.setR.ext x10).ext x11).ext x12) (W11.setR.ext x12) sm).elim
  have r13 : g13.get g9.n = some (.cells [v9] 25 false) := (x13.get _ (H.get_lt r10')).trans r10'
  have q13 : g13.get g11.n = some (.cells [v11] 25 false) := (x13.get _ (H.get_lt r12)).trans r12
  have cw := count32_ok ((((((C4'.ext x9).ext x10).ext x11).ext x12).ext x13))
  have cr := count32_ok (((C10.ext x11).ext x12).ext x13)
  rw [rdI_n] at cr
  have hs9 : V.same v9 v9 = true := by obtain ⟨_, k3, _⟩ := W9.setR; exact k3.same
  have hs11 : V.same v11 v11 = true := by obtain ⟨_, k3, _⟩ := W11.setR; exact k3.same
  have hlen : (400 < l0.length ∧ ¬ (l0.length ≤ 400)) ∨ (¬ 400 < l0.length ∧ l0.length ≤ 400) := by omega
  have hst9 : (g9.new (.cells [.nils] 25 false)).wrN g9.n 0 [v9] = some g10 := by rw [wrN_of (o := 0) get_new_same (by simp), hg10]; rfl
  have hst11 : (g11.new (.cells [.nils] 25 false)).wrN g11.n 0 [v11] = some g12 := by rw [wrN_of (o := 0) get_new_same (by simp), hg12]; rfl
  have l10 := rdN_of (o := 0) (n := 1) r10' (by simp)
  have l12 := rdN_of (o := 0) (n := 1) r12 (by simp)
  have l13 := rdN_of (o := 0) (n := 1) r13 (by simp)
  have m13 := rdN_of (o := 0) (n := 1) q13 (by simp)
  have XX : Ext h g13 := ((((((x4.trans X8).trans x9).trans x10).trans x11).trans x12).trans x13)
  rw [w5, f5, s5]
  cases ad with
  | true =>
    rcases hcut with ⟨c, rfl⟩ | ⟨c, hc⟩
    · simp [a1, A0.len, show ¬ (400 : Int) < l0.length by omega, show ¬ 400 < l0.length by omega, a2, a3, a4, e5, e7, a5, a6, f1, a7, a8, f0, d5, a9, nw, hst9, hv9, e15, a11, hst11, hv11, l10, l12, a13, cw, cr, d1, gl_t, ck, V.same, V.sames, hs9, hs11, l13, m13, V.cells]
      exact ⟨rfl, XX⟩
    · simp [a1, A0.len, show (400 : Int) < l0.length by omega, show 400 < l0.length by omega, hc, a2, a3, a4, e5, e7, a5, a6, f1, a7, a8, f0, d5, a9, nw, hst9, hv9, e15, a11, hst11, hv11, l10, l12, a13, cw, cr, d1, gl_t, ck, V.same, V.sames, hs9, hs11, l13, m13, V.cells]
      exact ⟨rfl, XX⟩
  | false =>
    obtain ⟨w, g14, a14, v14, rfl, W14, x14⟩ := (default27_ok g13).elim
    have r14 : g14.get g9.n = some (.cells [v9] 25 false) := (x14.get _ (H.get_lt r13)).trans r13
    have q14 : g14.get g11.n = some (.cells [v11] 25 false) := (x14.get _ (H.get_lt q13)).trans q13
    have hS9 : SetR (fun b => g8.n ≤ b) g14 v9 defS := by
      have := W9.setR
      rw [hdef rfl] at this
      exact ((((this.ext x10).ext x11).ext x12).ext x13).ext x14
    obtain ⟨w, g15, a15, rfl, x15⟩ := (same31_ok hS9 W14.setR defS_ok.small).elim
    have r15 : g15.get g9.n = some (.cells [v9] 25 false) := (x15.get _ (H.get_lt r14)).trans r14
    have q15 : g15.get g11.n = some (.cells [v11] 25 false) := (x15.get _ (H.get_lt q14)).trans q14
    have l14 := rdN_of (o := 0) (n := 1) r14 (by simp)
    have m14 := rdN_of (o := 0) (n := 1) q14 (by simp)
    have l15 := rdN_of (o := 0) (n := 1) r15 (by simp)
    have m15 := rdN_of (o := 0) (n := 1) q15 (by simp)
    rcases hcut with ⟨c, rfl⟩ | ⟨c, hc⟩
    · simp [a1, A0.len, show ¬ (400 : Int) < l0.length by omega, show ¬ 400 < l0.length by omega, a2, a3, a4, e5, e7, a5, a6, f1, a7, a8, f0, d5, a9, nw, hst9, hv9, e15, a11, hst11, hv11, l10, l12, a13, cw, cr, d1, gl_t, ck, V.same, V.sames, hs9, hs11, l13, m13, a14, l14, m14, a15, l15, m15, V.cells]
      exact ⟨rfl, (XX.trans x14).trans x15⟩
    · simp [a1, A0.len, show (400 : Int) < l0.length by omega, show 400 < l0.length by omega, hc, a2, a3, a4, e5, e7, a5, a6, f1, a7, a8, f0, d5, a9, nw, hst9, hv9, e15, a11, hst11, hv11, l10, l12, a13, cw, cr, d1, gl_t, ck, V.same, V.sames, hs9, hs11, l13, m13, a14, l14, m14, a15, l15, m15, V.cells]
      exact ⟨rfl, (XX.trans x14).trans x15⟩

theorem core5 {Hd : Type} {enc : TypeId × Value → Hd} {W : World} {base : Nat} {v0 v1 : Value} {d0 d1 : DataW Hd} {p0 p1 : List MemPlace} {k : Prop}
    (hok : Value.okWide Try.prog W .any base 22 v0) (hd : DataW.Trod enc Try.prog W 0 (fun _ => true) true 22 v0 d0 p0)
    (hok1 : Value.okWide Try.prog W .any base 4 v1) (hd1 : DataW.Trod enc Try.prog W 0 (fun _ => true) true 4 v1 d1 p1) (hk : k) :
    Calls Try.prog 5 #[v0, v1] W fun e W' => e = .returned (.bool true) ∧ Go.RowKit.Below W.heap.size W W' := by
  obtain ⟨b, rfl, _, _⟩ := Go.RowKit.open_bool Try.underlying4 hok1 hd1
  obtain ⟨i, h, x, l, a, _, hx, hA, X, hl, hcut⟩ := argDos (ArgH.empty W) hok hd
  obtain ⟨w, h'', hrun, rfl, _⟩ := (back5_ok b hA hcut).elim
  exact law_calls (us := [v0, .bool b]) (callW_ok mixed kp ov2_ok hrun) a.rel (.cons hx (.cons (.bool _) .nil)) a.dom a.no
end Go.Proofs.Ytfjghgjkpenanaa
