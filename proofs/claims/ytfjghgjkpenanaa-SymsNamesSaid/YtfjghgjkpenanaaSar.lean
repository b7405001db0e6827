/- SymsWrites: the walk. -/
import Derived.Test.YtfjghgjkpenanaaSaq
set_option linter.unusedVariables false
set_option linter.unusedSimpArgs false
set_option maxRecDepth 20000
namespace Go.Proofs.Ytfjghgjkpenanaa
open Go Go.Zf Go.RowKit Go.WideShapes
open Go.Zf (wi64)

structure I3 (h0 : H) (v : V) (ad w : Bool) (l : List Dd) (p q M j : Nat) (e : E) (g : H) : Prop where
  hj : j ≤ M
  x : Ext h0 g
  inv : ∃ m st, Pair h0 g p q m st ∧ m ≤ 30 * (M - j) ∧ st.sd.writes = w ∧ st.ad = ad
  e1 : e.s [0, 1, 2, 6, 7, 8, 9, 10, 11, 12, 13, 15, 16, 17, 18, 19] 1 = v
  e9 : e.s [0, 1, 2, 6, 7, 8, 9, 10, 11, 12, 13, 15, 16, 17, 18, 19] 9 = .ptr p 0
  e11 : e.s [0, 1, 2, 6, 7, 8, 9, 10, 11, 12, 13, 15, 16, 17, 18, 19] 11 = .ptr q 0
  e15 : e.s [0, 1, 2, 6, 7, 8, 9, 10, 11, 12, 13, 15, 16, 17, 18, 19] 15 = .int .i64 ((M - j : Nat) : Int)

theorem loop3 {h0 : H} {v : V} {ad w : Bool} {l : List Dd} {p q M : Nat} (hM : M = min l.length 300) (A : DosAt h0 v l) {e : E} {g : H} (hi : I3 h0 v ad w l p q M M e g) :
    ∃ e' g', loopZ (l3_0 KW loopZ) e g = some ⟨.ex 0, e', g'⟩ ∧ I3 h0 v ad w l p q M 0 e' g' := by
  have loop := loop_run (body := l3_0 KW loopZ) (I3 h0 v ad w l p q M) (fun s => s.x = .ex 0 ∧ I3 h0 v ad w l p q M 0 s.e s.h)
    (fun j e g hi => by
      obtain ⟨hj, x, ⟨m, st, P, hm, hw, had⟩, e1, e9, e11, e15⟩ := hi
      have Al := A.len
      cases j with
      | zero =>
        rw [Nat.sub_zero] at e15
        by_cases c : l.length ≤ 300
        · have hMl : M = l.length := by omega
          rw [hMl] at e15
          simp [l3_0, e1, Al, e15, gl_t]
          exact ⟨rfl, hj, x, ⟨m, st, P, hm, hw, had⟩, by simp [e1], by simp [e9], by simp [e11], by simp [e15, hMl]⟩
        · have hMl : M = 300 := by omega
          rw [hMl] at e15
          simp at e15
          simp [l3_0, e1, Al, e15, show (300 : Int) < l.length by omega, show 300 < l.length by omega]
          exact ⟨rfl, hj, x, ⟨m, st, P, hm, hw, had⟩, by simp [e1], by simp [e9], by simp [e11], by simp [e15, hMl]⟩
      | succ j =>
        obtain ⟨i, hi⟩ : ∃ i, i = M - (j + 1) := ⟨_, rfl⟩
        have hi2 : M - j = i + 1 := by omega
        rw [← hi] at e15 hm
        have hil : i < l.length := by omega
        have hi3 : i < 300 := by omega
        obtain ⟨d, hd⟩ := get_of_lt hil
        obtain ⟨dfit, b, o, q1, q2, _, _, _⟩ := (A.ext x).at hd
        have z1 : IntKind.i64.wrap ((i : Int) + 1) = i + 1 := wi64 (by omega) (by omega)
        obtain ⟨st', m', m1, w1, a1, hs⟩ := step18_ok P x d (by omega)
        obtain ⟨y, g', e18, rfl, P', X'⟩ := hs.elim
        simp [l3_0, e1, Al, e15, hil, hi3, show (i : Int) < l.length by omega, show (i : Int) < 300 by omega, q1, q2, e9, e11, e18, z1]
        exact ⟨j, Nat.lt_succ_self j, by omega, X', ⟨m', st', P', by omega, by rw [w1, hw], by rw [a1, had]⟩, by simp [e1], by simp [e9], by simp [e11], by simp [hi2, z1]⟩)
  obtain ⟨⟨x, e', g'⟩, r1, r2, r3⟩ := loop M e g hi
  simp only at r2 r3
  subst r2
  exact ⟨e', g', r1, r3⟩

theorem writes3_ok {h : H} {v0 v1 : V} {l0 l1 : List Dd} (ad : Bool) (A0 : DosAt h v0 l0) (A1 : DosAt h v1 l1) : RT (fun w h' => w = .bool true ∧ Ext h h') (KW 3 [v0, v1, .bool ad] h) := by
  obtain ⟨w, g1, a1, vs, S, rfl, Sok, W1, x1⟩ := (set10_ok A0).elim
  have hcs : V.cells vs = some [vs] := by obtain ⟨_, k3, _⟩ := W1.setR; exact k3.cells
  obtain ⟨g2, hg2⟩ : ∃ z, z = (g1.new (.cells [.nils] 25 false)).put g1.n (.cells [vs] 25 false) := ⟨_, rfl⟩
  have x2 : Ext g1 g2 := by rw [hg2]; exact ((Ext.refl g1).new _).put (Nat.le_refl _) _
  have n2 : g2.n = g1.n + 1 := by rw [hg2, H.n_put, H.n_new]
  have r2 : g2.get g1.n = some (.cells [vs] 25 false) := by rw [hg2, get_put_same (by rw [H.n_new]; omega)]
  have hst2 : (g1.new (.cells [.nils] 25 false)).wrN g1.n 0 [vs] = some g2 := by rw [wrN_of (o := 0) get_new_same (by simp), hg2]; rfl
  have W2 := W1.ext x2
  obtain ⟨w, g3, a3, vi, rfl, W3, x3⟩ := (copy11_ok W2.setR Sok.small).elim
  have hci : V.cells vi = some [vi] := by obtain ⟨_, k3, _⟩ := W3.setR; exact k3.cells
  obtain ⟨g4, hg4⟩ : ∃ z, z = (g3.new (.cells [.nils] 25 false)).put g3.n (.cells [vi] 25 false) := ⟨_, rfl⟩
  have x4 : Ext g3 g4 := by rw [hg4]; exact ((Ext.refl g3).new _).put (Nat.le_refl _) _
  have n4 : g4.n = g3.n + 1 := by rw [hg4, H.n_put, H.n_new]
  have r4 : g4.get g3.n = some (.cells [vi] 25 false) := by rw [hg4, get_put_same (by rw [H.n_new]; omega)]
  have hst4 : (g3.new (.cells [.nils] 25 false)).wrN g3.n 0 [vi] = some g4 := by rw [wrN_of (o := 0) get_new_same (by simp), hg4]; rfl
  have W4 : SetW (fun b => g2.n ≤ b ∧ b < g3.n) g4 vi S := (W3.mono fun b hb hd => ⟨hd, hb⟩).ext x4
  have W2' : SetW (fun b => h.n ≤ b ∧ b < g1.n) g4 vs S := (((W1.mono fun b hb hd => ⟨hd, hb⟩).ext x2).ext x3).ext x4
  obtain ⟨w, g5, a5, p, rfl, C5, x5⟩ := (writer12_ok W4.setR Sok ad).elim
  obtain ⟨w, g6, a6, q, rfl, R6, x6⟩ := (writer13_ok (W2'.ext x5).setR Sok ad).elim
  have m1 := x1.n
  have m3 := x3.n
  have m5 := x5.n
  have m6 := x6.n
  have C6 : CoderAt (fun b => g4.n ≤ b ∧ b < g5.n) g6 p 0 (newW S ad) := (C5.mono fun b hb hd => ⟨hd, hb⟩).ext x6
  have R6' : CoderRef (fun b => g5.n ≤ b ∧ b < g6.n) g6 q 0 (newW S ad) := R6.mono fun b hb hd => ⟨hd, hb⟩
  have e14 : KW 14 [.ptr p 0] g6 = some (.ret (.bool true), g6) := by
    obtain ⟨vo, vi, vs, Ds, Dw, k1, k2, k3, _⟩ := C6
    exact writes14_ok k1 k3
  have s2 : g3.get g1.n = some (.cells [vs] 25 false) := by rw [x3.get _ (by omega), r2]
  have t2 : g4.get g1.n = some (.cells [vs] 25 false) := by rw [x4.get _ (by omega), s2]
  have u2 : g5.get g1.n = some (.cells [vs] 25 false) := by rw [x5.get _ (by omega), t2]
  have v2 : g6.get g1.n = some (.cells [vs] 25 false) := by rw [x6.get _ (by omega), u2]
  have s4 : g5.get g3.n = some (.cells [vi] 25 false) := by rw [x5.get _ (by omega), r4]
  have t4 : g6.get g3.n = some (.cells [vi] 25 false) := by rw [x6.get _ (by omega), s4]
  obtain ⟨w, g7, a7, rfl, x7⟩ := (same15_ok ((W4.ext x5).ext x6).setR ((W2'.ext x5).ext x6).setR Sok.small).elim
  have m7 := x7.n
  have t7 : g7.get g3.n = some (.cells [vi] 25 false) := by rw [x7.get _ (by omega), t4]
  -- spoil in
  obtain ⟨w, g8, a8, rfl, M8⟩ := (spoil16_ok (((W4.ext x5).ext x6).ext x7) Sok.small 341).elim
  have m8 := M8.n
  have C8 : CoderAt (fun b => g4.n ≤ b ∧ b < g5.n) g8 p 0 (newW S ad) := (C6.ext x7).keep m8 fun b hb hb2 => M8.get b hb2 fun hd => by omega
  have R8 : CoderRef (fun b => g5.n ≤ b ∧ b < g6.n) g8 q 0 (newW S ad) := (R6'.ext x7).mod M8 fun b hb _ hd => by omega
  have X8 : Ext h g8 := M8.ext ((((((x1.trans x2).trans x3).trans x4).trans x5).trans x6).trans x7) fun c hc hd => by omega
  -- the told set
  obtain ⟨w, g9, a9, vt, rfl, W9, x9⟩ := (set17_ok C8).elim
  have hct : V.cells vt = some [vt] := by obtain ⟨_, k3, _⟩ := W9.setR; exact k3.cells
  obtain ⟨g10, hg10⟩ : ∃ z, z = (g9.new (.cells [.nils] 25 false)).put g9.n (.cells [vt] 25 false) := ⟨_, rfl⟩
  have x10 : Ext g9 g10 := by rw [hg10]; exact ((Ext.refl g9).new _).put (Nat.le_refl _) _
  have n10 : g10.n = g9.n + 1 := by rw [hg10, H.n_put, H.n_new]
  have r10 : g10.get g9.n = some (.cells [vt] 25 false) := by rw [hg10, get_put_same (by rw [H.n_new]; omega)]
  have hst10 : (g9.new (.cells [.nils] 25 false)).wrN g9.n 0 [vt] = some g10 := by rw [wrN_of (o := 0) get_new_same (by simp), hg10]; rfl
  have m9 := x9.n
  obtain ⟨w, g11, a11, rfl, M11⟩ := (spoil16_ok (W9.ext x10) Sok.small 426).elim
  have x11 : Ext g8 g11 := M11.ext (x9.trans x10) fun c hc hd => by have hd : g8.n ≤ c := hd; omega
  have m11 := x11.n
  have X11 : Ext h g11 := X8.trans x11
  have P11 : Pair h g11 p q 0 (newW S ad) := ⟨_, _, C8.ext x11, R8.ext x11, fun b hb => ⟨by omega, by omega, by omega⟩, fun b hb => by omega⟩
  obtain ⟨M, hM⟩ : ∃ M, M = min l1.length 300 := ⟨_, rfl⟩
  obtain ⟨e', g12, a12, _, X12, ⟨m, st, P12, hm, hw, had⟩, e1, e9, e11, _⟩ := loop3 (h0 := h) (p := p) (q := q) (ad := ad) (w := true) hM A1 (e := ⟨[v0, v1, .bool ad, .bool false, .ptr g1.n 0, .ptr g3.n 0, .ptr p 0, .int .i64 0, .ptr q 0, .int .i64 0, .ptr g9.n 0, .int .i64 0, .tup [], .tup [], .tup [], .tup []], 15, .int .i64 0⟩) (g := g11)
    ⟨Nat.le_refl _, X11, ⟨0, _, P11, by omega, rfl, rfl⟩, by simp, by simp, by simp, by simp⟩
  obtain ⟨D, F, C12, R12, hD, hF⟩ := P12.q
  obtain ⟨out, low, rng, hsd⟩ : ∃ out low rng, st.sd = .w out low rng := by
    cases hs : st.sd with
    | w o l r => exact ⟨_, _, _, rfl⟩
    | r o l r => rw [hs] at hw; cases hw
  obtain ⟨w, g13, a13, vb, rfl, B13, x13⟩ := (bytes19_ok C12 hsd).elim
  obtain ⟨w, g14, a14, vb2, rfl, B14, x14⟩ := (bytes20_ok (R12.ext x13) hsd).elim
  obtain ⟨w, g15, a15, v15, rfl, W15, x15⟩ := (set17_ok ((C12.ext x13).ext x14)).elim
  have hc15 : V.cells v15 = some [v15] := by obtain ⟨_, k3, _⟩ := W15.setR; exact k3.cells
  obtain ⟨g16, hg16⟩ : ∃ z, z = (g15.new (.cells [.nils] 25 false)).put g15.n (.cells [v15] 25 false) := ⟨_, rfl⟩
  have x16 : Ext g15 g16 := by rw [hg16]; exact ((Ext.refl g15).new _).put (Nat.le_refl _) _
  have r16 : g16.get g15.n = some (.cells [v15] 25 false) := by rw [hg16, get_put_same (by rw [H.n_new]; omega)]
  have hst16 : (g15.new (.cells [.nils] 25 false)).wrN g15.n 0 [v15] = some g16 := by rw [wrN_of (o := 0) get_new_same (by simp), hg16]; rfl
  have hbl : (bytes out low).length < 9223372036854775807 := by
    have so := C12.ok.2.1
    rw [hsd] at so
    have h2 : out.length ≤ 3 * m := so.2.1
    have h3 := so.2.2
    rw [bytes_len]
    have := trimN_le (emits 4 out low).1 (out.length + 4)
    omega
  have a17 := eq15_ok ((((B13.slb.keep x14.get).keep x15.get).keep x16.get)).at (((B14.slb.keep x15.get).keep x16.get)).at hbl
  obtain ⟨vr, s17, Wr17, _⟩ := (((((R12.ext x13).ext x14).ext x15).ext x16)).set
  obtain ⟨w, g18, a18, rfl, x18⟩ := (same15_ok (W15.setR.ext x16) Wr17.setR C12.ok.1.small).elim
  have r18 : g18.get g15.n = some (.cells [v15] 25 false) := (x18.get _ (H.get_lt r16)).trans r16
  obtain ⟨vr2, s18, Wr18, _⟩ := ((((((R12.ext x13).ext x14).ext x15).ext x16).ext x18)).set
  obtain ⟨w, g19, a19, rfl, x19⟩ := (awake22_ok g18).elim
  have r19 : g19.get g15.n = some (.cells [v15] 25 false) := (x19.get _ (H.get_lt r18)).trans r18
  have h15 : V.same v15 v15 = true := by obtain ⟨_, k3, _⟩ := W15.setR; exact k3.same
  have hvr : V.same vr vr = true := by obtain ⟨_, k3, _⟩ := Wr17.setR; exact k3.same
  have q19 : g19.rdN q 2 1 = some [vr] := by
    have hql : q < g16.n := by
      unfold H.rdN at s17
      split at s17
      · rename_i hh; exact H.get_lt hh
      · cases s17
    unfold H.rdN at s17 ⊢
    rw [x19.get q (by have := x18.n; omega), x18.get q hql]; exact s17
  have q18 : g18.rdN q 2 1 = some [vr] := by
    have hql : q < g16.n := by
      unfold H.rdN at s17
      split at s17
      · rename_i hh; exact H.get_lt hh
      · cases s17
    unfold H.rdN at s17 ⊢
    rw [x18.get q hql]; exact s17
  have XX : Ext h g19 := ((((((X12.trans x13).trans x14).trans x15).trans x16).trans x18).trans x19)
  rw [w3, f3, s3]
  simp [a1, nw, hcs, hst2, rdN_of (o := 0) (n := 1) r2 (by simp), a3, hci, hst4, rdN_of (o := 0) (n := 1) r4 (by simp), a5, rdN_of (o := 0) (n := 1) u2 (by simp), a6, gl_t, gk_t, e14, rdN_of (o := 0) (n := 1) t4 (by simp), rdN_of (o := 0) (n := 1) v2 (by simp), a7, rdN_of (o := 0) (n := 1) t7 (by simp), a8, a9, hct, hst10, rdN_of (o := 0) (n := 1) r10 (by simp), a11, a12, e9, a13, e11, a14, a15, hc15, hst16, a17, rdN_of (o := 0) (n := 1) r16 (by simp), s17, a18, a19, ck, V.same, V.sames, h15, hvr, rdN_of (o := 0) (n := 1) r18 (by simp), rdN_of (o := 0) (n := 1) r19 (by simp), q18, q19, V.cells]
  exact ⟨rfl, XX⟩

theorem core3 {Hd : Type} {enc : TypeId × Value → Hd} {W : World} {base : Nat} {v0 v1 v2 : Value} {d0 d1 d2 : DataW Hd} {p0 p1 p2 : List MemPlace} {k : Prop}
    (hok : Value.okWide Try.prog W .any base 22 v0) (hd : DataW.Trod enc Try.prog W 0 (fun _ => true) true 22 v0 d0 p0)
    (hok1 : Value.okWide Try.prog W .any base 22 v1) (hd1 : DataW.Trod enc Try.prog W 0 (fun _ => true) true 22 v1 d1 p1)
    (hok2 : Value.okWide Try.prog W .any base 4 v2) (hd2 : DataW.Trod enc Try.prog W 0 (fun _ => true) true 4 v2 d2 p2) (hk : k) :
    Calls Try.prog 3 #[v0, v1, v2] W fun e W' => e = .returned (.bool true) ∧ Go.RowKit.Below W.heap.size W W' := by
  obtain ⟨b, rfl, _, _⟩ := Go.RowKit.open_bool Try.underlying4 hok2 hd2
  obtain ⟨i, h, x, l, a, _, hx, hA, X, hl, _⟩ := argDos (ArgH.empty W) hok hd
  obtain ⟨i', h', x', l', a', le, hx', hA', X', hl', _⟩ := argDos a hok1 hd1
  obtain ⟨w, h'', hrun, rfl, _⟩ := (writes3_ok b (hA.ext X') hA').elim
  exact law_calls (us := [v0, v1, .bool b]) (callW_ok mixed kp ov2_ok hrun) a'.rel (.cons (hx.mono le) (.cons hx' (.cons (.bool _) .nil))) a'.dom a'.no
end Go.Proofs.Ytfjghgjkpenanaa
