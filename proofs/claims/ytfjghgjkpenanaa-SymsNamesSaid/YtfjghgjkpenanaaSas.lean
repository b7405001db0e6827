/- SymsReads. -/
import Derived.Test.YtfjghgjkpenanaaSar
set_option linter.unusedVariables false
set_option linter.unusedSimpArgs false
set_option maxRecDepth 20000
namespace Go.Proofs.Ytfjghgjkpenanaa
open Go Go.Zf Go.RowKit Go.WideShapes
open Go.Zf (wi64)

/-- Bytes that may be spoilt. -/
def ByK (p q : Nat) (g : H) (v : V) (n : Nat) : Prop :=
  lnS v = some (.int .i64 n) ∧ (n = 0 ∨ ∃ b k c, v = .sl b 0 n k ∧ p ≤ b ∧ b < q ∧ g.get b = some (.cells c 5 false) ∧ n ≤ c.length ∧ ∀ i, i < n → ∃ y : Int, c[i]? = some (.int .u8 y))
theorem ByK.of {p : Nat} {g : H} {v : V} {l : List Nat} (a : Frs g p v l) : ByK p g.n g v l.length := by
  rcases a with ⟨rfl, rfl⟩ | ⟨b, k, rfl, rfl, _⟩ | ⟨b, rfl, h2, h3, h4⟩
  · exact ⟨by simp, .inl rfl⟩
  · exact ⟨by simp, .inl rfl⟩
  · exact ⟨by simp, .inr ⟨b, _, _, rfl, h2, H.get_lt h4, h4, by simp [bytesV], fun i hi => ⟨_, bytesV_get l i hi⟩⟩⟩
theorem ByK.ext {p q : Nat} {g g' : H} {v : V} {n : Nat} (a : ByK p q g v n) (x : Ext g g') : ByK p q g' v n := by
  refine ⟨a.1, ?_⟩
  rcases a.2 with h | ⟨b, k, c, h1, h2, h6, h3, h4, h5⟩
  · exact .inl h
  · exact .inr ⟨b, k, c, h1, h2, h6, by rw [x.get b (H.get_lt h3), h3], h4, h5⟩

structure J4 (p q n : Nat) (v w1 w9 w11 : V) (h0 : H) (j : Nat) (e : E) (g : H) : Prop where
  hj : j ≤ n
  md : Mod (fun b => p ≤ b ∧ b < q) h0 g
  by_ : ByK p q g v n
  e1 : e.s [0, 1, 2, 6, 7, 8, 9, 10, 11, 12, 13, 14, 15, 16, 17] 1 = w1
  e7 : e.s [0, 1, 2, 6, 7, 8, 9, 10, 11, 12, 13, 14, 15, 16, 17] 7 = v
  e9 : e.s [0, 1, 2, 6, 7, 8, 9, 10, 11, 12, 13, 14, 15, 16, 17] 9 = w9
  e11 : e.s [0, 1, 2, 6, 7, 8, 9, 10, 11, 12, 13, 14, 15, 16, 17] 11 = w11
  e13 : e.s [0, 1, 2, 6, 7, 8, 9, 10, 11, 12, 13, 14, 15, 16, 17] 13 = .int .i64 ((n - j : Nat) : Int)

theorem loop4_0 {p q n : Nat} {v w1 w9 w11 : V} {h0 : H} (hn : n < 140737488355329) {e : E} {g : H} (hi : J4 p q n v w1 w9 w11 h0 n e g) :
    ∃ e' g', loopZ (l4_0 KW loopZ) e g = some ⟨.ex 0, e', g'⟩ ∧ J4 p q n v w1 w9 w11 h0 0 e' g' := by
  have loop := loop_run (body := l4_0 KW loopZ) (J4 p q n v w1 w9 w11 h0) (fun s => s.x = .ex 0 ∧ J4 p q n v w1 w9 w11 h0 0 s.e s.h)
    (fun j e g hi => by
      obtain ⟨hj, md, hb, e1, e7, e9, e11, e13⟩ := hi
      have ln := hb.1
      cases j with
      | zero =>
        rw [Nat.sub_zero] at e13
        simp [l4_0, e7, ln, e13]
        exact ⟨rfl, hj, md, hb, by simp [e1], by simp [e7], by simp [e9], by simp [e11], by simp [e13]⟩
      | succ j =>
        obtain ⟨i, hi⟩ : ∃ i, i = n - (j + 1) := ⟨_, rfl⟩
        have hi2 : n - j = i + 1 := by omega
        rw [← hi] at e13
        have hin : i < n := by omega
        have z1 : IntKind.i64.wrap ((i : Int) + 1) = i + 1 := wi64 (by omega) (by omega)
        rcases hb.2 with h0 | ⟨b, k, c, h1, h2, h6, h3, h4, h5⟩
        · omega
        · obtain ⟨y, hy⟩ := h5 i hin
          obtain ⟨y2, hy2⟩ : ∃ y2, binK 0 .xor (.int .u8 y) (.int .u8 90) = some (.int .u8 y2) := ⟨_, by simp; rfl⟩
          obtain ⟨g1, hg1⟩ : ∃ z, z = g.put b (.cells (c.set i (.int .u8 y2)) 5 false) := ⟨_, rfl⟩
          have hw : g.wr1 b i (.int .u8 y2) = some g1 := by rw [wr1_of h3 (by omega), hg1]
          have hia : iaS 1 v (.int .i64 i) = some (.ptr b i) := by rw [h1]; simp [hin]
          have hrd : g.rd1 b i = some (.int .u8 y) := by rw [rd1_of h3, hy]
          have by1 : ByK p q g1 v n := by
            refine ⟨hb.1, .inr ⟨b, k, _, h1, h2, h6, by rw [hg1, get_put_same (H.get_lt h3)], by simpa using h4, fun i' hi' => ?_⟩⟩
            rw [List.getElem?_set]
            split
            · rw [if_pos (by omega)]; exact ⟨_, rfl⟩
            · exact h5 i' hi'
          have md1 : Mod (fun b => p ≤ b ∧ b < q) h0 g1 := md.tr ⟨by rw [hg1, H.n_put]; exact Nat.le_refl _, fun d _ hd => by rw [hg1, get_put_ne (by rintro rfl; exact hd ⟨h2, h6⟩)]⟩
          simp [-binK_xor, l4_0, e7, ln, e13, hin, show (i : Int) < n by omega, hia, hrd, hy2, hw, z1]
          exact ⟨j, Nat.lt_succ_self j, by omega, md1, by1, by simp [e1], by simp [e7], by simp [e9], by simp [e11], by simp [hi2, z1]⟩)
  obtain ⟨⟨x, e', g'⟩, r1, r2, r3⟩ := loop n e g hi
  simp only at r2 r3
  subst r2
  exact ⟨e', g', r1, r3⟩

structure I4 (h0 : H) (v : V) (ad w : Bool) (l : List Dd) (p q M j : Nat) (e : E) (g : H) : Prop where
  hj : j ≤ M
  x : Ext h0 g
  inv : ∃ m st, Pair h0 g p q m st ∧ m ≤ 30 * (M - j) ∧ st.sd.writes = w ∧ st.ad = ad
  e1 : e.s [0, 1, 2, 6, 7, 8, 9, 10, 11, 12, 13, 14, 15, 16, 17] 1 = v
  e9 : e.s [0, 1, 2, 6, 7, 8, 9, 10, 11, 12, 13, 14, 15, 16, 17] 9 = .ptr p 0
  e11 : e.s [0, 1, 2, 6, 7, 8, 9, 10, 11, 12, 13, 14, 15, 16, 17] 11 = .ptr q 0
  e14 : e.s [0, 1, 2, 6, 7, 8, 9, 10, 11, 12, 13, 14, 15, 16, 17] 14 = .int .i64 ((M - j : Nat) : Int)

theorem loop4_1 {h0 : H} {v : V} {ad w : Bool} {l : List Dd} {p q M : Nat} (hM : M = min l.length 300) (A : DosAt h0 v l) {e : E} {g : H} (hi : I4 h0 v ad w l p q M M e g) :
    ∃ e' g', loopZ (l4_1 KW loopZ) e g = some ⟨.ex 2, e', g'⟩ ∧ I4 h0 v ad w l p q M 0 e' g' := by
  have loop := loop_run (body := l4_1 KW loopZ) (I4 h0 v ad w l p q M) (fun s => s.x = .ex 2 ∧ I4 h0 v ad w l p q M 0 s.e s.h)
    (fun j e g hi => by
      obtain ⟨hj, x, ⟨m, st, P, hm, hw, had⟩, e1, e9, e11, e14⟩ := hi
      have Al := A.len
      cases j with
      | zero =>
        rw [Nat.sub_zero] at e14
        by_cases c : l.length ≤ 300
        · have hMl : M = l.length := by omega
          rw [hMl] at e14
          simp [l4_1, e1, Al, e14, gl_t]
          exact ⟨rfl, hj, x, ⟨m, st, P, hm, hw, had⟩, by simp [e1], by simp [e9], by simp [e11], by simp [e14, hMl]⟩
        · have hMl : M = 300 := by omega
          rw [hMl] at e14
          simp at e14
          simp [l4_1, e1, Al, e14, show (300 : Int) < l.length by omega, show 300 < l.length by omega]
          exact ⟨rfl, hj, x, ⟨m, st, P, hm, hw, had⟩, by simp [e1], by simp [e9], by simp [e11], by simp [e14, hMl]⟩
      | succ j =>
        obtain ⟨i, hi⟩ : ∃ i, i = M - (j + 1) := ⟨_, rfl⟩
        have hi2 : M - j = i + 1 := by omega
        rw [← hi] at e14 hm
        have hil : i < l.length := by omega
        have hi3 : i < 300 := by omega
        obtain ⟨d, hd⟩ := get_of_lt hil
        obtain ⟨dfit, b, o, q1, q2, _, _, _⟩ := (A.ext x).at hd
        have z1 : IntKind.i64.wrap ((i : Int) + 1) = i + 1 := wi64 (by omega) (by omega)
        obtain ⟨st', m', m1, w1, a1, hs⟩ := step18_ok P x d (by omega)
        obtain ⟨y, g', e18, rfl, P', X'⟩ := hs.elim
        simp [l4_1, e1, Al, e14, hil, hi3, show (i : Int) < l.length by omega, show (i : Int) < 300 by omega, q1, q2, e9, e11, e18, z1]
        exact ⟨j, Nat.lt_succ_self j, by omega, X', ⟨m', st', P', by omega, by rw [w1, hw], by rw [a1, had]⟩, by simp [e1], by simp [e9], by simp [e11], by simp [hi2, z1]⟩)
  obtain ⟨⟨x, e', g'⟩, r1, r2, r3⟩ := loop M e g hi
  simp only at r2 r3
  subst r2
  exact ⟨e', g', r1, r3⟩

theorem reads4_ok {h : H} {v0 v1 : V} {L : List Nat} {l1 : List Dd} (ad : Bool) (B : SlB h v0 L) (hl : L.length < 140737488355329) (hby : ∀ x ∈ L, x < 256) (A1 : DosAt h v1 l1) : RT (fun w h' => w = .bool true ∧ Ext h h') (KW 4 [v0, v1, .bool ad] h) := by
  obtain ⟨g1, vin, a1, F1, m1, k1⟩ := copy18_ok B hl
  have x1 : Ext h g1 := ⟨m1, k1⟩
  obtain ⟨w, g2, a2, vs, rfl, W2, x2⟩ := (default24_ok g1).elim
  have hcs : V.cells vs = some [vs] := by obtain ⟨_, k3, _⟩ := W2.setR; exact k3.cells
  obtain ⟨g3, hg3⟩ : ∃ z, z = (g2.new (.cells [.nils] 25 false)).put g2.n (.cells [vs] 25 false) := ⟨_, rfl⟩
  have x3 : Ext g2 g3 := by rw [hg3]; exact ((Ext.refl g2).new _).put (Nat.le_refl _) _
  have n3 : g3.n = g2.n + 1 := by rw [hg3, H.n_put, H.n_new]
  have r3 : g3.get g2.n = some (.cells [vs] 25 false) := by rw [hg3, get_put_same (by rw [H.n_new]; omega)]
  have hst3 : (g2.new (.cells [.nils] 25 false)).wrN g2.n 0 [vs] = some g3 := by rw [wrN_of (o := 0) get_new_same (by simp), hg3]; rfl
  obtain ⟨w, g4, a4, p, rfl, C4, x4⟩ := (reader25_ok ((F1.slb.keep x2.get).keep x3.get) hl hby (W2.setR.ext x3) defS_ok ad).elim
  obtain ⟨w, g5, a5, q, rfl, R5, x5⟩ := (reader26_ok ((((B.keep x1.get).keep x2.get).keep x3.get).keep x4.get) hl hby ((W2.setR.ext x3).ext x4) defS_ok ad).elim
  have m2 := x2.n
  have m4 := x4.n
  have m5 := x5.n
  have C5 : CoderAt (fun b => g3.n ≤ b ∧ b < g4.n) g5 p 0 (newR L defS ad) := (C4.mono fun b hb hd => ⟨hd, hb⟩).ext x5
  have R5' : CoderRef (fun b => g4.n ≤ b ∧ b < g5.n) g5 q 0 (newR L defS ad) := R5.mono fun b hb hd => ⟨hd, hb⟩
  have e14 : KW 14 [.ptr p 0] g5 = some (.ret (.bool false), g5) := by
    obtain ⟨vo, vi, vs, Ds, Dw, k1, k2, k3, _⟩ := C5
    exact writes14_ok k1 k3
  have r4 : g4.get g2.n = some (.cells [vs] 25 false) := by rw [x4.get _ (by omega), r3]
  obtain ⟨e6, g6, a6, _, md6, _, f1, _, f9, f11, _⟩ := loop4_0 (p := h.n) (q := g1.n) (n := L.length) (v := vin) (w1 := v1) (w9 := .ptr p 0) (w11 := .ptr q 0) (h0 := g5) hl (e := ⟨[v0, v1, .bool ad, .bool false, vin, .ptr g2.n 0, .ptr p 0, .int .i64 0, .ptr q 0, .int .i64 0, .int .i64 0, .tup [], .tup [], .tup [], .tup []], 13, .int .i64 0⟩) (g := g5)
    ⟨Nat.le_refl _, Mod.refl _ _, ((((ByK.of F1).ext x2).ext x3).ext x4).ext x5, by simp, by simp, by simp, by simp, by simp⟩
  have m6 := md6.n
  have C6 : CoderAt (fun b => g3.n ≤ b ∧ b < g4.n) g6 p 0 (newR L defS ad) := C5.keep m6 fun b hb hb2 => md6.get b hb2 fun hd => by omega
  have R6 : CoderRef (fun b => g4.n ≤ b ∧ b < g5.n) g6 q 0 (newR L defS ad) := R5'.mod md6 fun b hb _ hd => by omega
  have X6 : Ext h g6 := md6.ext ((((x1.trans x2).trans x3).trans x4).trans x5) fun c hc hd => by omega
  have P6 : Pair h g6 p q 0 (newR L defS ad) := ⟨_, _, C6, R6, fun b hb => ⟨by omega, by omega, by omega⟩, fun b hb => by omega⟩
  obtain ⟨M, hM⟩ : ∃ M, M = min l1.length 300 := ⟨_, rfl⟩
  obtain ⟨e', g12, a12, _, X12, ⟨m, st, P12, hm, hw, had⟩, e1, e9, e11, _⟩ := loop4_1 (h0 := h) (p := p) (q := q) (ad := ad) (w := false) hM A1 (e := ⟨[e6.s [0, 1, 2, 6, 7, 8, 9, 10, 11, 12, 13, 14, 15, 16, 17] 0, v1, e6.s [0, 1, 2, 6, 7, 8, 9, 10, 11, 12, 13, 14, 15, 16, 17] 2, e6.s [0, 1, 2, 6, 7, 8, 9, 10, 11, 12, 13, 14, 15, 16, 17] 6, e6.s [0, 1, 2, 6, 7, 8, 9, 10, 11, 12, 13, 14, 15, 16, 17] 7, e6.s [0, 1, 2, 6, 7, 8, 9, 10, 11, 12, 13, 14, 15, 16, 17] 8, .ptr p 0, e6.s [0, 1, 2, 6, 7, 8, 9, 10, 11, 12, 13, 14, 15, 16, 17] 10, .ptr q 0, e6.s [0, 1, 2, 6, 7, 8, 9, 10, 11, 12, 13, 14, 15, 16, 17] 12, e6.s [0, 1, 2, 6, 7, 8, 9, 10, 11, 12, 13, 14, 15, 16, 17] 13, .int .i64 0, e6.s [0, 1, 2, 6, 7, 8, 9, 10, 11, 12, 13, 14, 15, 16, 17] 15, e6.s [0, 1, 2, 6, 7, 8, 9, 10, 11, 12, 13, 14, 15, 16, 17] 16, e6.s [0, 1, 2, 6, 7, 8, 9, 10, 11, 12, 13, 14, 15, 16, 17] 17], 14, .int .i64 0⟩) (g := g6)
    ⟨Nat.le_refl _, X6, ⟨0, _, P6, by omega, rfl, rfl⟩, by simp, by simp, by simp, by simp⟩
  obtain ⟨D, F, C12, R12, hD, hF⟩ := P12.q
  have a13 := bytes19_no C12 hw
  obtain ⟨w, g15, a15, v15, rfl, W15, x15⟩ := (set17_ok C12).elim
  have hc15 : V.cells v15 = some [v15] := by obtain ⟨_, k3, _⟩ := W15.setR; exact k3.cells
  obtain ⟨g16, hg16⟩ : ∃ z, z = (g15.new (.cells [.nils] 25 false)).put g15.n (.cells [v15] 25 false) := ⟨_, rfl⟩
  have x16 : Ext g15 g16 := by rw [hg16]; exact ((Ext.refl g15).new _).put (Nat.le_refl _) _
  have r16 : g16.get g15.n = some (.cells [v15] 25 false) := by rw [hg16, get_put_same (by rw [H.n_new]; omega)]
  have hst16 : (g15.new (.cells [.nils] 25 false)).wrN g15.n 0 [v15] = some g16 := by rw [wrN_of (o := 0) get_new_same (by simp), hg16]; rfl
  obtain ⟨vr, s17, Wr17, _⟩ := ((R12.ext x15).ext x16).set
  obtain ⟨w, g18, a18, rfl, x18⟩ := (same15_ok (W15.setR.ext x16) Wr17.setR C12.ok.1.small).elim
  have r18 : g18.get g15.n = some (.cells [v15] 25 false) := (x18.get _ (H.get_lt r16)).trans r16
  obtain ⟨w, g19, a19, rfl, x19⟩ := (awake22_ok g18).elim
  have r19 : g19.get g15.n = some (.cells [v15] 25 false) := (x19.get _ (H.get_lt r18)).trans r18
  have h15 : V.same v15 v15 = true := by obtain ⟨_, k3, _⟩ := W15.setR; exact k3.same
  have hvr : V.same vr vr = true := by obtain ⟨_, k3, _⟩ := Wr17.setR; exact k3.same
  have hql : q < g16.n := by
    unfold H.rdN at s17
    split at s17
    · rename_i hh; exact H.get_lt hh
    · cases s17
  have q18 : g18.rdN q 2 1 = some [vr] := by
    unfold H.rdN at s17 ⊢
    rw [x18.get q hql]; exact s17
  have q19 : g19.rdN q 2 1 = some [vr] := by
    unfold H.rdN at s17 ⊢
    rw [x19.get q (by have := x18.n; omega), x18.get q hql]; exact s17
  have XX : Ext h g19 := (((X12.trans x15).trans x16).trans x18).trans x19
  rw [w4, f4, s4]
  simp [a1, a2, nw, hcs, hst3, rdN_of (o := 0) (n := 1) r3 (by simp), a4, rdN_of (o := 0) (n := 1) r4 (by simp), a5, gl_t, gk_t, e14, a6, f1, f9, f11, a12, e9, a13, a15, hc15, hst16, rdN_of (o := 0) (n := 1) r16 (by simp), e11, s17, a18, a19, ck, V.same, V.sames, h15, hvr, rdN_of (o := 0) (n := 1) r18 (by simp), rdN_of (o := 0) (n := 1) r19 (by simp), q18, q19, V.cells]
  exact ⟨rfl, XX⟩

theorem core4 {Hd : Type} {enc : TypeId × Value → Hd} {W : World} {base : Nat} {v0 v1 v2 : Value} {d0 d1 d2 : DataW Hd} {p0 p1 p2 : List MemPlace}
    (hok : Value.okWide Try.prog W .any base 44 v0) (hd : DataW.Trod enc Try.prog W 0 (fun _ => true) true 44 v0 d0 p0)
    (hok1 : Value.okWide Try.prog W .any base 22 v1) (hd1 : DataW.Trod enc Try.prog W 0 (fun _ => true) true 22 v1 d1 p1)
    (hok2 : Value.okWide Try.prog W .any base 4 v2) (hd2 : DataW.Trod enc Try.prog W 0 (fun _ => true) true 4 v2 d2 p2)
    (hk : (DataW.weightsEach Try.prog [44, 22, 4] [d0, d1, d2]).all (· ≤ reachBytes) = true) :
    Calls Try.prog 4 #[v0, v1, v2] W fun e W' => e = .returned (.bool true) ∧ Go.RowKit.Below W.heap.size W W' := by
  obtain ⟨b, rfl, _, _⟩ := Go.RowKit.open_bool Try.underlying4 hok2 hd2
  obtain ⟨i, h, x, l, a, _, hx, hB, n1, k1, hl, hb, hr, _⟩ := argBytes (ArgH.empty W) hok hd
  obtain ⟨i', h', y, ps, a', le, hy, hP, X, hpl, _⟩ := argDos a hok1 hd1
  have hl' := reach hk (j := 0) rfl rfl hr
  obtain ⟨w, h'', hrun, rfl, _⟩ := (reads4_ok b (hB.keep X.get) (by omega) hb hP).elim
  exact law_calls (us := [v0, v1, .bool b]) (callW_ok mixed kp ov2_ok hrun) a'.rel (.cons (hx.mono le) (.cons hy (.cons (.bool _) .nil))) a'.dom a'.no
end Go.Proofs.Ytfjghgjkpenanaa
