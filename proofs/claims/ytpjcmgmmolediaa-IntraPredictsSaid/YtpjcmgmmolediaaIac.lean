/- IntraPredicts. -/
import Derived.Test.YtpjcmgmmolediaaIab
set_option linter.unusedVariables false
set_option linter.unusedSimpArgs false
namespace Go.Proofs.Ytpjcmgmmolediaa
open Go Go.Zf Go.RowKit Go.WideShapes

structure I3 (q4 q5 q7 b m : Nat) (g0 : H) (j : Nat) (en : E) (g : H) : Prop where
  hj : j ≤ m
  hn : g.n = g0.n
  ne : ∀ c, c ≠ b → g.get c = g0.get c
  o : ∃ l : List Nat, l.length = m ∧ g.get b = some (.cells (bytesV l) 5 false)
  p5 : en.s [0, 1, 2, 4, 5, 6, 7, 8, 9, 10, 11, 12] 5 = .ptr q5 0
  p7 : en.s [0, 1, 2, 4, 5, 6, 7, 8, 9, 10, 11, 12] 7 = .ptr q7 0
  p8 : en.s [0, 1, 2, 4, 5, 6, 7, 8, 9, 10, 11, 12] 8 = .sl b 0 m (.ex m)
  p12 : en.s [0, 1, 2, 4, 5, 6, 7, 8, 9, 10, 11, 12] 12 = .int .i64 ((m - j : Nat) : Int)

theorem loop3 {q4 q5 q7 p : Nat} {g : H} {va : V} {bs : List Nat} (hva : (va = .nils ∧ bs = []) ∨ ∃ b, va = .sl b 0 bs.length (.ex bs.length) ∧ p ≤ b ∧ g.get b = some (.cells (bytesV bs) 5 false)) (hbl : bs.length ≤ 4096)
    (en : E) (p5 : en.s [0, 1, 2, 4, 5, 6, 7, 8, 9, 10, 11, 12] 5 = .ptr q5 0) (p7 : en.s [0, 1, 2, 4, 5, 6, 7, 8, 9, 10, 11, 12] 7 = .ptr q7 0) (p8 : en.s [0, 1, 2, 4, 5, 6, 7, 8, 9, 10, 11, 12] 8 = va) (p12 : en.s [0, 1, 2, 4, 5, 6, 7, 8, 9, 10, 11, 12] 12 = .int .i64 0) :
    ∃ e' g', loopZ (l3_0 KW loopZ) en g = some ⟨.ex 0, e', g'⟩ ∧ g'.n = g.n ∧ (∀ c, c < p → g'.get c = g.get c) ∧ e'.s [0, 1, 2, 4, 5, 6, 7, 8, 9, 10, 11, 12] 5 = .ptr q5 0 ∧ e'.s [0, 1, 2, 4, 5, 6, 7, 8, 9, 10, 11, 12] 7 = .ptr q7 0 := by
  rcases hva with ⟨rfl, rfl⟩ | ⟨b, rfl, hpb, hb⟩
  · refine ⟨⟨[en.s [0, 1, 2, 4, 5, 6, 7, 8, 9, 10, 11, 12] 0, en.s [0, 1, 2, 4, 5, 6, 7, 8, 9, 10, 11, 12] 1, en.s [0, 1, 2, 4, 5, 6, 7, 8, 9, 10, 11, 12] 2, en.s [0, 1, 2, 4, 5, 6, 7, 8, 9, 10, 11, 12] 4, .ptr q5 0, en.s [0, 1, 2, 4, 5, 6, 7, 8, 9, 10, 11, 12] 6, .ptr q7 0, .nils, en.s [0, 1, 2, 4, 5, 6, 7, 8, 9, 10, 11, 12] 9, en.s [0, 1, 2, 4, 5, 6, 7, 8, 9, 10, 11, 12] 10, en.s [0, 1, 2, 4, 5, 6, 7, 8, 9, 10, 11, 12] 11, .int .i64 0], 54, .bool false⟩, g, ?_, rfl, fun _ _ => rfl, by simp, by simp⟩
    rw [loopZ_eq]
    simp [l3_0, p5, p7, p8, p12]
  · obtain ⟨m, hm⟩ : ∃ m, m = bs.length := ⟨_, rfl⟩
    rw [← hm] at p8 hbl
    obtain ⟨s, k1, k2, k3⟩ := loop_run (body := l3_0 KW loopZ) (I3 q4 q5 q7 b m g) (fun s => s.x = .ex 0 ∧ I3 q4 q5 q7 b m g 0 s.e s.h)
      (fun j en g' hi => by
        obtain ⟨hj, hn, ne, ⟨l, h1, h3⟩, p5, p7, p8, p12⟩ := hi
        cases j with
        | zero =>
          simp [l3_0, p8, p12]
          exact ⟨rfl, hj, hn, ne, ⟨l, h1, h3⟩, by simp [p5], by simp [p7], by simp [p8], by simp⟩
        | succ j =>
          obtain ⟨k, hk⟩ : ∃ k, k = m - (j + 1) := ⟨_, rfl⟩
          have hk2 : m - j = k + 1 := by omega
          rw [← hk] at p12
          have z3 : IntKind.i64.wrap ((k : Int) + 1) = k + 1 := Go.Zf.wi64 (by omega) (by omega)
          have hget := bytesV_get l k (by omega)
          obtain ⟨x, hx⟩ : ∃ x, x = l.getD k 0 := ⟨_, rfl⟩
          rw [← hx] at hget
          obtain ⟨y, hy, hy2⟩ := u8_ex (((BitVec.ofInt IntKind.u8.bits (x : Int) ^^^ BitVec.ofInt IntKind.u8.bits 255).toNat : Int))
          have hop : binK 0 .xor (.int .u8 (x : Nat)) (.int .u8 255) = some (.int .u8 (y : Nat)) := by rw [binK_xor]; exact congrArg (fun z => some (V.int .u8 z)) hy
          have hset := bytesV_set l k y
          have hlen : k < (bytesV l).length := by rw [bytesV_length]; omega
          obtain ⟨cs, hcs⟩ : ∃ cs, cs = bytesV l := ⟨_, rfl⟩
          rw [← hcs] at h3 hget hset hlen
          simp [l3_0, p8, p12, show (k : Int) < m by omega, show k < m by omega, rd1_of h3, hget, -binK_xor, hop, wr1_of h3 hlen, hset, z3]
          refine ⟨j, Nat.lt_succ_self j, by omega, by rw [H.n_put, hn], fun c hc => by rw [get_put_ne hc, ne c hc], ⟨l.set k y, by rw [List.length_set, h1], by rw [get_put_same (H.get_lt h3)]⟩, by simp [p5], by simp [p7], by simp [p8], by simp [hk2]⟩) m en g ⟨Nat.le_refl _, rfl, fun _ _ => rfl, ⟨bs, hm.symm, hb⟩, p5, p7, p8, by simpa using p12⟩
    obtain ⟨x, e', h'⟩ := s
    simp only at k2 k3
    subst k2
    obtain ⟨_, hn, ne, _, q5', q7', _, _⟩ := k3
    exact ⟨e', h', k1, hn, fun c hc => ne c (by omega), q5', q7'⟩

set_option maxHeartbeats 1600000 in
theorem predicts3_ok {h : H} {n md dl : Int} {ha hl : Bool} {A L : V} {a l : List Nat} {c : Nat} (aA : ByAt h A a) (aL : ByAt h L l) (la : a.length ≤ 140737488351232) (ll : l.length ≤ 140737488351232) (hc : c < 256) :
    RT (fun r h' => r = .bool true) (KW 3 [.int .i64 n, .agg [.int .i64 md, .int .i64 dl], .agg (edges ha hl A L c)] h) := by
  obtain ⟨h1, hh1⟩ : ∃ g, g = (h.new (.cells [.int .i64 md, .int .i64 dl] 22 false)).new (.cells (edges ha hl A L c) 25 false) := ⟨_, rfl⟩
  have x1 : Ext h h1 := by rw [hh1]; exact ((Ext.refl h).new _).new _
  have g4 : h1.get h.n = some (.cells [.int .i64 md, .int .i64 dl] 22 false) := by rw [hh1, get_new_lt (by rw [H.n_new]; omega), get_new_same]
  have g5 : h1.get (h.n + 1) = some (.cells (edges ha hl A L c) 25 false) := by rw [hh1, get_new_eq (by rw [H.n_new])]
  obtain ⟨_, h2, k2, x2, A2, L2, rfl, GA, GL, _⟩ := (copied11_ok (ha := ha) (hl := hl) (c := (c : Int)) (aA.ext x1) (aL.ext x1) (by omega) (by omega)).elim
  obtain ⟨h3, hh3⟩ : ∃ g, g = (h2.new (.cells [.bool false, .bool false, .nils, .nils, .int .u8 0] 25 false)).put h2.n (.cells (edges ha hl A2 L2 c) 25 false) := ⟨_, rfl⟩
  have x3 : Ext h2 h3 := by rw [hh3]; exact ((Ext.refl h2).new _).put (Nat.le_refl _) _
  have g7 : h3.get h2.n = some (.cells (edges ha hl A2 L2 c) 25 false) := by rw [hh3, get_put_same (by rw [H.n_new]; omega)]
  have X13 := x2.trans x3
  have X3 := x1.trans X13
  have BA2 : ByAt h3 A2 a := (GA.by aA.lt).ext x3
  have BL2 : ByAt h3 L2 l := (GL.by aL.lt).ext x3
  have g5_3 : h3.get (h.n + 1) = _ := (X13.get _ (H.get_lt g5)).trans g5
  have g4_3 : h3.get h.n = _ := (X13.get _ (H.get_lt g4)).trans g4
  obtain ⟨h4, k4, x4', x4''⟩ := check12_ok (n := n) (ha := ha) (hl := hl) (c := (c : Int)) BA2.len BL2.len h3
  have x4 : Ext h3 h4 := ⟨x4', x4''⟩
  obtain ⟨h5, k5, x5', x5''⟩ := check13_ok (n := n) (ha := ha) (hl := hl) (c := (c : Int)) (aA.ext X3).len (aL.ext X3).len h4
  have x5 : Ext h4 h5 := ⟨x5', x5''⟩
  have X35 := x4.trans x5
  have g5_4 : h4.get (h.n + 1) = _ := (x4.get _ (H.get_lt g5_3)).trans g5_3
  have g5_5 : h5.get (h.n + 1) = _ := (x5.get _ (H.get_lt g5_4)).trans g5_4
  have g4_5 : h5.get h.n = _ := (X35.get _ (H.get_lt g4_3)).trans g4_3
  have g7_5 : h5.get h2.n = _ := (X35.get _ (H.get_lt g7)).trans g7
  obtain ⟨va, vb, err, h6, h7, bs', k6, k7, x6, x7, B1, B2, hbl, hva⟩ := both_ok (n := n) (mode := md) (delta := dl) (ha := ha) (hl := hl) (BA2.ext X35) (BL2.ext X35) (aA.ext (X3.trans X35)) (aL.ext (X3.trans X35)) hc
  have ke := eq16_ok B1 B2 (by omega)
  have g4_6 : h6.get h.n = _ := (x6.get _ (H.get_lt g4_5)).trans g4_5
  have g5_6 : h6.get (h.n + 1) = _ := (x6.get _ (H.get_lt g5_5)).trans g5_5
  have hva7 : (va = .nils ∧ bs' = []) ∨ ∃ b, va = .sl b 0 bs'.length (.ex bs'.length) ∧ h5.n ≤ b ∧ h7.get b = some (.cells (bytesV bs') 5 false) := by
    rcases hva with h | ⟨b, e1, e2, e3⟩
    · exact .inl h
    · exact .inr ⟨b, e1, e2, by rw [x7.get _ (H.get_lt e3), e3]⟩
  have hedl : (edges ha hl A L c).length = 5 := rfl
  obtain ⟨en, h8, r1, n8, f8, s5, s7⟩ := loop3 (q4 := h.n) (q5 := h.n + 1) (q7 := h2.n) hva7 hbl
    ⟨[.int .i64 n, .agg [.int .i64 md, .int .i64 dl], .agg (edges ha hl A L c), .ptr h.n 0, .ptr (h.n + 1) 0, .bool false, .ptr h2.n 0, va, .int .i64 err, vb, .int .i64 err, .int .i64 0], 12, .int .i64 0⟩ (by simp) (by simp) (by simp) (by simp)
  have X57 := x6.trans x7
  have X58 : Ext h5 h8 := ⟨by rw [n8]; exact X57.n, fun b hb => by rw [f8 b hb, X57.get b hb]⟩
  have g5_8 : h8.get (h.n + 1) = _ := (X58.get _ (H.get_lt g5_5)).trans g5_5
  have g7_8 : h8.get h2.n = _ := (X58.get _ (H.get_lt g7_5)).trans g7_5
  have e1 := eq16_ok ((BA2.ext X35).ext X58) ((aA.ext (X3.trans X35)).ext X58) (by omega)
  have e2 := eq16_ok ((BL2.ext X35).ext X58) ((aL.ext (X3.trans X35)).ext X58) (by omega)
  have sA := aA.same
  have sL := aL.same
  have sA2 := BA2.same
  have sL2 := BL2.same
  unfold edges at hh1 g5 k2 hh3 g7 k4 k5 g5_3 g5_4 g5_5 g7_5 k6 k7 g5_6 r1 g5_8 g7_8
  unfold edges
  rw [w3, f3, s3]
  simp [bx, H.n_new, ← hh1, rdN_of (o := 0) (n := 5) g5 (by simp), k2, nw, wrN_of (o := 0) get_new_same, splice, ← hh3, rdN_of (o := 0) (n := 5) g7 (by simp), k4, rdN_of (o := 0) (n := 5) g5_4 (by simp), rdN_of (o := 0) (n := 5) g5_3 (by simp), k5, ck, V.same, V.sames, sA, sL, sA2, sL2,
    rd1_of g4_5, rdN_of (o := 0) (n := 5) g7_5 (by simp), k6, rd1_of g4_6, rdN_of (o := 0) (n := 5) g5_6 (by simp), k7, ke, r1, s5, s7, rd1_of g7_8, rd1_of g5_8, e1, e2, works_ok]
  rfl

theorem cellTypes22 : Try.prog.cellTypes Try.prog.depth 22 = some [3, 3] := by kernel_rfl
theorem cellsOf22 : Try.prog.cellsOf 22 = 2 := by kernel_rfl
theorem okWide_i64 {w : World} {r : Reach} {b : Nat} {v : Value} (h : Cell.okWide Try.prog w r b 3 v) : Value.okWide Try.prog w r b 3 v := by
  unfold Value.okWide; rw [Try.underlying3]; exact h
theorem arg_ints {w : World} {r : Reach} {b : Nat} {v : Value} (hok : Value.okWide Try.prog w r b 22 v) : ∃ b0 b1, v = .agg #[.int .i64 b0, .int .i64 b1] := by
  unfold Value.okWide at hok
  rw [Try.underlying22] at hok
  obtain ⟨cs, rfl, hcs, ts, hts, _, hrow⟩ := hok
  rw [cellTypes22] at hts
  cases hts
  rw [cellsOf22] at hcs
  obtain ⟨l⟩ := cs
  match l, hcs with
  | [u0, u1], _ =>
    have o0 := hrow 0 u0 rfl
    have o1 := hrow 1 u1 rfl
    simp at o0 o1
    obtain ⟨b0, rfl⟩ := okWide_int Try.underlying3 (okWide_i64 o0)
    obtain ⟨b1, rfl⟩ := okWide_int Try.underlying3 (okWide_i64 o1)
    exact ⟨b0, b1, rfl⟩

/-- The form's own reach, of a slice in a struct. -/
theorem reach25 {Hd : Type} {ts : List TypeId} {ds : List (DataW Hd)} (hk : (DataW.weightsEach Try.prog ts ds).all (· ≤ reachBytes) = true) {j : Nat} {d : DataW Hd} {l : List Nat} {xs : List (DataW Hd)} {i : Nat} (ht : ts[j]? = some 25) (hd : ds[j]? = some d) (hx : d = .agg xs) (hi : i = 2 ∨ i = 3)
    (hl : l = [] ∨ ∃ elems spare, xs[i]? = some (.slice elems spare) ∧ elems.length = l.length) : l.length ≤ 140737488351232 := by
  rcases hl with rfl | ⟨elems, spare, h1, h2⟩
  · simp
  · subst hx
    have hft : ([4, 4, 23, 23, 5] : List TypeId)[i]? = some 23 := by rcases hi with rfl | rfl <;> rfl
    have hm : (elems.length + spare.length) * Try.prog.bytesOf 5 ∈ DataW.weightsEach Try.prog ([4, 4, 23, 23, 5] : List TypeId) xs := DataW.weights_mem_each hft h1 _ (by simp [DataW.weights, Try.underlying23])
    have hm2 : (elems.length + spare.length) * Try.prog.bytesOf 5 ∈ DataW.weights Try.prog 25 (.agg xs) := by
      unfold DataW.weights
      rw [Try.underlying25]
      exact hm
    have := List.all_eq_true.1 hk _ (DataW.weights_mem_each ht hd _ hm2)
    rw [show Try.prog.bytesOf 5 = 1 by kernel_rfl] at this
    simp only [reachBytes] at this
    have := of_decide_eq_true this
    omega

theorem core3 {Hd : Type} {enc : TypeId × Value → Hd} {W : World} {base : Nat} {v0 v1 v2 : Value} {d0 d1 d2 : DataW Hd} {p0 p1 p2 : List MemPlace} {ts : List TypeId} {gs : List (DataW Hd)}
    (hok : Value.okWide Try.prog W .any base 3 v0) (hd : DataW.Trod enc Try.prog W 0 (fun _ => true) true 3 v0 d0 p0)
    (hok1 : Value.okWide Try.prog W .any base 22 v1) (hd1 : DataW.Trod enc Try.prog W 0 (fun _ => true) true 22 v1 d1 p1)
    (hok2 : Value.okWide Try.prog W .any base 25 v2) (hd2 : DataW.Trod enc Try.prog W 0 (fun _ => true) true 25 v2 d2 p2)
    (hk : (DataW.weightsEach Try.prog (Try.f3.params.toList ++ ts) ([d0, d1, d2] ++ gs)).all (· ≤ reachBytes) = true) :
    Calls Try.prog 3 #[v0, v1, v2] W fun e W' => e = .returned (.bool true) ∧ Go.RowKit.Below W.heap.size W W' := by
  obtain ⟨n, rfl, _, _, _⟩ := Go.ChangeShapes.open_int Try.underlying3 hok hd
  obtain ⟨md, dl, rfl⟩ := arg_ints hok1
  obtain ⟨i', h', ha, hl, A, L, c, la, ll, a, hle, hvr, bA, bL, _, hc, q1, q2, xs, hxs, m1, m2⟩ := argEdges (ArgH.empty W) hok2 hd2
  rw [Try.params3] at hk
  have w1 := reach25 hk (j := 2) rfl rfl hxs (.inl rfl) m1
  have w2 := reach25 hk (j := 2) rfl rfl hxs (.inr rfl) m2
  obtain ⟨r, h2, hr, rfl⟩ := (predicts3_ok (n := n) (md := md) (dl := dl) (ha := ha) (hl := hl) bA bL w1 w2 hc).elim
  exact law_calls (us := [.int .i64 n, .agg #[.int .i64 md, .int .i64 dl], v2]) (callW_ok mixed kp ov2_ok hr) a.rel (.cons (.int _ _) (.cons (.agg (.cons (.int _ _) (.cons (.int _ _) .nil)) rfl) (.cons hvr .nil))) a.dom a.no
end Go.Proofs.Ytpjcmgmmolediaa
