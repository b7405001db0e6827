/- SymsBack: the reader's loop. -/
import Derived.Test.YtfjghgjkpenanaaSbf
set_option linter.unusedVariables false
set_option linter.unusedSimpArgs false
set_option maxRecDepth 20000
namespace Go.Proofs.Ytfjghgjkpenanaa
open Go Go.Zf
open Go.Zf (wi64)

theorem rdN_one {h : H} {b o : Nat} {x : V} (a : h.rd1 b o = some x) : h.rdN b o 1 = some [x] := by
  unfold H.rd1 at a
  unfold H.rdN
  split at a
  · rename_i c t ro hb

    have hl := lt_of_get a
    rw [if_pos (by omega)]
    congr 1
    apply List.ext_getElem?
    intro j
    rw [List.getElem?_take, List.getElem?_drop]
    cases j with
    | zero => simpa using a
    | succ j => simp
  · cases a
theorem CoderAt.more {D : Nat → Prop} {g : H} {p m m' : Nat} {st : St} (a : CoderAt D g p m st) (h1 : m ≤ m') (h2 : m' < 100000000) : CoderAt D g p m' st := by
  obtain ⟨vo, vi, vs, Ds, Dw, a1, a2, a3, a4, a5, a6, a7, a8, a9⟩ := a
  refine ⟨vo, vi, vs, Ds, Dw, a1, a2, a3, ?_, a5, a6, ⟨a7.1, by omega⟩, a8, a9⟩
  cases hs : st.sd with
  | w o lo r => rw [hs] at a4; exact ⟨a4.1, by have := a4.2.1; omega, h2⟩
  | r o lo r => rw [hs] at a4; exact ⟨a4.1, a4.2.1, h2⟩

theorem call5r {D : Nat → Prop} {g : H} {p m : Nat} {l : List Dd} {ad : Bool} {i : Nat} {x : Dd} {T : Sr} (hT : (stI l ad l.length).sd = wS T) (hx : l[i]? = some x) (C : CoderAt D g p m (rdI l ad (bytes T.1 T.2.1) i)) (hm : m < 90000000) :
    ∃ g', (if x.b then KW 29 [.ptr p 0, .int .i64 x.may.n, .int .i64 (-1)] g = some (.ret (.tup [.int .i64 x.may.v, .int .i64 0]), g') else KW 30 [.ptr p 0, .int .i64 x.may.k, .int .i64 x.may.c, .int .i64 (-1)] g = some (.ret (.tup [.int .i64 x.may.v, .int .i64 0]), g')) ∧
      CoderAt (grow D g g') g' p (m + 16) (rdI l ad (bytes T.1 T.2.1) (i + 1)) ∧ Mod D g g' := by
  have hw : ∀ {P : Prop}, (rdI l ad (bytes T.1 T.2.1) i).sd.writes = true → P := fun h => by rw [rdI_wr] at h; cases h
  cases hb : x.b with
  | true =>
    obtain ⟨n, v, h1, h2, h3, h4, h5⟩ := op_num hb
    obtain ⟨_, _, k3⟩ := stI_num ad hx h1
    obtain ⟨k1, k2⟩ := k3 T hT
    obtain ⟨w, g', e, rfl, C', M⟩ := (bits29_ok (n := n) (v := -1) C (by have := h2.1; omega) (by have := h2.1; omega) hw).elim
    rw [show (-1 : Int).toNat = 0 from rfl] at e C'
    rw [k1] at C'
    rw [k2] at e
    refine ⟨g', by rw [h4, h5]; exact e, C'.more (by have := h2.1; omega) (by omega), M⟩
  | false =>
    obtain ⟨k, c, v, h1, h2, h3, h4, h5, h6⟩ := op_sym hb
    obtain ⟨_, _, k3⟩ := stI_sym ad hx h1
    obtain ⟨k1, k2⟩ := k3 T hT
    obtain ⟨w, g', e, rfl, C', M⟩ := (symbol30_ok (k := k) (c := c) (v := -1) C (by omega) h2.1 h2.2.1 hw).elim
    rw [k1] at C'
    rw [k2] at e
    refine ⟨g', by rw [h4, h5, h6]; simpa using e, C'.more (by omega) (by omega), M⟩

structure IB (h0 : H) (v vs vw : V) (ad : Bool) (l : List Dd) (B : List Nat) (j : Nat) (e : E) (g : H) : Prop where
  hj : j ≤ l.length
  x : Ext h0 g
  q : ∃ D p m, CoderAt D g p m (rdI l ad B (l.length - j)) ∧ (∀ b, D b → h0.n ≤ b ∧ b < g.n) ∧ m ≤ 16 * (l.length - j) ∧ e.s k5 15 = .ptr p 0
  e0 : e.s k5 0 = v
  e1 : e.s k5 1 = .bool ad
  e5 : e.s k5 5 = vw
  e7 : e.s k5 7 = vs
  e17 : e.s k5 17 = .int .i64 ((l.length - j : Nat) : Int)

theorem loop5_1 {h0 : H} {v vs vw : V} {ad : Bool} {l : List Dd} {T : Sr} {G : Nat → Prop} {cs : List V} {P : Nat} (hT : (stI l ad l.length).sd = wS T) (hl : l.length ≤ 400) (A : DosAt h0 v l) (V7 : GrowV P h0 vs 25 1 cs (cnt l.length)) (hS : Sets' G h0 cs l ad (cnt l.length)) {e : E} {g : H} (hi : IB h0 v vs vw ad l (bytes T.1 T.2.1) l.length e g) :
    ∃ e' g', loopZ (l5_1 KW loopZ) e g = some ⟨.ex 2, e', g'⟩ ∧ IB h0 v vs vw ad l (bytes T.1 T.2.1) 0 e' g' := by
  obtain ⟨B, hB⟩ : ∃ B, B = bytes T.1 T.2.1 := ⟨_, rfl⟩
  have call := @call5r
  have hcall' := fun {D g p m i x} (hx : l[i]? = some x) => call (D := D) (g := g) (p := p) (m := m) hT hx
  rw [← hB] at hi ⊢
  simp only [← hB] at hcall'
  have loop := loop_run (body := l5_1 KW loopZ) (IB h0 v vs vw ad l B) (fun s => s.x = .ex 2 ∧ IB h0 v vs vw ad l B 0 s.e s.h)
    (fun j e g hi => by
      obtain ⟨hj, x, ⟨D, p, m, C, hD, hm, e15⟩, e0, e1, e5, e7, e17⟩ := hi
      simp only [k5] at e0 e1 e5 e7 e15 e17
      have Al := A.len
      cases j with
      | zero =>
        rw [Nat.sub_zero] at e17
        simp [l5_1, e0, Al, e17]
        exact ⟨rfl, hj, x, ⟨D, p, m, C, hD, hm, by simp [e15]⟩, by simp [e0], by simp [e1], by simp [e5], by simp [e7], by simp [e17]⟩
      | succ j =>
        obtain ⟨i, hi⟩ : ∃ i, i = l.length - (j + 1) := ⟨_, rfl⟩
        have hi2 : l.length - j = i + 1 := by omega
        rw [← hi] at e17 hm C
        have hil : i < l.length := by omega
        obtain ⟨d, hd⟩ := get_of_lt hil
        obtain ⟨dfit, b, o, q1, q2, _, _, _⟩ := (A.ext x).at hd
        have z1 : IntKind.i64.wrap ((i : Int) + 1) = i + 1 := wi64 (by omega) (by omega)
        obtain ⟨w, g1, e28, rfl, x1⟩ := (may28_ok d g).elim
        obtain ⟨g2, hg2⟩ : ∃ y, y = (g1.new (.cells [.bool false, .int .i64 0, .int .i64 0, .int .i64 0, .int .i64 0] 43 false)).put g1.n (.cells d.may.cells 43 false) := ⟨_, rfl⟩
        have x2 : Ext g1 g2 := by rw [hg2]; exact ((Ext.refl g1).new _).put (Nat.le_refl _) _
        have n2 : g2.n = g1.n + 1 := by rw [hg2, H.n_put, H.n_new]
        have r2 : g2.get g1.n = some (.cells d.may.cells 43 false) := by rw [hg2, get_put_same (by rw [H.n_new]; omega)]
        have hst : (g1.new (.cells [.bool false, .int .i64 0, .int .i64 0, .int .i64 0, .int .i64 0] 43 false)).wrN g1.n 0 d.may.cells = some g2 := by
          rw [wrN_of (o := 0) get_new_same (by simp [Dd.cells]), hg2, splice]; simp [Dd.cells]
        have C2 := (C.ext x1).ext x2
        have x1n := x1.n
        obtain ⟨g3, hcall, C3, M3⟩ := hcall' hd C2 (by omega)
        have M3n := M3.n
        have hyb : d.may.b = d.b := by unfold Dd.may; split <;> simp_all
        obtain ⟨y, hy⟩ : ∃ y, y = d.may := ⟨_, rfl⟩
        rw [← hy] at e28 r2 hst hcall hyb
        have hlen : y.cells.length = 5 := rfl
        have hgn : g1.n < g2.n := by omega
        have r3 : g3.get g1.n = some (.cells y.cells 43 false) := by rw [M3.get g1.n hgn (fun h => by have := (hD _ h).2; omega), r2]
        have rb : ∀ (g : H), g.get g1.n = some (.cells y.cells 43 false) → g.rd1 g1.n 0 = some (.bool y.b) ∧ g.rd1 g1.n 1 = some (.int .i64 y.n) ∧ g.rd1 g1.n 2 = some (.int .i64 y.k) ∧ g.rd1 g1.n 3 = some (.int .i64 y.c) ∧ g.rd1 g1.n 4 = some (.int .i64 y.v) := fun g hg => by
          refine ⟨?_, ?_, ?_, ?_, ?_⟩ <;> rw [rd1_of hg] <;> rfl
        obtain ⟨s0, s1, s2, s3, s4⟩ := rb g2 r2
        obtain ⟨u0, u1, u2, u3, u4⟩ := rb g3 r3
        rw [hyb] at s0
        have X3 : Ext h0 g3 := M3.ext ((x.trans x1).trans x2) fun c hc h => by have := (hD _ h).1; omega
        obtain ⟨r, hr⟩ : ∃ r, r = i % 16 := ⟨_, rfl⟩
        have hmod : (i : Int).tmod 16 = (r : Nat) := by rw [hr]; exact Int.ofNat_tmod i 16
        have hxn := x.n
        have hD3 : ∀ b, grow D g2 g3 b → h0.n ≤ b ∧ b < g3.n := fun b hb => by
          rcases hb with hb | hb
          · have := hD b hb; omega
          · omega
        have fin : ∀ (g6 : H), Ext g3 g6 → ∀ e' : E, e'.s k5 0 = v → e'.s k5 1 = .bool ad → e'.s k5 5 = vw → e'.s k5 7 = vs → e'.s k5 15 = .ptr p 0 → e'.s k5 17 = .int .i64 ((i + 1 : Nat) : Int) → IB h0 v vs vw ad l B j e' g6 := fun g6 x6 e' b0 b1 b5 b7 b15 b17 => by
          have := x6.n
          exact ⟨by omega, X3.trans x6, ⟨grow D g2 g3, p, m + 16, by rw [hi2]; exact C3.ext x6, fun b hb => ⟨(hD3 b hb).1, by have := (hD3 b hb).2; omega⟩, by omega, b15⟩, b0, b1, b5, b7, by rw [hi2]; exact b17⟩
        by_cases hr0 : r = 0
        · -- the sets are compared
          obtain ⟨w, g4, e17', v4, rfl, W4, x4⟩ := (set17_ok C3).elim
          have x4n := x4.n
          obtain ⟨g5, hg5⟩ : ∃ y, y = (g4.new (.cells [.nils] 25 false)).put g4.n (.cells [v4] 25 false) := ⟨_, rfl⟩
          have x5 : Ext g4 g5 := by rw [hg5]; exact ((Ext.refl g4).new _).put (Nat.le_refl _) _
          have n5 : g5.n = g4.n + 1 := by rw [hg5, H.n_put, H.n_new]
          have r5 : g5.get g4.n = some (.cells [v4] 25 false) := by rw [hg5, get_put_same (by rw [H.n_new]; omega)]
          have X5 := (X3.trans x4).trans x5
          have hct : i / 16 < cnt l.length := by unfold cnt; omega
          obtain ⟨w5, a1, a2⟩ := hS (i / 16) hct
          rw [show 16 * (i / 16) + 1 = i + 1 by omega] at a2
          obtain ⟨bi, oi, i1, i2, i3⟩ := V7.at hct a1
          have i5 : g5.rd1 bi oi = some w5 := by unfold H.rd1 at i2 ⊢; rw [X5.get _ i3]; exact i2
          obtain ⟨t16, ht16⟩ : ∃ t, t = i / 16 := ⟨_, rfl⟩
          have hquo : (i : Int).tdiv 16 = (t16 : Nat) := by rw [ht16]; exact Int.ofNat_tdiv i 16
          rw [← ht16] at i1
          have z5 : IntKind.i64.wrap (t16 : Int) = t16 := wi64 (by omega) (by omega)
          have hS4 : SetR (fun b => g3.n ≤ b) g5 v4 (stI l ad (i + 1)).S := W4.setR.ext x5
          obtain ⟨w, g6, e31, rfl, x6⟩ := (same31_ok hS4 (a2.ext X5) C3.ok.1.small).elim
          have x6n := x6.n
          have r6 : g6.get g4.n = _ := (x6.get _ (H.get_lt r5)).trans r5
          have i6 : g6.rd1 bi oi = some w5 := by unfold H.rd1 at i5 ⊢; rw [x6.get _ (by have := X5.n; omega)]; exact i5
          have hv4 : V.same v4 v4 = true := by obtain ⟨_, k3, _⟩ := hS4; exact k3.same
          have hv5 : V.same w5 w5 = true := by obtain ⟨_, k3, _⟩ := a2; exact k3.same
          have hws : V.cells v4 = some [v4] := by obtain ⟨_, k3, _⟩ := W4.setR; exact k3.cells
          cases hb : d.b with
          | true =>
            rw [hb] at s0
            rw [hb] at hcall
            simp only [if_true] at hcall
            simp [l5_1, e0, Al, e17, hil, show (i : Int) < l.length by omega, q1, q2, e28, nw, hlen, hst, s0, s1, s4, e15, hcall, u4, hmod, hr0, e17', wrN_of (o := 0) get_new_same, splice, hws, ← hg5, rdN_of (o := 0) (n := 1) r5 (by simp), e7, hquo, z5, i1, rdN_one i5, e31, ck, V.same, V.sames, hv4, hv5, rdN_of (o := 0) (n := 1) r6 (by simp), rdN_one i6, z1]
            exact ⟨j, Nat.lt_succ_self j, fin _ ((x4.trans x5).trans x6) _ (by simp [e0]) (by simp [e1]) (by simp [e5]) (by simp [e7]) (by simp [e15]) (by simp [z1])⟩
          | false =>
            rw [hb] at s0
            rw [hb] at hcall
            simp only [Bool.false_eq_true, if_false] at hcall
            simp [l5_1, e0, Al, e17, hil, show (i : Int) < l.length by omega, q1, q2, e28, nw, hlen, hst, s0, s2, s3, s4, e15, hcall, u4, hmod, hr0, e17', wrN_of (o := 0) get_new_same, splice, hws, ← hg5, rdN_of (o := 0) (n := 1) r5 (by simp), e7, hquo, z5, i1, rdN_one i5, e31, ck, V.same, V.sames, hv4, hv5, rdN_of (o := 0) (n := 1) r6 (by simp), rdN_one i6, z1]
            exact ⟨j, Nat.lt_succ_self j, fin _ ((x4.trans x5).trans x6) _ (by simp [e0]) (by simp [e1]) (by simp [e5]) (by simp [e7]) (by simp [e15]) (by simp [z1])⟩
        · cases hb : d.b with
          | true =>
            rw [hb] at s0
            rw [hb] at hcall
            simp only [if_true] at hcall
            simp [l5_1, e0, Al, e17, hil, show (i : Int) < l.length by omega, q1, q2, e28, nw, hlen, hst, s0, s1, s4, e15, hcall, u4, hmod, hr0, z1]
            exact ⟨j, Nat.lt_succ_self j, fin _ (Ext.refl _) _ (by simp [e0]) (by simp [e1]) (by simp [e5]) (by simp [e7]) (by simp [e15]) (by simp [z1])⟩
          | false =>
            rw [hb] at s0
            rw [hb] at hcall
            simp only [Bool.false_eq_true, if_false] at hcall
            simp [l5_1, e0, Al, e17, hil, show (i : Int) < l.length by omega, q1, q2, e28, nw, hlen, hst, s0, s2, s3, s4, e15, hcall, u4, hmod, hr0, z1]
            exact ⟨j, Nat.lt_succ_self j, fin _ (Ext.refl _) _ (by simp [e0]) (by simp [e1]) (by simp [e5]) (by simp [e7]) (by simp [e15]) (by simp [z1])⟩)
  obtain ⟨⟨x, e', g'⟩, r1, r2, r3⟩ := loop l.length e g hi
  simp only at r2 r3
  subst r2
  exact ⟨e', g', r1, r3⟩
end Go.Proofs.Ytfjghgjkpenanaa
