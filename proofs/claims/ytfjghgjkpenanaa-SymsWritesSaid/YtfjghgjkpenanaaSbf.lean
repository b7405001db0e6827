/- SymsBack: the writer's loop. -/
import Derived.Test.YtfjghgjkpenanaaSbe
set_option linter.unusedVariables false
set_option linter.unusedSimpArgs false
set_option maxRecDepth 20000
namespace Go.Proofs.Ytfjghgjkpenanaa
open Go Go.Zf
open Go.Zf (wi64)

def cnt (i : Nat) : Nat := (i + 15) / 16
/-- The sets that were taken on the way. -/
def Sets (G : Nat → Prop) (g : H) (cs : List V) (l : List Dd) (ad : Bool) (n : Nat) : Prop := ∀ t, t < n → ∃ w, cs[t]? = some (.agg [w]) ∧ SetR G g w (stI l ad (16 * t + 1)).S
def Sets' (G : Nat → Prop) (g : H) (cs : List V) (l : List Dd) (ad : Bool) (n : Nat) : Prop := ∀ t, t < n → ∃ w, cs[t]? = some w ∧ SetR G g w (stI l ad (16 * t + 1)).S

structure IA (h0 : H) (v : V) (ad : Bool) (l : List Dd) (j : Nat) (e : E) (g : H) : Prop where
  hj : j ≤ l.length
  x : Ext h0 g
  q : ∃ D G p m vs cs, CoderAt D g p m (stI l ad (l.length - j)) ∧ (∀ b, D b → h0.n ≤ b ∧ b < g.n) ∧ m ≤ 16 * (l.length - j) ∧ GrowV h0.n g vs 25 1 cs (cnt (l.length - j)) ∧ (∀ b o n k, vs = .sl b o n k → ¬ D b) ∧
    (∀ b, G b → b < g.n ∧ ¬ D b ∧ ∀ o n k, vs ≠ .sl b o n k) ∧ Sets' G g cs l ad (cnt (l.length - j)) ∧ e.s k5 5 = .ptr p 0 ∧ e.s k5 7 = vs
  e0 : e.s k5 0 = v
  e1 : e.s k5 1 = .bool ad
  e8 : e.s k5 8 = .int .i64 ((l.length - j : Nat) : Int)

theorem call5 {D : Nat → Prop} {g : H} {p m : Nat} {l : List Dd} {ad : Bool} {i : Nat} {x : Dd} (hx : l[i]? = some x) (C : CoderAt D g p m (stI l ad i)) (hm : m < 90000000) :
    ∃ g', (if x.b then KW 29 [.ptr p 0, .int .i64 x.may.n, .int .i64 x.may.v] g = some (.ret (.tup [.int .i64 x.may.v, .int .i64 0]), g') else KW 30 [.ptr p 0, .int .i64 x.may.k, .int .i64 x.may.c, .int .i64 x.may.v] g = some (.ret (.tup [.int .i64 x.may.v, .int .i64 0]), g')) ∧
      CoderAt (grow D g g') g' p (m + 16) (stI l ad (i + 1)) ∧ Mod D g g' := by
  have up : ∀ {D : Nat → Prop} {g : H} {p m m' : Nat} {st : St}, CoderAt D g p m st → m ≤ m' → m' < 100000000 → CoderAt D g p m' st := by
    intro D g p m m' st a h1 h2
    obtain ⟨vo, vi, vs, Ds, Dw, a1, a2, a3, a4, a5, a6, a7, a8, a9⟩ := a
    refine ⟨vo, vi, vs, Ds, Dw, a1, a2, a3, ?_, a5, a6, ⟨a7.1, by omega⟩, a8, a9⟩
    cases hs : st.sd with
    | w o lo r => rw [hs] at a4; exact ⟨a4.1, by have := a4.2.1; omega, h2⟩
    | r o lo r => rw [hs] at a4; exact ⟨a4.1, a4.2.1, h2⟩
  cases hb : x.b with
  | true =>
    obtain ⟨n, v, h1, h2, h3, h4, h5⟩ := op_num hb
    obtain ⟨k1, k2, _⟩ := stI_num ad hx h1
    obtain ⟨w, g', e, rfl, C', M⟩ := (bits29_ok (n := n) (v := (v : Int)) C (by have := h2.1; omega) (by have := h2.1; omega) (fun _ => ⟨by omega, by have := h2.2; simp only [pw]; omega⟩)).elim
    rw [Int.toNat_natCast] at e C'
    rw [k1] at C'
    rw [k2] at e
    refine ⟨g', by rw [h4, h5]; exact e, up C' (by have := h2.1; omega) (by omega), M⟩
  | false =>
    obtain ⟨k, c, v, h1, h2, h3, h4, h5, h6⟩ := op_sym hb
    obtain ⟨k1, k2, _⟩ := stI_sym ad hx h1
    obtain ⟨w, g', e, rfl, C', M⟩ := (symbol30_ok (k := k) (c := c) (v := (v : Int)) C (by omega) h2.1 h2.2.1 (fun _ => ⟨by omega, by have := h2.2.2; omega⟩)).elim
    rw [k1] at C'
    rw [k2] at e
    refine ⟨g', by rw [h4, h5, h6]; simpa using e, up C' (by omega) (by omega), M⟩

theorem loop5_0 {h0 : H} {v : V} {ad : Bool} {l : List Dd} (hl : l.length ≤ 400) (A : DosAt h0 v l) {e : E} {g : H} (hi : IA h0 v ad l l.length e g) :
    ∃ e' g', loopZ (l5_0 KW loopZ) e g = some ⟨.ex 0, e', g'⟩ ∧ IA h0 v ad l 0 e' g' := by
  have loop := loop_run (body := l5_0 KW loopZ) (IA h0 v ad l) (fun s => s.x = .ex 0 ∧ IA h0 v ad l 0 s.e s.h)
    (fun j e g hi => by
      obtain ⟨hj, x, ⟨D, G, p, m, vs, cs, C, hD, hm, V7, hV, hG, hS, e5, e7⟩, e0, e1, e8⟩ := hi
      simp only [k5] at e0 e1 e5 e7 e8
      have Al := A.len
      cases j with
      | zero =>
        rw [Nat.sub_zero] at e8
        simp [l5_0, e0, Al, e8]
        exact ⟨rfl, hj, x, ⟨D, G, p, m, vs, cs, C, hD, hm, V7, hV, hG, hS, by simp [e5], by simp [e7]⟩, by simp [e0], by simp [e1], by simp [e8]⟩
      | succ j =>
        obtain ⟨i, hi⟩ : ∃ i, i = l.length - (j + 1) := ⟨_, rfl⟩
        have hi2 : l.length - j = i + 1 := by omega
        rw [← hi] at e8 hm V7 C hS
        have hil : i < l.length := by omega
        obtain ⟨d, hd⟩ := get_of_lt hil
        obtain ⟨dfit, b, o, q1, q2, _, _, _⟩ := (A.ext x).at hd
        have z1 : IntKind.i64.wrap ((i : Int) + 1) = i + 1 := wi64 (by omega) (by omega)
        obtain ⟨w, g1, e28, rfl, x1⟩ := (may28_ok d g).elim
        obtain ⟨g2, hg2⟩ : ∃ y, y = (g1.new (.cells [.bool false, .int .i64 0, .int .i64 0, .int .i64 0, .int .i64 0] 43 false)).put g1.n (.cells d.may.cells 43 false) := ⟨_, rfl⟩
        have x2 : Ext g1 g2 := by rw [hg2]; exact ((Ext.refl g1).new _).put (Nat.le_refl _) _
        have n2 : g2.n = g1.n + 1 := by rw [hg2, H.n_put, H.n_new]
        have r2 : g2.get g1.n = some (.cells d.may.cells 43 false) := by rw [hg2, get_put_same (by rw [H.n_new]; omega)]
        have hst : (g1.new (.cells [.bool false, .int .i64 0, .int .i64 0, .int .i64 0, .int .i64 0] 43 false)).wrN g1.n 0 d.may.cells = some g2 := by
          rw [wrN_of (o := 0) get_new_same (by simp [Dd.cells]), hg2, splice]; simp [Dd.cells]
        have C2 := (C.ext x1).ext x2
        have x1n := x1.n
        obtain ⟨g3, hcall, C3, M3⟩ := call5 hd C2 (by omega)
        have M3n := M3.n
        have hyb : d.may.b = d.b := by unfold Dd.may; split <;> simp_all
        obtain ⟨y, hy⟩ : ∃ y, y = d.may := ⟨_, rfl⟩
        rw [← hy] at e28 r2 hst hcall hyb
        have hlen : y.cells.length = 5 := rfl
        have hgn : g1.n < g2.n := by omega
        have r3 : g3.get g1.n = some (.cells y.cells 43 false) := by rw [M3.get g1.n hgn (fun h => by have := (hD _ h).2; omega), r2]
        have rb : ∀ (g : H), g.get g1.n = some (.cells y.cells 43 false) → g.rd1 g1.n 0 = some (.bool y.b) ∧ g.rd1 g1.n 1 = some (.int .i64 y.n) ∧ g.rd1 g1.n 2 = some (.int .i64 y.k) ∧ g.rd1 g1.n 3 = some (.int .i64 y.c) ∧ g.rd1 g1.n 4 = some (.int .i64 y.v) := fun g hg => by
          refine ⟨?_, ?_, ?_, ?_, ?_⟩ <;> rw [rd1_of hg] <;> rfl
        obtain ⟨s0, s1, s2, s3, s4⟩ := rb g2 r2
        obtain ⟨u0, u1, u2, u3, u4⟩ := rb g3 r3
        rw [hyb] at s0
        have X3 : Ext h0 g3 := M3.ext ((x.trans x1).trans x2) fun c hc h => by have := (hD _ h).1; omega
        obtain ⟨r, hr⟩ : ∃ r, r = i % 16 := ⟨_, rfl⟩
        have hmod : (i : Int).tmod 16 = (r : Nat) := by rw [hr]; exact Int.ofNat_tmod i 16
        have hD3 : ∀ b, grow D g2 g3 b → h0.n ≤ b ∧ b < g3.n := fun b hb => by
          have := x.n
          rcases hb with hb | hb
          · have := hD b hb; omega
          · omega
        have hVu := V7.under
        have V3 : GrowV h0.n g3 vs 25 1 cs (cnt i) := ((V7.ext x1).ext x2).keep fun c o n k hc => M3.get c (by have := hVu c o n k hc; omega) (hV _ _ _ _ hc)
        have hV3 : ∀ b o n k, vs = .sl b o n k → ¬ grow D g2 g3 b := fun b o n k hb hd => by
          rcases hd with hd | hd
          · exact hV _ _ _ _ hb hd
          · have := hVu b o n k hb; omega
        have hG3 : ∀ b, G b → b < g3.n ∧ ¬ grow D g2 g3 b ∧ ∀ o n k, vs ≠ .sl b o n k := fun b hb => by
          have := hG b hb
          refine ⟨by omega, fun hd => ?_, this.2.2⟩
          rcases hd with hd | hd
          · exact this.2.1 hd
          · omega
        have hS3 : Sets' G g3 cs l ad (cnt i) := fun t ht => by
          obtain ⟨w, a1, a2⟩ := hS t ht
          exact ⟨w, a1, ((a2.ext x1).ext x2).keep fun b hb hb2 => M3.get b hb2 (hG b hb).2.1⟩
        by_cases hr0 : r = 0
        · -- a set is taken
          obtain ⟨w, g4, e17, v4, rfl, W4, x4⟩ := (set17_ok C3).elim
          have x4n := x4.n
          obtain ⟨g5, hg5⟩ : ∃ y, y = (g4.new (.cells [.nils] 25 false)).put g4.n (.cells [v4] 25 false) := ⟨_, rfl⟩
          have x5 : Ext g4 g5 := by rw [hg5]; exact ((Ext.refl g4).new _).put (Nat.le_refl _) _
          have n5 : g5.n = g4.n + 1 := by rw [hg5, H.n_put, H.n_new]
          have r5 : g5.get g4.n = some (.cells [v4] 25 false) := by rw [hg5, get_put_same (by rw [H.n_new]; omega)]
          have V5 := (V3.ext x4).ext x5
          have hcn : cnt i = i / 16 := by unfold cnt; omega
          have hcn1 : cnt (i + 1) = cnt i + 1 := by unfold cnt; omega
          obtain ⟨v6, g6, k1, k2, k3, k4⟩ := push1n (e := 25) (bytes := 24) v4 V5 (by have := X3.n; omega) (by omega)
          have C6 : CoderAt (grow D g2 g3) g6 p (m + 16) (stI l ad (i + 1)) := ((C3.ext x4).ext x5).keep k3 fun b hb hb2 => k4 b hb2 fun o n k hc => hV3 _ _ _ _ hc hb
          have hws : V.cells v4 = some [v4] := by obtain ⟨_, k3, _⟩ := W4.setR; exact k3.cells
          have hwi : v4.isCell = true := by obtain ⟨_, k3, _⟩ := W4.setR; exact k3.cell
          have hV6 : ∀ b o n k, v6 = .sl b o n k → g5.n ≤ b := fun b o n k hb => k2.fresh b o n k hb
          have X6 : Ext h0 g6 := by
            refine ⟨by have := X3.n; omega, fun c hc => ?_⟩
            have hn3 := X3.n
            rw [k4 c (by omega) (fun o n k hcc => by have := V7.fresh c o n k hcc; omega), x5.get c (by omega), x4.get c (by omega), X3.get c hc]
          have hS6 : Sets' (fun b => G b ∨ (g3.n ≤ b ∧ b < g4.n)) g6 (cs ++ [v4]) l ad (cnt (i + 1)) := fun t ht => by
            have hcl : cs.length = cnt i := by
              rcases V7 with ⟨_, h2, h3⟩ | ⟨b, _, _, h3, _⟩
              · rw [h3, h2]; rfl
              · omega
            by_cases htc : t < cnt i
            · obtain ⟨w, a1, a2⟩ := hS3 t htc
              refine ⟨w, by rw [List.getElem?_append_left (by omega), a1], (((a2.ext x4).ext x5).keep fun b hb hb2 => k4 b hb2 ((hG3 b hb).2.2)).mono fun b _ hb => .inl hb⟩
            · have : t = i / 16 := by omega
              subst this
              refine ⟨v4, by rw [List.getElem?_append_right (by omega), hcl, ← hcn, Nat.sub_self]; rfl, ?_⟩
              have hw : SetR (fun b => g3.n ≤ b ∧ b < g4.n) g4 v4 (stI l ad (i + 1)).S := W4.setR.mono fun b hb hd => ⟨hd, hb⟩
              rw [show 16 * (i / 16) + 1 = i + 1 by omega]
              refine ((hw.ext x5).keep fun b hb hb2 => k4 b hb2 fun o n k hcc => ?_).mono fun b _ hb => .inr hb
              have := (V3.under b o n k hcc); omega
          have fin : ∀ e' : E, e'.s k5 0 = v → e'.s k5 1 = .bool ad → e'.s k5 5 = .ptr p 0 → e'.s k5 7 = v6 → e'.s k5 8 = .int .i64 ((i + 1 : Nat) : Int) → IA h0 v ad l j e' g6 := fun e' b0 b1 b5 b7 b8 => by
            refine ⟨by omega, X6, ⟨grow D g2 g3, _, p, m + 16, v6, _, by rw [hi2]; exact C6, fun b hb => ⟨(hD3 b hb).1, by have := (hD3 b hb).2; omega⟩, by omega, ?_, fun b o n k hb hd => ?_, fun b hb => ?_, by rw [hi2]; exact hS6, b5, b7⟩, b0, b1, by rw [hi2]; exact b8⟩
            · rw [hi2, hcn1]
              have hn3 := X3.n
              rcases k2 with a | ⟨b, a1, a2, a3, a4⟩
              · exact .inl a
              · exact .inr ⟨b, a1, a2, a3, by omega⟩
            · have := hV6 b o n k hb; have := (hD3 b hd).2; omega
            · rcases hb with hb | hb
              · have := hG3 b hb
                exact ⟨by omega, this.2.1, fun o n k hc => by have := hV6 b o n k hc; omega⟩
              · refine ⟨by omega, fun hd => ?_, fun o n k hc => by have := hV6 b o n k hc; omega⟩
                have := (hD3 b hd).2; omega
          have hbs : bs g5 25 1 [.nils] [(some (0, 1), .agg [v4])] = some (.sl g5.n 0 1 (.ex 1), g5.new (.cells [v4] 25 false)) := by
            simp [bs, fillW, splice, V.cells, hws]
          cases hb : d.b with
          | true =>
            rw [hb] at s0
            rw [hb] at hcall
            simp only [if_true] at hcall
            simp [l5_0, e0, Al, e8, hil, show (i : Int) < l.length by omega, q1, q2, e28, nw, hlen, hst, s0, s1, s4, e5, hcall, u4, hmod, hr0, e17, wrN_of (o := 0) get_new_same, splice, hws, ← hg5, rdN_of (o := 0) (n := 1) r5 (by simp), hbs, e7, k1, z1]
            exact ⟨j, Nat.lt_succ_self j, fin _ (by simp [e0]) (by simp [e1]) (by simp [e5]) (by simp [e7]) (by simp [z1])⟩
          | false =>
            rw [hb] at s0
            rw [hb] at hcall
            simp only [Bool.false_eq_true, if_false] at hcall
            simp [l5_0, e0, Al, e8, hil, show (i : Int) < l.length by omega, q1, q2, e28, nw, hlen, hst, s0, s2, s3, s4, e5, hcall, u4, hmod, hr0, e17, wrN_of (o := 0) get_new_same, splice, hws, ← hg5, rdN_of (o := 0) (n := 1) r5 (by simp), hbs, e7, k1, z1]
            exact ⟨j, Nat.lt_succ_self j, fin _ (by simp [e0]) (by simp [e1]) (by simp [e5]) (by simp [e7]) (by simp [z1])⟩
        · have hcn1 : cnt (i + 1) = cnt i := by unfold cnt; omega
          have fin : ∀ e' : E, e'.s k5 0 = v → e'.s k5 1 = .bool ad → e'.s k5 5 = .ptr p 0 → e'.s k5 7 = vs → e'.s k5 8 = .int .i64 ((i + 1 : Nat) : Int) → IA h0 v ad l j e' g3 := fun e' b0 b1 b5 b7 b8 => by
            exact ⟨by omega, X3, ⟨grow D g2 g3, _, p, m + 16, vs, _, by rw [hi2]; exact C3, hD3, by omega, by rw [hi2, hcn1]; exact V3, hV3, hG3, by rw [hi2, hcn1]; exact hS3, b5, b7⟩, b0, b1, by rw [hi2]; exact b8⟩
          cases hb : d.b with
          | true =>
            rw [hb] at s0
            rw [hb] at hcall
            simp only [if_true] at hcall
            simp [l5_0, e0, Al, e8, hil, show (i : Int) < l.length by omega, q1, q2, e28, nw, hlen, hst, s0, s1, s4, e5, hcall, u4, hmod, hr0, z1]
            exact ⟨j, Nat.lt_succ_self j, fin _ (by simp [e0]) (by simp [e1]) (by simp [e5]) (by simp [e7]) (by simp [z1])⟩
          | false =>
            rw [hb] at s0
            rw [hb] at hcall
            simp only [Bool.false_eq_true, if_false] at hcall
            simp [l5_0, e0, Al, e8, hil, show (i : Int) < l.length by omega, q1, q2, e28, nw, hlen, hst, s0, s2, s3, s4, e5, hcall, u4, hmod, hr0, z1]
            exact ⟨j, Nat.lt_succ_self j, fin _ (by simp [e0]) (by simp [e1]) (by simp [e5]) (by simp [e7]) (by simp [z1])⟩)
  obtain ⟨⟨x, e', g'⟩, r1, r2, r3⟩ := loop l.length e g hi
  simp only at r2 r3
  subst r2
  exact ⟨e', g', r1, r3⟩
end Go.Proofs.Ytfjghgjkpenanaa
