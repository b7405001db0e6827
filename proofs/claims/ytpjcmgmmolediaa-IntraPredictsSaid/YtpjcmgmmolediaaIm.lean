/- IntraFlat. -/
import Derived.Test.YtpjcmgmmolediaaIl
set_option linter.unusedVariables false
set_option linter.unusedSimpArgs false
namespace Go.Proofs.Ytpjcmgmmolediaa
open Go Go.Zf Go.RowKit Go.WideShapes

theorem w6 (p0 p1 p2 : V) (h : H) : KW 6 [p0, p1, p2] h = f6 KW loopZ p0 p1 p2 h := (callW_eqF _ _ _ _ _ _ rfl).trans (congrFun (congrFun (congrFun (congrFun (congrFun (congrFun (r6) _) _) p0) p1) p2) h)

/-- Predict, of edges that fit. -/
theorem pred_fit {h : H} {mode delta : Int} {ha hl : Bool} {A L : V} {a l : List Nat} {c : Int} {m : Nat} (aA : ByAt h A (fitL ha a m)) (aL : ByAt h L (fitL hl l m)) (c0 : 0 ≤ c) (c1 : c ≤ 255) (hz : Sz m = true) (hb : Bad mode delta = false) :
    RT (fun w h' => Ext h h' ∧ ∃ b k : Nat, (k : Int) = (m : Int) * m ∧ w = .tup [.sl b 0 k (.ex k), .int .i64 0] ∧ h.n ≤ b ∧ h'.get b = some (.cells ((List.range k).map (byteAt (predS m mode delta ha hl (fitL ha a m) (fitL hl l m) c) m)) 5 false))
      (KW 14 [.int .i64 m, .int .i64 mode, .int .i64 delta, .agg (edges ha hl A L c)] h) := by
  refine (predict14_ok (n := m) (mode := mode) (delta := delta) (ha := ha) (hl := hl) aA aL c0 c1).mono fun w h' hp => ?_
  obtain ⟨hx, hp⟩ := hp
  refine ⟨hx, ?_⟩
  have hg : Good m ha hl (fitL ha a m).length (fitL hl l m).length = true := by
    unfold Good Fits
    rw [hz]
    cases ha <;> cases hl <;> simp [fitL, strL_length]
  rw [hz, hb, hg] at hp
  simpa using hp

theorem bad_dirs {mode delta : Int} (h0 : 0 ≤ mode) (h1 : mode ≤ 12) (d0 : -3 ≤ delta) (d1 : delta ≤ 3) (hd : Dirs mode delta = true) : Bad mode delta = false := by
  unfold Bad
  unfold Dirs at hd
  unfold angleOf
  by_cases hc : mode < 1 ∨ 8 < mode ∨ delta < -3 ∨ 3 < delta
  · rw [if_pos hc]
    simp at hd ⊢
    omega
  · rw [if_neg hc]
    simp
    omega

structure I6c (v : Nat) (nn : Nat) (q : V) (md dl : Int) (hb g0 : H) (sl : V) (m : Nat) (j : Nat) (en : E) (g : H) : Prop where
  hg : g = g0
  hj : j ≤ m
  p0 : en.s [0, 1, 2, 5, 6, 7, 8, 9, 10, 11, 12, 13] 0 = .int .u8 (v : Nat)
  p7 : en.s [0, 1, 2, 5, 6, 7, 8, 9, 10, 11, 12, 13] 7 = .int .i64 nn
  p8 : en.s [0, 1, 2, 5, 6, 7, 8, 9, 10, 11, 12, 13] 8 = q
  p9 : en.s [0, 1, 2, 5, 6, 7, 8, 9, 10, 11, 12, 13] 9 = .int .i64 md
  p10 : en.s [0, 1, 2, 5, 6, 7, 8, 9, 10, 11, 12, 13] 10 = .int .i64 dl
  p11 : en.s [0, 1, 2, 5, 6, 7, 8, 9, 10, 11, 12, 13] 11 = sl
  p13 : en.s [0, 1, 2, 5, 6, 7, 8, 9, 10, 11, 12, 13] 13 = .int .i64 ((m - j : Nat) : Int)

theorem loop6_0 {v nn m : Nat} {q : V} {md dl : Int} {g : H} {b : Nat} {cs : List V} (hb : g.get b = some (.cells cs 5 false)) (hcs : ∀ i, i < m → cs[i]? = some (.int .u8 (v : Nat))) (hm : (m : Int) = (nn : Int) * nn) (hnn : nn ≤ 64) (en : E) (hi : I6c v nn q md dl g g (.sl b 0 m (.ex m)) m m en g) :
    ∃ e', loopZ (l6_0 KW loopZ) en g = some ⟨.ex 4, e', g⟩ ∧ I6c v nn q md dl g g (.sl b 0 m (.ex m)) m 0 e' g := by
  have hm2 : (m : Int) ≤ 64 * 64 := by rw [hm]; exact (mul_bd (by omega) (by omega) (by omega) (by omega)).2
  have zm : IntKind.i64.wrap ((nn : Int) * nn) = m := by rw [← hm]; exact Go.Zf.wi64 (by omega) (by omega)
  obtain ⟨s, k1, k2, k3⟩ := loop_run (body := l6_0 KW loopZ) (I6c v nn q md dl g g (.sl b 0 m (.ex m)) m) (fun s => s.x = .ex 4 ∧ I6c v nn q md dl g g (.sl b 0 m (.ex m)) m 0 s.e s.h)
    (fun j en g' hi => by
      obtain ⟨rfl, hj, p0, p7, p8, p9, p10, p11, p13⟩ := hi
      cases j with
      | zero =>
        simp [l6_0, p7, zm, p13]
        exact ⟨rfl, rfl, hj, by simpa using p0, by simp, by simpa using p8, by simpa using p9, by simpa using p10, by simpa using p11, by simp⟩
      | succ j =>
        obtain ⟨k, hk⟩ : ∃ k, k = m - (j + 1) := ⟨_, rfl⟩
        have hk2 : m - j = k + 1 := by omega
        rw [← hk] at p13
        have z3 : IntKind.i64.wrap ((k : Int) + 1) = k + 1 := Go.Zf.wi64 (by omega) (by omega)
        have hc := hcs k (by omega)
        simp [l6_0, p7, zm, p13, show (k : Int) < m by omega, show k < m by omega, p11, rd1_of hb, hc, p0, z3]
        exact ⟨j, Nat.lt_succ_self j, rfl, by omega, by simp, by simp [p7], by simp [p8], by simp [p9], by simp [p10], by simp [p11], by simp [hk2]⟩) m en g hi
  obtain ⟨x, e', h'⟩ := s
  simp only at k2 k3
  subst k2
  have := k3.hg
  subst this
  exact ⟨e', k1, k3⟩

structure I6b (v : Nat) (nn : Nat) (q : V) (md : Int) (hb : H) (j : Nat) (en : E) (g : H) : Prop where
  hj : j ≤ 7
  x : Ext hb g
  p0 : en.s [0, 1, 2, 5, 6, 7, 8, 9, 10, 11, 12, 13] 0 = .int .u8 (v : Nat)
  p7 : en.s [0, 1, 2, 5, 6, 7, 8, 9, 10, 11, 12, 13] 7 = .int .i64 nn
  p8 : en.s [0, 1, 2, 5, 6, 7, 8, 9, 10, 11, 12, 13] 8 = q
  p9 : en.s [0, 1, 2, 5, 6, 7, 8, 9, 10, 11, 12, 13] 9 = .int .i64 md
  p10 : en.s [0, 1, 2, 5, 6, 7, 8, 9, 10, 11, 12, 13] 10 = .int .i64 (4 - j : Int)

/-- The edges that the law goes through. -/
structure Ed6 (hb : H) (q : V) (ha hl : Bool) (A L : V) (a l : List Nat) (c : Nat) (m : Nat) : Prop where
  qq : ∃ b, q = .ptr b 0 ∧ hb.get b = some (.cells (edges ha hl A L c) 25 false)
  aA : ByAt hb A (fitL ha a m)
  aL : ByAt hb L (fitL hl l m)
  c : c < 256

theorem loop6_1 {v nn : Nat} {q : V} {md : Int} {hb : H} {ha hl : Bool} {A L : V} {a l : List Nat} {c : Nat} (e : Ed6 hb q ha hl A L a l c nn) (hz : Sz nn = true) (m0 : 0 ≤ md) (m1 : md ≤ 12)
    (hflat : ∀ d x y : Int, 0 ≤ x → x < nn → 0 ≤ y → y < nn → predS nn md d ha hl (fitL ha a nn) (fitL hl l nn) c x y = v) (hv : v < 256) (en : E) (g : H) (hi : I6b v nn q md hb 7 en g) :
    ∃ e' g', loopZ (l6_1 KW loopZ) en g = some ⟨.ex 2, e', g'⟩ ∧ I6b v nn q md hb 0 e' g' := by
  obtain ⟨n4, n64, n0⟩ := sz_even hz
  obtain ⟨s, k1, k2, k3⟩ := loop_run (body := l6_1 KW loopZ) (I6b v nn q md hb) (fun s => s.x = .ex 2 ∧ I6b v nn q md hb 0 s.e s.h)
    (fun j en g hi => by
      obtain ⟨hj, x, p0, p7, p8, p9, p10⟩ := hi
      cases j with
      | zero =>
        simp [l6_1, p10]
        exact ⟨rfl, hj, x, by simpa using p0, by simpa using p7, by simpa using p8, by simpa using p9, by simp⟩
      | succ j =>
        obtain ⟨d, hd⟩ : ∃ d, d = (4 - (j + 1 : Nat) : Int) := ⟨_, rfl⟩
        rw [← hd] at p10
        have z3 : IntKind.i64.wrap (d + 1) = d + 1 := Go.Zf.wi64 (by omega) (by omega)
        have kd := directs22_ok md d g
        -- the guard
        obtain ⟨sk, hsk⟩ : ∃ sk : Bool, sk = (!Dirs md d || (decide ((16 : Int) < nn) && !decide (d.tmod 3 = 0))) := ⟨_, rfl⟩
        cases hsk' : sk with
        | true =>
          have hcase : Dirs md d = false ∨ (Dirs md d = true ∧ (16 : Int) < nn ∧ ¬ d.tmod 3 = 0) := by
            rw [hsk'] at hsk
            cases hdd : Dirs md d
            · exact .inl rfl
            · rw [hdd] at hsk; simp at hsk; exact .inr ⟨rfl, by omega, hsk.2⟩
          rcases hcase with hc | ⟨hc, h16, h3⟩
          · rw [hc] at kd
            simp [l6_1, p10, show d < 4 by omega, p9, kd, gl_t, z3]
            exact ⟨j, Nat.lt_succ_self j, by omega, x, by simp [p0], by simp [p7], by simp [p8], by simp [p9], by simp; omega⟩
          · rw [hc] at kd
            simp [l6_1, p10, show d < 4 by omega, p9, kd, p7, h16, show 16 < nn by omega, h3, z3]
            exact ⟨j, Nat.lt_succ_self j, by omega, x, by simp [p0], by simp [p7], by simp [p8], by simp [p9], by simp; omega⟩
        | false =>
          have hc : Dirs md d = true ∧ (¬ (16 : Int) < nn ∨ d.tmod 3 = 0) := by
            rw [hsk'] at hsk
            cases hdd : Dirs md d
            · rw [hdd] at hsk; simp at hsk
            · rw [hdd] at hsk; simp at hsk
              refine ⟨rfl, ?_⟩
              by_cases h16 : (16 : Int) < nn
              · exact .inr (hsk (by omega))
              · exact .inl h16
          obtain ⟨b, hq, hqb⟩ := e.qq
          have hqb' : g.get b = _ := (x.get _ (H.get_lt hqb)).trans hqb
          obtain ⟨w, g1, r1, x1, ob, k, hk, rfl, hob, hget⟩ := (pred_fit (mode := md) (delta := d) (e.aA.ext x) (e.aL.ext x) (c := c) (by omega) (by have := e.c; omega) hz (bad_dirs m0 m1 (by omega) (by omega) hc.1)).elim
          have hm2 : (k : Int) ≤ 64 * 64 := by rw [hk]; exact (mul_bd (by omega) (by omega) (by omega) (by omega)).2
          have zk : IntKind.i64.wrap ((nn : Int) * nn) = k := by rw [← hk]; exact Go.Zf.wi64 (by omega) (by omega)
          have hcs : ∀ i, i < k → ((List.range k).map (byteAt (predS nn md d ha hl (fitL ha a nn) (fitL hl l nn) c) nn))[i]? = some (.int .u8 (v : Nat)) := by
            intro i hik
            have := hflat d ((i : Int) % nn) ((i : Int) / nn) (Int.emod_nonneg _ (by omega)) (Int.emod_lt_of_pos _ (by omega)) (Int.ediv_nonneg (by omega) (by omega)) (Int.ediv_lt_of_lt_mul (by omega) (by omega))
            simp [hik, byteAt, this, wu8 (n := (v : Int)) (by omega) (by omega)]
          obtain ⟨e', r2, ⟨_, _, s0, s7, s8, s9, s10, s11, s13⟩⟩ := loop6_0 (q := q) (md := md) (dl := d) hget hcs hk (by omega)
            ⟨[.int .u8 (v : Nat), en.s [0, 1, 2, 5, 6, 7, 8, 9, 10, 11, 12, 13] 1, en.s [0, 1, 2, 5, 6, 7, 8, 9, 10, 11, 12, 13] 2, en.s [0, 1, 2, 5, 6, 7, 8, 9, 10, 11, 12, 13] 5, en.s [0, 1, 2, 5, 6, 7, 8, 9, 10, 11, 12, 13] 6, .int .i64 nn, q, .int .i64 md, .int .i64 d, .sl ob 0 k (.ex k), .int .i64 0, .int .i64 0], 13, .int .i64 0⟩ ⟨rfl, Nat.le_refl _, by simp, by simp, by simp, by simp, by simp, by simp, by simp⟩
          have hedl : (edges ha hl A L c).length = 5 := rfl
          rw [hc.1] at kd
          obtain ⟨cs, hcs'⟩ : ∃ cs, cs = edges ha hl A L c := ⟨_, rfl⟩
          rw [← hcs'] at hqb' r1 hedl
          subst hq
          by_cases h16 : 16 < nn
          · have h3 : d.tmod 3 = 0 := by rcases hc.2 with h | h; omega; exact h
            simp [l6_1, p10, show d < 4 by omega, p9, kd, p7, h16, show (16 : Int) < nn by omega, h3, p8, rdN_of (o := 0) (n := 5) hqb' (by omega), List.take_of_length_le, hedl, r1, zk, p0, r2, s10, z3]
            exact ⟨j, Nat.lt_succ_self j, by omega, x.trans x1, by simp [s0], by simp [s7], by simp [s8], by simp [s9], by simp; omega⟩
          · simp [l6_1, p10, show d < 4 by omega, p9, kd, p7, h16, show ¬ (16 : Int) < nn by omega, p8, rdN_of (o := 0) (n := 5) hqb' (by omega), List.take_of_length_le, hedl, r1, zk, p0, r2, s10, z3]
            exact ⟨j, Nat.lt_succ_self j, by omega, x.trans x1, by simp [s0], by simp [s7], by simp [s8], by simp [s9], by simp; omega⟩) 7 en g hi
  obtain ⟨x, e', h'⟩ := s
  simp only at k2 k3
  subst k2
  exact ⟨e', h', k1, k3⟩

structure I6a (v : Nat) (nn : Nat) (q : V) (hb : H) (j : Nat) (en : E) (g : H) : Prop where
  hj : j ≤ 13
  x : Ext hb g
  p0 : en.s [0, 1, 2, 5, 6, 7, 8, 9, 10, 11, 12, 13] 0 = .int .u8 (v : Nat)
  p7 : en.s [0, 1, 2, 5, 6, 7, 8, 9, 10, 11, 12, 13] 7 = .int .i64 nn
  p8 : en.s [0, 1, 2, 5, 6, 7, 8, 9, 10, 11, 12, 13] 8 = q
  p9 : en.s [0, 1, 2, 5, 6, 7, 8, 9, 10, 11, 12, 13] 9 = .int .i64 (13 - j : Int)

theorem Ed6.ext {hb g : H} {q : V} {ha hl : Bool} {A L : V} {a l : List Nat} {c m : Nat} (e : Ed6 hb q ha hl A L a l c m) (x : Ext hb g) : Ed6 g q ha hl A L a l c m :=
  ⟨by obtain ⟨b, h1, h2⟩ := e.qq; exact ⟨b, h1, by rw [x.get _ (H.get_lt h2), h2]⟩, e.aA.ext x, e.aL.ext x, e.c⟩

theorem loop6_2 {v nn : Nat} {q : V} {hb : H} {ha hl : Bool} {A L : V} {a l : List Nat} {c : Nat} (e : Ed6 hb q ha hl A L a l c nn) (hz : Sz nn = true)
    (hflat : ∀ md d x y : Int, 0 ≤ x → x < nn → 0 ≤ y → y < nn → predS nn md d ha hl (fitL ha a nn) (fitL hl l nn) c x y = v) (hv : v < 256) (en : E) (g : H) (hi : I6a v nn q hb 13 en g) :
    ∃ e' g', loopZ (l6_2 KW loopZ) en g = some ⟨.ex 0, e', g'⟩ ∧ I6a v nn q hb 0 e' g' := by
  obtain ⟨s, k1, k2, k3⟩ := loop_run (body := l6_2 KW loopZ) (I6a v nn q hb) (fun s => s.x = .ex 0 ∧ I6a v nn q hb 0 s.e s.h)
    (fun j en g hi => by
      obtain ⟨hj, x, p0, p7, p8, p9⟩ := hi
      cases j with
      | zero =>
        simp [l6_2, p9]
        exact ⟨rfl, hj, x, by simpa using p0, by simpa using p7, by simpa using p8, by simp⟩
      | succ j =>
        obtain ⟨d, hd⟩ : ∃ d, d = (13 - (j + 1 : Nat) : Int) := ⟨_, rfl⟩
        rw [← hd] at p9
        have z3 : IntKind.i64.wrap (d + 1) = d + 1 := Go.Zf.wi64 (by omega) (by omega)
        obtain ⟨e', g', r1, ⟨_, x1, s0, s7, s8, s9, s10⟩⟩ := loop6_1 (md := d) (e.ext x) hz (by omega) (by omega) (fun dl => hflat d dl) hv
          ⟨[.int .u8 (v : Nat), en.s [0, 1, 2, 5, 6, 7, 8, 9, 10, 11, 12, 13] 1, en.s [0, 1, 2, 5, 6, 7, 8, 9, 10, 11, 12, 13] 2, en.s [0, 1, 2, 5, 6, 7, 8, 9, 10, 11, 12, 13] 5, en.s [0, 1, 2, 5, 6, 7, 8, 9, 10, 11, 12, 13] 6, .int .i64 nn, q, .int .i64 d, .int .i64 (-3), en.s [0, 1, 2, 5, 6, 7, 8, 9, 10, 11, 12, 13] 11, en.s [0, 1, 2, 5, 6, 7, 8, 9, 10, 11, 12, 13] 12, en.s [0, 1, 2, 5, 6, 7, 8, 9, 10, 11, 12, 13] 13], 10, .int .i64 (-3)⟩ g ⟨by omega, Ext.refl g, by simp, by simp, by simp, by simp, by simp⟩
        simp [l6_2, p9, show d ≤ 12 by omega, p0, p7, p8, r1, s9, z3]
        exact ⟨j, Nat.lt_succ_self j, by omega, x.trans x1, by simp [s0], by simp [s7], by simp [s8], by simp; omega⟩) 13 en g hi
  obtain ⟨x, e', h'⟩ := s
  simp only at k2 k3
  subst k2
  exact ⟨e', h', k1, k3⟩

theorem strB_one {v : Nat} (k : Nat) : strB [v] k = v := by unfold strB; simp [Nat.mod_one]

theorem sizes5 (r : Nat) (hr : r < 5) : ∃ nn : Nat, [V.int .i64 4, .int .i64 8, .int .i64 16, .int .i64 32, .int .i64 64][r]? = some (.int .i64 nn) ∧ Sz nn = true := by
  match r, hr with
  | 0, _ => exact ⟨4, rfl, rfl⟩
  | 1, _ => exact ⟨8, rfl, rfl⟩
  | 2, _ => exact ⟨16, rfl, rfl⟩
  | 3, _ => exact ⟨32, rfl, rfl⟩
  | 4, _ => exact ⟨64, rfl, rfl⟩

theorem flat_plain {v nn : Nat} (hv : v < 256) {ha hl : Bool} (hh : ha = true ∨ hl = true) (hn : Sz nn = true) (md d x y : Int) (x0 : 0 ≤ x) (x1 : x < nn) (y0 : 0 ≤ y) (y1 : y < nn) : predS nn md d ha hl (fitL ha [v] nn) (fitL hl [v] nn) v x y = v := by
  obtain ⟨n4, n64, n0⟩ := sz_even hn
  have hg : ∀ i, i < nn → (strL [v] nn).getD i 0 = v := fun i hi => by rw [strL_get _ _ _ hi, strB_one]
  have hlen := strL_length [v] nn
  have ent : ∀ has : Bool, ∀ i, i < (fitL has [v] nn).length → (fitL has [v] nn).getD i 0 = v := by
    intro has i hi
    cases has with
    | false => simp [fitL] at hi
    | true => exact hg i (by rw [show fitL true [v] nn = strL [v] nn from rfl, hlen] at hi; exact hi)
  have hc : fC ha hl (fitL ha [v] nn) (fitL hl [v] nn) v = v := by
    unfold fC
    cases ha with
    | true =>
      cases hl with
      | true => simp
      | false => simp only [if_true, Bool.false_eq_true, if_false]; rw [show fitL true [v] nn = strL [v] nn from rfl, hg 0 (by omega)]
    | false =>
      cases hl with
      | true => simp only [if_true, Bool.false_eq_true, if_false]; rw [show fitL true [v] nn = strL [v] nn from rfl, hg 0 (by omega)]
      | false => simp at hh
  have b1 : Bd v v (eOf (strL [v] nn) v) := eOf_bd (fun i hi => by rw [hlen] at hi; rw [hg i hi]; omega) (by omega) (by omega)
  have b2 : Bd v v (eOf [(strL [v] nn).getD 0 0] v) := eOf_bd (fun i hi => by
    have : i = 0 := by simpa using hi
    subst this
    rw [hg 0 (by omega)]; simp) (by simp) (by omega)
  have bA : Bd v v (fA ha hl (fitL ha [v] nn) (fitL hl [v] nn) v) := by
    unfold fA
    rw [hc]
    cases ha with
    | true => exact b1
    | false =>
      cases hl with
      | true => exact b2
      | false => simp at hh
  have bL : Bd v v (fL ha hl (fitL ha [v] nn) (fitL hl [v] nn) v) := by
    unfold fL
    rw [hc]
    cases hl with
    | true => exact b1
    | false =>
      cases ha with
      | true => exact b2
      | false => simp at hh
  have hmean : (meanV (fitL ha [v] nn) (fitL hl [v] nn) : Int) = v := by
    have := mean_bd (a := fitL ha [v] nn) (l := fitL hl [v] nn) (lo := v) (hi := v) (by
      rcases hh with rfl | rfl
      · rw [show fitL true [v] nn = strL [v] nn from rfl, hlen]; omega
      · rw [show fitL true [v] nn = strL [v] nn from rfl, hlen]; omega) (fun i hi => by rw [ent ha i hi]; omega) (fun i hi => by rw [ent hl i hi]; omega)
    omega
  have := predS_bd (n := nn) (mode := md) (delta := d) bA bL (by rw [hc]; omega) (fun _ => by rw [hmean]; omega) (.inr (.inr ⟨rfl, by omega, by omega⟩)) n4 x0 x1 y0 y1
  omega

theorem flat6_ok {v : Nat} {w : Int} {b0 b1 : Bool} (hv : v < 256) (w0 : -9223372036854775808 ≤ w) (w1 : w < 9223372036854775808) (h : H) :
    RT (fun r h' => r = .bool true) (KW 6 [.int .u8 (v : Nat), .int .i64 w, .agg [.bool b0, .bool b1]] h) := by
  obtain ⟨h1, hh1⟩ : ∃ g, g = h.new (.cells [.bool b0, .bool b1] 41 false) := ⟨_, rfl⟩
  have g1 : h1.get h.n = some (.cells [.bool b0, .bool b1] 41 false) := by rw [hh1, get_new_same]
  obtain ⟨h2, hh2⟩ : ∃ g, g = h1.new (.cells [.int .i64 4, .int .i64 8, .int .i64 16, .int .i64 32, .int .i64 64] 3 false) := ⟨_, rfl⟩
  have x2 : Ext h1 h2 := by rw [hh2]; exact (Ext.refl h1).new _
  have g2 : h2.get h1.n = some (.cells [.int .i64 4, .int .i64 8, .int .i64 16, .int .i64 32, .int .i64 64] 3 false) := by rw [hh2, get_new_same]
  have g1' : h2.get h.n = _ := (x2.get _ (H.get_lt g1)).trans g1
  obtain ⟨r, hr, kb⟩ := bring18_ok w 5 h2 (by omega) (by omega) w0 w1
  obtain ⟨nn, hnn, hz⟩ := sizes5 r (by omega)
  obtain ⟨n4, n64, n0⟩ := sz_even hz
  obtain ⟨cs, hcs⟩ : ∃ cs, cs = [V.int .i64 4, .int .i64 8, .int .i64 16, .int .i64 32, .int .i64 64] := ⟨_, rfl⟩
  have g2c := g2
  rw [← hcs] at g2c hnn hh2
  obtain ⟨h3, hh3⟩ : ∃ g, g = (h2.new (.cells [.int .u8 (v : Nat)] 5 false)).new (.cells [.int .u8 (v : Nat)] 5 false) := ⟨_, rfl⟩
  have x3 : Ext h2 h3 := by rw [hh3]; exact ((Ext.refl h2).new _).new _
  have aA : ByAt h3 (.sl h2.n 0 1 (.ex 1)) [v] := ByAt.of (l := [v]) (t := 5) (ro := false) (by rw [hh3, get_new_lt (by rw [H.n_new]; omega), get_new_same]; rfl) (fun i hi => by
    have : i = 0 := by simpa using hi
    subst this; simpa using hv)
  have aL : ByAt h3 (.sl (h2.n + 1) 0 1 (.ex 1)) [v] := ByAt.of (l := [v]) (t := 5) (ro := false) (by rw [hh3, get_new_eq (by rw [H.n_new])]; rfl) (fun i hi => by
    have : i = 0 := by simpa using hi
    subst this; simpa using hv)
  obtain ⟨w', h4, k4, x4, A, L, rfl, bA, bL, _, _⟩ := (fitting19_ok (ha := b0 || !b1) (hl := b1) (c := (v : Int)) aA aL (by simp) (by simp) (m := nn) (by omega)).elim
  obtain ⟨h5, hh5⟩ : ∃ g, g = (h4.new (.cells [.bool false, .bool false, .nils, .nils, .int .u8 0] 25 false)).put h4.n (.cells (edges (b0 || !b1) b1 A L v) 25 false) := ⟨_, rfl⟩
  have x5 : Ext h4 h5 := by rw [hh5]; exact ((Ext.refl h4).new _).put (Nat.le_refl _) _
  have g5 : h5.get h4.n = some (.cells (edges (b0 || !b1) b1 A L v) 25 false) := by rw [hh5, get_put_same (by rw [H.n_new]; omega)]
  have e6 : Ed6 h5 (.ptr h4.n 0) (b0 || !b1) b1 A L [v] [v] v nn := ⟨⟨h4.n, rfl, g5⟩, bA.ext x5, bL.ext x5, hv⟩
  obtain ⟨e', g', r1, ⟨_, x1, s0, s7, s8, s9⟩⟩ := loop6_2 e6 hz (fun md d => flat_plain hv (by cases b0 <;> cases b1 <;> simp) hz md d) hv
    ⟨[.int .u8 (v : Nat), .int .i64 w, .agg [.bool b0, .bool b1], .ptr h.n 0, .bool false, .int .i64 nn, .ptr h4.n 0, .int .i64 0, .und, .und, .und, .und], 9, .int .i64 0⟩ h5 ⟨by omega, Ext.refl _, by simp, by simp, by simp, by simp⟩
  simp only [V_und_tup] at r1
  unfold edges at k4 hh5
  rw [w6, f6, s6]
  have hr5 : r < 5 := by omega
  cases b0 <;> cases b1 <;> simp only [Bool.or_true, Bool.or_false, Bool.not_true, Bool.not_false, Bool.true_or, Bool.false_or] at k4 hh5
  all_goals
    simp [bx, ← hh1, works_ok, bs, fillW, splice, ← hcs, ← hh2, kb, hr, hr5, rd1_of g2c, hnn, rd1_of g1', ← hh3, H.n_new, bl, gl_t, k4, nw, wrN_of (o := 0) get_new_same, ← hh5, r1]
    rfl

theorem cellTypes41 : Try.prog.cellTypes Try.prog.depth 41 = some [4, 4] := by kernel_rfl
theorem cellsOf41 : Try.prog.cellsOf 41 = 2 := by kernel_rfl
theorem arg_bools {w : World} {r : Reach} {b : Nat} {v : Value} (hok : Value.okWide Try.prog w r b 41 v) : ∃ b0 b1, v = .agg #[.bool b0, .bool b1] := by
  unfold Value.okWide at hok
  rw [Try.underlying41] at hok
  obtain ⟨cs, rfl, hcs, ts, hts, _, hrow⟩ := hok
  rw [cellTypes41] at hts
  cases hts
  rw [cellsOf41] at hcs
  obtain ⟨l⟩ := cs
  match l, hcs with
  | [u0, u1], _ =>
    have o0 := hrow 0 u0 rfl
    have o1 := hrow 1 u1 rfl
    simp at o0 o1
    obtain ⟨b0, rfl⟩ := okWide_bool Try.underlying4 (okWide_bl o0)
    obtain ⟨b1, rfl⟩ := okWide_bool Try.underlying4 (okWide_bl o1)
    exact ⟨b0, b1, rfl⟩

theorem wf_i64 {n : Int} (h : (Lit.int .i64 n).wf = true) : -9223372036854775808 ≤ n ∧ n < 9223372036854775808 := by
  simp [Lit.wf, IntKind.min, IntKind.max, IntKind.signed, IntKind.bits] at h
  omega

theorem core6 {Hd : Type} {enc : TypeId × Value → Hd} {W : World} {base : Nat} {v0 v1 v2 : Value} {d0 d1 d2 : DataW Hd} {p0 p1 p2 : List MemPlace} {k : Prop}
    (hok : Value.okWide Try.prog W .any base 5 v0) (hd : DataW.Trod enc Try.prog W 0 (fun _ => true) true 5 v0 d0 p0)
    (hok1 : Value.okWide Try.prog W .any base 3 v1) (hd1 : DataW.Trod enc Try.prog W 0 (fun _ => true) true 3 v1 d1 p1)
    (hok2 : Value.okWide Try.prog W .any base 41 v2) (hd2 : DataW.Trod enc Try.prog W 0 (fun _ => true) true 41 v2 d2 p2) (hk : k) :
    Calls Try.prog 6 #[v0, v1, v2] W fun e W' => e = .returned (.bool true) ∧ Go.RowKit.Below W.heap.size W W' := by
  obtain ⟨m, rfl, _, _, wd0⟩ := Go.ChangeShapes.open_int Try.underlying5 hok hd
  obtain ⟨d, rfl, _, _, wd⟩ := Go.ChangeShapes.open_int Try.underlying3 hok1 hd1
  obtain ⟨b0, b1, rfl⟩ := arg_bools hok2
  obtain ⟨v, hv, rfl⟩ := wf_u8 wd0
  have hw := wf_i64 wd
  obtain ⟨r, h', hr, rfl⟩ := (flat6_ok (b0 := b0) (b1 := b1) hv hw.1 hw.2 H.empty).elim
  have a := ArgH.empty W
  exact law_calls (us := [.int .u8 v, .int .i64 d, .agg #[.bool b0, .bool b1]]) (callW_ok mixed kp ov2_ok hr) a.rel (.cons (.int _ _) (.cons (.int _ _) (.cons (.agg (.cons (.bool _) (.cons (.bool _) .nil)) rfl) .nil))) a.dom a.no
end Go.Proofs.Ytpjcmgmmolediaa
