/- IntraBetween. -/
import Derived.Test.YtpjcmgmmolediaaIm
set_option linter.unusedVariables false
set_option linter.unusedSimpArgs false
namespace Go.Proofs.Ytpjcmgmmolediaa
open Go Go.Zf Go.RowKit Go.WideShapes

theorem w7 (p0 p1 : V) (h : H) : KW 7 [p0, p1] h = f7 KW loopZ p0 p1 h := (callW_eqF _ _ _ _ _ _ rfl).trans (congrFun (congrFun (congrFun (congrFun (congrFun (r7) _) _) p0) p1) h)
theorem w23 (p0 p1 : V) (h : H) : KW 23 [p0, p1] h = f23 KW loopZ p0 p1 h := (callW_eqF _ _ _ _ _ _ rfl).trans (congrFun (congrFun (congrFun (congrFun (congrFun (r23) _) _) p0) p1) h)

structure I23 (v : V) (l : List Nat) (g0 : H) (j : Nat) (en : E) (g : H) : Prop where
  hg : g = g0
  hj : j ≤ l.length
  p6 : en.s [0, 1, 2, 4, 5, 6, 7, 8, 9] 6 = v
  p9 : en.s [0, 1, 2, 4, 5, 6, 7, 8, 9] 9 = .int .i64 ((l.length - j : Nat) : Int)
  p78 : ∃ lo hi : Int, en.s [0, 1, 2, 4, 5, 6, 7, 8, 9] 7 = .int .i64 lo ∧ en.s [0, 1, 2, 4, 5, 6, 7, 8, 9] 8 = .int .i64 hi ∧ ∀ i, i < l.length - j → lo ≤ (l.getD i 0 : Nat) ∧ ((l.getD i 0 : Nat) : Int) ≤ hi

theorem loop23 {v : V} {l : List Nat} {g : H} (a : ByAt g v l) (hl : l.length < 1000000) (en : E) (hi : I23 v l g l.length en g) :
    ∃ e', loopZ (l23_0 KW loopZ) en g = some ⟨.ex 0, e', g⟩ ∧ I23 v l g 0 e' g := by
  obtain ⟨s, k1, k2, k3⟩ := loop_run (body := l23_0 KW loopZ) (I23 v l g) (fun s => s.x = .ex 0 ∧ I23 v l g 0 s.e s.h)
    (fun j en g' hi => by
      obtain ⟨rfl, hj, p6, p9, lo, hi', p7, p8, hb⟩ := hi
      cases j with
      | zero =>
        simp [l23_0, p6, a.len, p9]
        exact ⟨rfl, rfl, hj, by simp [p6], by simp, lo, hi', by simp [p7], by simp [p8], hb⟩
      | succ j =>
        obtain ⟨k, hk⟩ : ∃ k, k = l.length - (j + 1) := ⟨_, rfl⟩
        have hk2 : l.length - j = k + 1 := by omega
        rw [← hk] at p9 hb
        obtain ⟨b, o, g1, g2, g3⟩ := a.at_ k (by omega)
        have hlt := a.lt k (by omega)
        obtain ⟨x, hx⟩ : ∃ x, x = l.getD k 0 := ⟨_, rfl⟩
        rw [← hx] at g2 hlt
        have z1 : IntKind.i64.wrap (x : Int) = x := Go.Zf.wi64 (by omega) (by omega)
        have z3 : IntKind.i64.wrap ((k : Int) + 1) = k + 1 := Go.Zf.wi64 (by omega) (by omega)
        simp [l23_0, p6, a.len, p9, show (k : Int) < l.length by omega, show k < l.length by omega, g1, g2, z1, p7, p8, z3]
        refine ⟨j, Nat.lt_succ_self j, rfl, by omega, by simp [p6], by simp [hk2], (if (x : Int) < lo then (x : Int) else lo), (if hi' < (x : Int) then (x : Int) else hi'), by simp, by simp, fun i hi2 => ?_⟩
        rw [hk2] at hi2
        by_cases hik : i = k
        · subst hik; rw [← hx]
          constructor <;> split <;> omega
        · have := hb i (by omega)
          constructor <;> split <;> omega) l.length en g hi
  obtain ⟨x, e', h'⟩ := s
  simp only at k2 k3
  subst k2
  have := k3.hg
  subst this
  exact ⟨e', k1, k3⟩

/-- The bounds of what may be seen. -/
def BdSpec (ha hl : Bool) (a l : List Nat) (c : Nat) (mode lo hi : Int) : Prop :=
  if a = [] ∧ l = [] then (if mode = 0 then lo = 128 ∧ hi = 128 else lo = 127 ∧ hi = 129)
  else (∀ i, i < a.length → lo ≤ (a.getD i 0 : Nat) ∧ ((a.getD i 0 : Nat) : Int) ≤ hi) ∧ (∀ i, i < l.length → lo ≤ (l.getD i 0 : Nat) ∧ ((l.getD i 0 : Nat) : Int) ≤ hi) ∧ (ha = true → hl = true → mode ≠ 0 → lo ≤ c ∧ (c : Int) ≤ hi)

theorem getD_app_left (a l : List Nat) (i : Nat) (h : i < a.length) : (a ++ l).getD i 0 = a.getD i 0 := by simp [List.getElem?_append_left h]
theorem getD_app_right (a l : List Nat) (i : Nat) : (a ++ l).getD (a.length + i) 0 = l.getD i 0 := by simp [List.getElem?_append_right (Nat.le_add_right _ _)]

theorem bounds23_ok {h : H} {ha hl : Bool} {A L : V} {a l : List Nat} {c : Nat} {mode : Int} (aA : ByAt h A a) (aL : ByAt h L l) (la : a.length ≤ 64) (ll : l.length ≤ 64) (hc : c < 256) (hh : ha = true → 0 < a.length) :
    RT (fun w h' => Ext h h' ∧ ∃ lo hi, w = .tup [.int .i64 lo, .int .i64 hi] ∧ BdSpec ha hl a l c mode lo hi) (KW 23 [.agg (edges ha hl A L c), .int .i64 mode] h) := by
  unfold edges
  obtain ⟨h1, hh1⟩ : ∃ g, g = h.new (.cells [.bool ha, .bool hl, A, L, .int .u8 (c : Nat)] 25 false) := ⟨_, rfl⟩
  have x1 : Ext h h1 := by rw [hh1]; exact (Ext.refl h).new _
  have g1 : h1.get h.n = some (.cells [.bool ha, .bool hl, A, L, .int .u8 (c : Nat)] 25 false) := by rw [hh1, get_new_same]
  have hn1 : h1.n = h.n + 1 := by rw [hh1, H.n_new]
  have bA := aA.ext x1
  have bL := aL.ext x1
  obtain ⟨v2, h2, k2, G2, n2, f2, s2⟩ := apZ_grow (p := h1.n) (e := 5) (z := 1) (bytes := 1) (h := h1) (v := .nils) (n := 0) (cs := []) (GrowV.nil _ _ _ _) (Nat.le_refl _) bA.ln bA.first (by simp [bytesV_length]) (by omega)
  have x2 : Ext h1 h2 := ⟨n2, fun c hc => f2 c hc (fun o n k e => by cases e)⟩
  have g2 : h2.get h.n = _ := (x2.get _ (H.get_lt g1)).trans g1
  obtain ⟨v3, h3, k3, G3, n3, f3, s3⟩ := apZ_grow (bytes := 1) G2 n2 (bL.ext x2).ln (bL.ext x2).first (by simp [bytesV_length]) (by omega)
  have w2 : ∀ c, c < h1.n → ∀ o n k, v2 ≠ .sl c o n k := by
    rcases G2 with ⟨rfl, _⟩ | ⟨b, rfl, _, _, hb⟩
    · intro c hc o n k e; cases e
    · intro c hc o n k e; cases e; omega
  have x3 : Ext h1 h3 := ⟨by omega, fun c hc => by rw [f3 c (by omega) (w2 c hc), x2.get c hc]⟩
  have g3 : h3.get h.n = _ := (x3.get _ (H.get_lt g1)).trans g1
  simp only [List.nil_append, ← bytesV_append, Nat.zero_add] at G3
  have hlt2 : ∀ i : Nat, i < (a ++ l).length → (a ++ l).getD i 0 < 256 := by
    intro i hi
    by_cases hia : i < a.length
    · rw [getD_app_left _ _ _ hia]; exact aA.lt i hia
    · rw [show i = a.length + (i - a.length) by omega, getD_app_right]; exact aL.lt _ (by rw [List.length_append] at hi; omega)
  have B3 := G3.by hlt2
  have hlen3 := G3.len
  have sA := aA.same
  have sL := aL.same
  rw [w23, f23, s23]
  by_cases he : a = [] ∧ l = []
  · have hz : (a.length + l.length : Nat) = 0 := by rw [he.1, he.2]; rfl
    rw [hz] at hlen3
    unfold BdSpec
    by_cases hm : mode = 0
    · simp [bx, ← hh1, rd1_of g1, k2, rd1_of g2, k3, hlen3, hm]
      exact ⟨x1.trans x3, 128, 128, rfl, by simp [he]⟩
    · simp [bx, ← hh1, rd1_of g1, k2, rd1_of g2, k3, hlen3, hm]
      exact ⟨x1.trans x3, 127, 129, rfl, by simp [he]⟩
  · have hz : ¬ ((a.length + l.length : Nat) : Int) = 0 := by
      intro e
      apply he
      constructor
      · cases a with
        | nil => rfl
        | cons x y => simp at e; omega
      · cases l with
        | nil => rfl
        | cons x y => simp at e; omega
    obtain ⟨N, hN⟩ : ∃ N, N = a.length + l.length := ⟨_, rfl⟩
    rw [← hN] at hz hlen3 G3
    have hNl : (a ++ l).length = N := by rw [List.length_append, hN]
    have hz' : ¬ N = 0 := by omega
    obtain ⟨cc, hcc⟩ : ∃ cc : Bool, cc = (ha && hl && !decide (mode = 0)) := ⟨_, rfl⟩
    cases hcc' : cc with
    | true =>
      rw [hcc'] at hcc
      have h1' : ha = true ∧ hl = true ∧ ¬ mode = 0 := by simp at hcc; exact ⟨hcc.1.1, hcc.1.2, hcc.2⟩
      obtain ⟨rfl, rfl, hm⟩ := h1'
      obtain ⟨h4, hh4⟩ : ∃ g, g = h3.new (.cells [.int .u8 (c : Nat)] 5 false) := ⟨_, rfl⟩
      have x4 : Ext h3 h4 := by rw [hh4]; exact (Ext.refl h3).new _
      have B4 : ByAt h4 (.sl h3.n 0 1 (.ex 1)) [c] := ByAt.of (l := [c]) (t := 5) (ro := false) (by rw [hh4, get_new_same]; rfl) (fun i hi => by
        have : i = 0 := by simpa using hi
        subst this; simpa using hc)
      obtain ⟨v5, h5, k5, G5, n5, f5, s5⟩ := apZ_grow (bytes := 1) (G3.ext x4) (by have := x4.n; omega) B4.ln B4.first (by simp [bytesV_length]) (by simp; omega)
      have w3 : ∀ c, c < h1.n → ∀ o n k, v3 ≠ .sl c o n k := by
        rcases G3 with ⟨rfl, _⟩ | ⟨b, rfl, _, _, hb⟩
        · intro c hc o n k e; cases e
        · intro c hc o n k e; cases e; omega
      have x5 : Ext h1 h5 := ⟨by have := x4.n; omega, fun c hc => by rw [f5 c (by have := x4.n; omega) (w3 c hc), x4.get c (by omega), x3.get c hc]⟩
      rw [← bytesV_append] at G5
      have B5 := G5.by (fun i hi => by
        by_cases hia : i < (a ++ l).length
        · rw [getD_app_left _ _ _ hia]; exact hlt2 i hia
        · have : i = (a ++ l).length + 0 := by simp at hi ⊢; omega
          rw [this, getD_app_right]; simpa using hc)
      obtain ⟨e', r1, ⟨_, _, p6, p9, lo, hi, p7, p8, hb⟩⟩ := loop23 B5 (by simp; omega) ⟨[.agg [.bool true, .bool true, A, L, .int .u8 (c : Nat)], .int .i64 mode, .ptr h.n 0, .int .i64 0, .int .i64 0, v5, .int .i64 255, .int .i64 0, .int .i64 0], 9, .int .i64 0⟩
        ⟨rfl, Nat.le_refl _, by simp, by simp, 255, 0, by simp, by simp, fun i hi => by omega⟩
      simp [bx, ← hh1, rd1_of g1, k2, rd1_of g2, k3, hlen3, hz, hz', rd1_of g3, hm, gl_t, bs, fillW, splice, ← hh4, k5, r1, p7, p8]
      refine ⟨x1.trans x5, lo, hi, rfl, ?_⟩
      unfold BdSpec
      rw [if_neg he]
      simp only [Nat.sub_zero] at hb
      refine ⟨fun i hi => ?_, fun i hi => ?_, fun _ _ _ => ?_⟩
      · have := hb i (by simp; omega)
        rw [getD_app_left _ _ _ (by simp; omega), getD_app_left _ _ _ hi] at this; exact this
      · have := hb (a.length + i) (by simp; omega)
        rw [getD_app_left _ _ _ (by simp; omega), getD_app_right] at this; exact this
      · have := hb ((a ++ l).length + 0) (by simp)
        rw [getD_app_right] at this; simpa using this
    | false =>
      rw [hcc'] at hcc
      obtain ⟨e', r1, ⟨_, _, p6, p9, lo, hi, p7, p8, hb⟩⟩ := loop23 B3 (by simp; omega) ⟨[.agg [.bool ha, .bool hl, A, L, .int .u8 (c : Nat)], .int .i64 mode, .ptr h.n 0, .int .i64 0, .int .i64 0, v3, .int .i64 255, .int .i64 0, .int .i64 0], 9, .int .i64 0⟩
        ⟨rfl, Nat.le_refl _, by simp, by simp, 255, 0, by simp, by simp, fun i hi => by omega⟩
      have fin : BdSpec ha hl a l c mode lo hi := by
        unfold BdSpec
        rw [if_neg he]
        simp only [Nat.sub_zero] at hb
        refine ⟨fun i hi => ?_, fun i hi => ?_, fun e1 e2 e3 => ?_⟩
        · have := hb i (by simp; omega)
          rw [getD_app_left _ _ _ hi] at this; exact this
        · have := hb (a.length + i) (by simp; omega)
          rw [getD_app_right] at this; exact this
        · rw [e1, e2] at hcc; simp [e3] at hcc
      cases ha with
      | false =>
        simp [bx, ← hh1, rd1_of g1, k2, rd1_of g2, k3, hlen3, hz, hz', rd1_of g3, gl_t, r1, p7, p8]
        exact ⟨x1.trans x3, lo, hi, rfl, fin⟩
      | true =>
        cases hl with
        | false =>
          simp [bx, ← hh1, rd1_of g1, k2, rd1_of g2, k3, hlen3, hz, hz', rd1_of g3, gl_t, r1, p7, p8]
          exact ⟨x1.trans x3, lo, hi, rfl, fin⟩
        | true =>
          have hm : mode = 0 := by simp at hcc; exact hcc
          subst hm
          simp [bx, ← hh1, rd1_of g1, k2, rd1_of g2, k3, hlen3, hz, hz', rd1_of g3, gl_t, r1, p7, p8]
          exact ⟨x1.trans x3, lo, hi, rfl, fin⟩

theorem between_plain {nn : Nat} {ha hl : Bool} {a l : List Nat} {c : Nat} {mode delta lo hi : Int} (hs : BdSpec ha hl (fitL ha a nn) (fitL hl l nn) c mode lo hi) (n4 : 4 ≤ (nn : Int)) (hd : delta = 0 ∨ 8 ≤ (nn : Int)) {x y : Int} (x0 : 0 ≤ x) (x1 : x < nn) (y0 : 0 ≤ y) (y1 : y < nn) :
    lo ≤ predS nn mode delta ha hl (fitL ha a nn) (fitL hl l nn) c x y ∧ predS nn mode delta ha hl (fitL ha a nn) (fitL hl l nn) c x y ≤ hi := by
  have la : ha = true → (fitL ha a nn).length = nn := fun e => by subst e; exact strL_length a nn
  have ll : hl = true → (fitL hl l nn).length = nn := fun e => by subst e; exact strL_length l nn
  have la0 : ha = false → fitL ha a nn = [] := fun e => by subst e; rfl
  have ll0 : hl = false → fitL hl l nn = [] := fun e => by subst e; rfl
  obtain ⟨A, hA⟩ : ∃ A, A = fitL ha a nn := ⟨_, rfl⟩
  obtain ⟨L, hL⟩ : ∃ L, L = fitL hl l nn := ⟨_, rfl⟩
  rw [← hA] at la la0
  rw [← hL] at ll ll0
  rw [← hA, ← hL] at hs
  rw [← hA, ← hL]
  by_cases he : A = [] ∧ L = []
  · have h1 : ha = false := by cases ha with
      | false => rfl
      | true => have := la rfl; rw [he.1] at this; simp at this; omega
    have h2 : hl = false := by cases hl with
      | false => rfl
      | true => have := ll rfl; rw [he.2] at this; simp at this; omega
    subst h1 h2
    unfold BdSpec at hs
    rw [if_pos he] at hs
    by_cases hm : mode = 0
    · rw [if_pos hm] at hs
      subst hm
      unfold predS
      simp [angleOf, meanV, he, hs]
    · rw [if_neg hm] at hs
      obtain ⟨rfl, rfl⟩ := hs
      refine predS_bd ?_ ?_ ?_ (fun e => absurd e hm) (by rcases hd with h | h; exact .inl h; exact .inr (.inl h)) n4 x0 x1 y0 y1
      · exact eOf_bd (fun i hi => by
          have : i = 0 := by simpa using hi
          subst this; simp) (by simp) (by omega)
      · exact eOf_bd (fun i hi => by
          have : i = 0 := by simpa using hi
          subst this; simp) (by simp) (by omega)
      · unfold fC; simp
  · unfold BdSpec at hs
    rw [if_neg he] at hs
    obtain ⟨s1, s2, s3⟩ := hs
    by_cases hm : mode = 0
    · subst hm
      have hk : A.length + L.length ≠ 0 := fun e => he ⟨List.length_eq_zero_iff.mp (by omega), List.length_eq_zero_iff.mp (by omega)⟩
      have := mean_bd (a := A) (l := L) (lo := lo.toNat) (hi := hi.toNat) hk (fun i hi => by have := s1 i hi; omega) (fun i hi => by have := s2 i hi; omega)
      have hl0 : 0 ≤ hi := by
        by_cases h : 0 < A.length
        · have := s1 0 h; omega
        · have := s2 0 (by omega); omega
      unfold predS
      simp [angleOf]
      omega
    · have hc : lo ≤ fC ha hl A L c ∧ fC ha hl A L c ≤ hi := by
        unfold fC
        cases ha with
        | true =>
          cases hl with
          | true => exact s3 rfl rfl hm
          | false => exact s1 0 (by rw [la rfl]; omega)
        | false =>
          cases hl with
          | true => exact s2 0 (by rw [ll rfl]; omega)
          | false => exact absurd ⟨la0 rfl, ll0 rfl⟩ he
      refine predS_bd ?_ ?_ hc (fun e => absurd e hm) (by rcases hd with h | h; exact .inl h; exact .inr (.inl h)) n4 x0 x1 y0 y1
      · unfold fA
        cases ha with
        | true => exact eOf_bd s1 (by rw [la rfl]; omega) hc
        | false =>
          cases hl with
          | true => exact eOf_bd (fun i hi => by
              have : i = 0 := by simpa using hi
              subst this
              exact s2 0 (by rw [ll rfl]; omega)) (by simp) hc
          | false => exact absurd ⟨la0 rfl, ll0 rfl⟩ he
      · unfold fL
        cases hl with
        | true => exact eOf_bd s2 (by rw [ll rfl]; omega) hc
        | false =>
          cases ha with
          | true => exact eOf_bd (fun i hi => by
              have : i = 0 := by simpa using hi
              subst this
              exact s1 0 (by rw [la rfl]; omega)) (by simp) hc
          | false => exact absurd ⟨la0 rfl, ll0 rfl⟩ he

/-! The law's loops. -/
structure I7c (nn : Nat) (q : V) (md dl lo hi : Int) (g0 : H) (sl : V) (m : Nat) (j : Nat) (en : E) (g : H) : Prop where
  hg : g = g0
  hj : j ≤ m
  p2 : en.s [0, 1, 2, 4, 5, 6, 7, 8, 9, 10, 11, 12] 2 = q
  p5 : en.s [0, 1, 2, 4, 5, 6, 7, 8, 9, 10, 11, 12] 5 = .int .i64 nn
  p6 : en.s [0, 1, 2, 4, 5, 6, 7, 8, 9, 10, 11, 12] 6 = .int .i64 md
  p7 : en.s [0, 1, 2, 4, 5, 6, 7, 8, 9, 10, 11, 12] 7 = .int .i64 lo
  p8 : en.s [0, 1, 2, 4, 5, 6, 7, 8, 9, 10, 11, 12] 8 = .int .i64 hi
  p9 : en.s [0, 1, 2, 4, 5, 6, 7, 8, 9, 10, 11, 12] 9 = .int .i64 dl
  p10 : en.s [0, 1, 2, 4, 5, 6, 7, 8, 9, 10, 11, 12] 10 = sl
  p12 : en.s [0, 1, 2, 4, 5, 6, 7, 8, 9, 10, 11, 12] 12 = .int .i64 ((m - j : Nat) : Int)

theorem loop7_0 {nn m : Nat} {q : V} {md dl lo hi : Int} {g : H} {b : Nat} {cs : List V} (hb : g.get b = some (.cells cs 5 false)) (hcs : ∀ i, i < m → ∃ x : Nat, cs[i]? = some (.int .u8 (x : Nat)) ∧ x < 256 ∧ lo ≤ x ∧ (x : Int) ≤ hi) (hm : (m : Int) = (nn : Int) * nn) (hnn : nn ≤ 64) (en : E) (hi' : I7c nn q md dl lo hi g (.sl b 0 m (.ex m)) m m en g) :
    ∃ e', loopZ (l7_0 KW loopZ) en g = some ⟨.ex 4, e', g⟩ ∧ I7c nn q md dl lo hi g (.sl b 0 m (.ex m)) m 0 e' g := by
  have hm2 : (m : Int) ≤ 64 * 64 := by rw [hm]; exact (mul_bd (by omega) (by omega) (by omega) (by omega)).2
  have zm : IntKind.i64.wrap ((nn : Int) * nn) = m := by rw [← hm]; exact Go.Zf.wi64 (by omega) (by omega)
  obtain ⟨s, k1, k2, k3⟩ := loop_run (body := l7_0 KW loopZ) (I7c nn q md dl lo hi g (.sl b 0 m (.ex m)) m) (fun s => s.x = .ex 4 ∧ I7c nn q md dl lo hi g (.sl b 0 m (.ex m)) m 0 s.e s.h)
    (fun j en g' hi'' => by
      obtain ⟨rfl, hj, p2, p5, p6, p7, p8, p9, p10, p12⟩ := hi''
      cases j with
      | zero =>
        simp [l7_0, p5, zm, p12]
        exact ⟨rfl, rfl, hj, by simp [p2], by simp, by simp [p6], by simp [p7], by simp [p8], by simp [p9], by simp [p10], by simp⟩
      | succ j =>
        obtain ⟨k, hk⟩ : ∃ k, k = m - (j + 1) := ⟨_, rfl⟩
        have hk2 : m - j = k + 1 := by omega
        rw [← hk] at p12
        have z3 : IntKind.i64.wrap ((k : Int) + 1) = k + 1 := Go.Zf.wi64 (by omega) (by omega)
        obtain ⟨x, hx, hx1, hx2, hx3⟩ := hcs k (by omega)
        have z1 : IntKind.i64.wrap (x : Int) = x := Go.Zf.wi64 (by omega) (by omega)
        simp [l7_0, p5, zm, p12, show (k : Int) < m by omega, show k < m by omega, p10, rd1_of hb, hx, z1, p7, show ¬ (x : Int) < lo by omega, p8, show ¬ hi < (x : Int) by omega, z3]
        exact ⟨j, Nat.lt_succ_self j, rfl, by omega, by simp [p2], by simp [p5], by simp [p6], by simp [p7], by simp [p8], by simp [p9], by simp [p10], by simp [hk2]⟩) m en g hi'
  obtain ⟨x, e', h'⟩ := s
  simp only at k2 k3
  subst k2
  have := k3.hg
  subst this
  exact ⟨e', k1, k3⟩

structure I7b (nn : Nat) (q : V) (md lo hi : Int) (hb : H) (j : Nat) (en : E) (g : H) : Prop where
  hj : j ≤ 7
  x : Ext hb g
  p2 : en.s [0, 1, 2, 4, 5, 6, 7, 8, 9, 10, 11, 12] 2 = q
  p5 : en.s [0, 1, 2, 4, 5, 6, 7, 8, 9, 10, 11, 12] 5 = .int .i64 nn
  p6 : en.s [0, 1, 2, 4, 5, 6, 7, 8, 9, 10, 11, 12] 6 = .int .i64 md
  p7 : en.s [0, 1, 2, 4, 5, 6, 7, 8, 9, 10, 11, 12] 7 = .int .i64 lo
  p8 : en.s [0, 1, 2, 4, 5, 6, 7, 8, 9, 10, 11, 12] 8 = .int .i64 hi
  p9 : en.s [0, 1, 2, 4, 5, 6, 7, 8, 9, 10, 11, 12] 9 = .int .i64 (4 - j : Int)

theorem bd_255 {ha hl : Bool} {a l : List Nat} {c : Nat} {mode lo hi : Int} (hs : BdSpec ha hl a l c mode lo hi) (ha' : ∀ i, i < a.length → a.getD i 0 < 256) (hl' : ∀ i, i < l.length → l.getD i 0 < 256) (hc : c < 256) :
    BdSpec ha hl a l c mode (max lo 0) (min hi 255) := by
  unfold BdSpec at hs ⊢
  split at hs
  · rename_i h1
    rw [if_pos h1]
    split at hs
    · rename_i h2
      rw [if_pos h2]; omega
    · rename_i h2
      rw [if_neg h2]; omega
  · rename_i h1
    rw [if_neg h1]
    obtain ⟨s1, s2, s3⟩ := hs
    exact ⟨fun i hi => by have := s1 i hi; have := ha' i hi; omega, fun i hi => by have := s2 i hi; have := hl' i hi; omega, fun e1 e2 e3 => by have := s3 e1 e2 e3; omega⟩

theorem u8_of {x : Int} (h0 : 0 ≤ x) (h1 : x ≤ 255) : ∃ y : Nat, IntKind.u8.wrap x = y ∧ y < 256 ∧ (y : Int) = x := ⟨x.toNat, by rw [wu8 h0 (by omega)]; omega, by omega, by omega⟩

theorem loop7_1 {nn : Nat} {q : V} {md lo hi : Int} {hb : H} {ha hl : Bool} {A L : V} {a l : List Nat} {c : Nat} (e : Ed6 hb q ha hl A L a l c nn) (hz : Sz nn = true) (m0 : 0 ≤ md) (m1 : md ≤ 12)
    (hbd : BdSpec ha hl (fitL ha a nn) (fitL hl l nn) c md lo hi) (en : E) (g : H) (hi' : I7b nn q md lo hi hb 7 en g) :
    ∃ e' g', loopZ (l7_1 KW loopZ) en g = some ⟨.ex 2, e', g'⟩ ∧ I7b nn q md lo hi hb 0 e' g' := by
  obtain ⟨n4, n64, n0⟩ := sz_even hz
  obtain ⟨s, k1, k2, k3⟩ := loop_run (body := l7_1 KW loopZ) (I7b nn q md lo hi hb) (fun s => s.x = .ex 2 ∧ I7b nn q md lo hi hb 0 s.e s.h)
    (fun j en g hi'' => by
      obtain ⟨hj, x, p2, p5, p6, p7, p8, p9⟩ := hi''
      cases j with
      | zero =>
        simp [l7_1, p9]
        exact ⟨rfl, hj, x, by simp [p2], by simp [p5], by simp [p6], by simp [p7], by simp [p8], by simp⟩
      | succ j =>
        obtain ⟨d, hd⟩ : ∃ d, d = (4 - (j + 1 : Nat) : Int) := ⟨_, rfl⟩
        rw [← hd] at p9
        have z3 : IntKind.i64.wrap (d + 1) = d + 1 := Go.Zf.wi64 (by omega) (by omega)
        have kd := directs22_ok md d g
        by_cases hc : Dirs md d = true
        · rw [hc] at kd
          by_cases hskip : (nn : Int) = 4 ∧ ¬ d = 0
          · have h4 : nn = 4 := by omega
            simp [l7_1, p9, show d < 4 by omega, p6, kd, p5, h4, hskip.2, z3]
            exact ⟨j, Nat.lt_succ_self j, by omega, x, by simp [p2], by simp [h4], by simp [p6], by simp [p7], by simp [p8], by simp; omega⟩
          · have hd' : d = 0 ∨ 8 ≤ (nn : Int) := by
              have := hz; simp [Sz] at this
              omega
            obtain ⟨b, hq, hqb⟩ := e.qq
            have hqb' : g.get b = _ := (x.get _ (H.get_lt hqb)).trans hqb
            obtain ⟨w, g1, r1, x1, ob, k, hk, rfl, hob, hget⟩ := (pred_fit (mode := md) (delta := d) (e.aA.ext x) (e.aL.ext x) (c := c) (by omega) (by have := e.c; omega) hz (bad_dirs m0 m1 (by omega) (by omega) hc)).elim
            have hm2 : (k : Int) ≤ 64 * 64 := by rw [hk]; exact (mul_bd (by omega) (by omega) (by omega) (by omega)).2
            have zk : IntKind.i64.wrap ((nn : Int) * nn) = k := by rw [← hk]; exact Go.Zf.wi64 (by omega) (by omega)
            have hcs : ∀ i, i < k → ∃ x : Nat, ((List.range k).map (byteAt (predS nn md d ha hl (fitL ha a nn) (fitL hl l nn) c) nn))[i]? = some (.int .u8 (x : Nat)) ∧ x < 256 ∧ lo ≤ x ∧ (x : Int) ≤ hi := by
              intro i hik
              have := between_plain (delta := d) (bd_255 hbd e.aA.lt e.aL.lt e.c) n4 hd' (Int.emod_nonneg (i : Int) (by omega)) (Int.emod_lt_of_pos (i : Int) (by omega)) (Int.ediv_nonneg (a := (i : Int)) (b := nn) (by omega) (by omega)) (Int.ediv_lt_of_lt_mul (by omega) (by omega))
              obtain ⟨y, y1, y2, y3⟩ := u8_of (x := predS nn md d ha hl (fitL ha a nn) (fitL hl l nn) c ((i : Int) % nn) ((i : Int) / nn)) (by omega) (by omega)
              exact ⟨y, by simp [hik, byteAt, y1], y2, by omega, by omega⟩
            obtain ⟨e', r2, ⟨_, _, s2, s5, s6, s7, s8, s9, s10, s12⟩⟩ := loop7_0 (q := q) (md := md) (dl := d) hget hcs hk (by omega)
              ⟨[en.s [0, 1, 2, 4, 5, 6, 7, 8, 9, 10, 11, 12] 0, en.s [0, 1, 2, 4, 5, 6, 7, 8, 9, 10, 11, 12] 1, q, en.s [0, 1, 2, 4, 5, 6, 7, 8, 9, 10, 11, 12] 4, .int .i64 nn, .int .i64 md, .int .i64 lo, .int .i64 hi, .int .i64 d, .sl ob 0 k (.ex k), .int .i64 0, .int .i64 0], 12, .int .i64 0⟩ ⟨rfl, Nat.le_refl _, by simp, by simp, by simp, by simp, by simp, by simp, by simp, by simp⟩
            have hedl : (edges ha hl A L c).length = 5 := rfl
            obtain ⟨cs, hcs'⟩ : ∃ cs, cs = edges ha hl A L c := ⟨_, rfl⟩
            rw [← hcs'] at hqb' r1 hedl
            subst hq
            by_cases h4 : nn = 4
            · have hd0 : d = 0 := by omega
              subst h4
              subst hd0
              simp only [Int.cast_ofNat_Int] at r1 r2 zk p5 s5
              simp [l7_1, p9, p6, kd, p5, p2, rdN_of (o := 0) (n := 5) hqb' (by omega), List.take_of_length_le, hedl, r1]
              simp at zk
              simp [zk, p7, p8, r2, s9, Go.Zf.wi64 (n := 1) (by omega) (by omega)]
              exact ⟨j, Nat.lt_succ_self j, by omega, x.trans x1, by simp [s2], by simp [s5], by simp [s6], by simp [s7], by simp [s8], by simp; omega⟩
            · simp [l7_1, p9, show d < 4 by omega, p6, kd, p5, show ¬ (nn : Int) = 4 by omega, h4, p2, rdN_of (o := 0) (n := 5) hqb' (by omega), List.take_of_length_le, hedl, r1, zk, p7, p8, r2, s9, z3]
              exact ⟨j, Nat.lt_succ_self j, by omega, x.trans x1, by simp [s2], by simp [s5], by simp [s6], by simp [s7], by simp [s8], by simp; omega⟩
        · have hc' : Dirs md d = false := by simpa using hc
          rw [hc'] at kd
          simp [l7_1, p9, show d < 4 by omega, p6, kd, gl_t, z3]
          exact ⟨j, Nat.lt_succ_self j, by omega, x, by simp [p2], by simp [p5], by simp [p6], by simp [p7], by simp [p8], by simp; omega⟩) 7 en g hi'
  obtain ⟨x, e', h'⟩ := s
  simp only at k2 k3
  subst k2
  exact ⟨e', h', k1, k3⟩

structure I7a (nn : Nat) (q : V) (hb : H) (j : Nat) (en : E) (g : H) : Prop where
  hj : j ≤ 13
  x : Ext hb g
  p2 : en.s [0, 1, 2, 4, 5, 6, 7, 8, 9, 10, 11, 12] 2 = q
  p5 : en.s [0, 1, 2, 4, 5, 6, 7, 8, 9, 10, 11, 12] 5 = .int .i64 nn
  p6 : en.s [0, 1, 2, 4, 5, 6, 7, 8, 9, 10, 11, 12] 6 = .int .i64 (13 - j : Int)

theorem loop7_2 {nn : Nat} {q : V} {hb : H} {ha hl : Bool} {A L : V} {a l : List Nat} {c : Nat} (e : Ed6 hb q ha hl A L a l c nn) (hz : Sz nn = true) (en : E) (g : H) (hi' : I7a nn q hb 13 en g) :
    ∃ e' g', loopZ (l7_2 KW loopZ) en g = some ⟨.ex 0, e', g'⟩ ∧ I7a nn q hb 0 e' g' := by
  obtain ⟨n4, n64, n0⟩ := sz_even hz
  obtain ⟨s, k1, k2, k3⟩ := loop_run (body := l7_2 KW loopZ) (I7a nn q hb) (fun s => s.x = .ex 0 ∧ I7a nn q hb 0 s.e s.h)
    (fun j en g hi'' => by
      obtain ⟨hj, x, p2, p5, p6⟩ := hi''
      cases j with
      | zero =>
        simp [l7_2, p6]
        exact ⟨rfl, hj, x, by simp [p2], by simp [p5], by simp⟩
      | succ j =>
        obtain ⟨d, hd⟩ : ∃ d, d = (13 - (j + 1 : Nat) : Int) := ⟨_, rfl⟩
        rw [← hd] at p6
        have z3 : IntKind.i64.wrap (d + 1) = d + 1 := Go.Zf.wi64 (by omega) (by omega)
        have eg := e.ext x
        have la : (fitL ha a nn).length ≤ 64 := by cases ha <;> simp [fitL, strL_length]; omega
        have ll : (fitL hl l nn).length ≤ 64 := by cases hl <;> simp [fitL, strL_length]; omega
        obtain ⟨w, g1, r1, x1, lo, hi, rfl, hbd⟩ := (bounds23_ok (ha := ha) (hl := hl) (mode := d) eg.aA eg.aL la ll e.c (fun e => by subst e; simp [fitL, strL_length]; omega)).elim
        obtain ⟨b, hq, hqb⟩ := e.qq
        have hqb' : g.get b = _ := (x.get _ (H.get_lt hqb)).trans hqb
        obtain ⟨e', g', r2, ⟨_, x2, s2, s5, s6, s7, s8, s9⟩⟩ := loop7_1 (md := d) (eg.ext x1) hz (by omega) (by omega) hbd
          ⟨[en.s [0, 1, 2, 4, 5, 6, 7, 8, 9, 10, 11, 12] 0, en.s [0, 1, 2, 4, 5, 6, 7, 8, 9, 10, 11, 12] 1, q, en.s [0, 1, 2, 4, 5, 6, 7, 8, 9, 10, 11, 12] 4, .int .i64 nn, .int .i64 d, .int .i64 lo, .int .i64 hi, .int .i64 (-3), en.s [0, 1, 2, 4, 5, 6, 7, 8, 9, 10, 11, 12] 10, en.s [0, 1, 2, 4, 5, 6, 7, 8, 9, 10, 11, 12] 11, en.s [0, 1, 2, 4, 5, 6, 7, 8, 9, 10, 11, 12] 12], 9, .int .i64 (-3)⟩ g1 ⟨by omega, Ext.refl g1, by simp, by simp, by simp, by simp, by simp, by simp⟩
        have hedl : (edges ha hl A L c).length = 5 := rfl
        obtain ⟨cs, hcs'⟩ : ∃ cs, cs = edges ha hl A L c := ⟨_, rfl⟩
        rw [← hcs'] at hqb' r1 hedl
        subst hq
        simp [l7_2, p6, show d ≤ 12 by omega, p2, rdN_of (o := 0) (n := 5) hqb' (by omega), List.take_of_length_le, hedl, r1, p5, r2, s6, z3]
        exact ⟨j, Nat.lt_succ_self j, by omega, (x.trans x1).trans x2, by simp [s2], by simp [s5], by simp; omega⟩) 13 en g hi'
  obtain ⟨x, e', h'⟩ := s
  simp only at k2 k3
  subst k2
  exact ⟨e', h', k1, k3⟩

theorem sizes3 (r : Nat) (hr : r < 3) : ∃ nn : Nat, [V.int .i64 4, .int .i64 8, .int .i64 16][r]? = some (.int .i64 nn) ∧ Sz nn = true := by
  match r, hr with
  | 0, _ => exact ⟨4, rfl, rfl⟩
  | 1, _ => exact ⟨8, rfl, rfl⟩
  | 2, _ => exact ⟨16, rfl, rfl⟩

theorem between7_ok {h : H} {w : Int} {ha hl : Bool} {A L : V} {a l : List Nat} {c : Nat} (aA : ByAt h A a) (aL : ByAt h L l) (la : a.length < 9223372036854775808) (ll : l.length < 9223372036854775808) (hc : c < 256) (w0 : -9223372036854775808 ≤ w) (w1 : w < 9223372036854775808) :
    RT (fun r h' => r = .bool true) (KW 7 [.agg (edges ha hl A L c), .int .i64 w] h) := by
  obtain ⟨h1, hh1⟩ : ∃ g, g = h.new (.cells (edges ha hl A L c) 25 false) := ⟨_, rfl⟩
  have x1 : Ext h h1 := by rw [hh1]; exact (Ext.refl h).new _
  have g1 : h1.get h.n = some (.cells (edges ha hl A L c) 25 false) := by rw [hh1, get_new_same]
  obtain ⟨cs, hcs⟩ : ∃ cs, cs = [V.int .i64 4, .int .i64 8, .int .i64 16] := ⟨_, rfl⟩
  obtain ⟨h2, hh2⟩ : ∃ g, g = h1.new (.cells cs 3 false) := ⟨_, rfl⟩
  have x2 : Ext h1 h2 := by rw [hh2]; exact (Ext.refl h1).new _
  have g2 : h2.get h1.n = some (.cells cs 3 false) := by rw [hh2, get_new_same]
  have g1' : h2.get h.n = _ := (x2.get _ (H.get_lt g1)).trans g1
  obtain ⟨r, hr, kb⟩ := bring18_ok w 3 h2 (by omega) (by omega) w0 w1
  obtain ⟨nn, hnn, hz⟩ := sizes3 r (by omega)
  obtain ⟨n4, n64, n0⟩ := sz_even hz
  rw [← hcs] at hnn
  obtain ⟨w', h4, k4, x4, A', L', rfl, bA, bL, fA', fL'⟩ := (fitting19_ok (ha := ha) (hl := hl) (c := (c : Int)) (aA.ext (x1.trans x2)) (aL.ext (x1.trans x2)) la ll (m := nn) (by omega)).elim
  have g4 : h4.get h.n = _ := (x4.get _ (H.get_lt g1')).trans g1'
  obtain ⟨h5, hh5⟩ : ∃ g, g = h4.put h.n (.cells (edges ha hl A' L' c) 25 false) := ⟨_, rfl⟩
  have g5 : h5.get h.n = some (.cells (edges ha hl A' L' c) 25 false) := by rw [hh5, get_put_same (H.get_lt g4)]
  have hn1 : h1.n = h.n + 1 := by rw [hh1, H.n_new]
  have hn2 := x2.n
  have e6 : Ed6 h5 (.ptr h.n 0) ha hl A' L' a l c nn := ⟨⟨h.n, rfl, g5⟩, by rw [hh5]; exact bA.put _ (fA'.ne (by omega)), by rw [hh5]; exact bL.put _ (fL'.ne (by omega)), hc⟩
  have hedl : (edges ha hl A L c).length = 5 := rfl
  have hedl' : (edges ha hl A' L' c).length = 5 := rfl
  obtain ⟨c0, hc0⟩ : ∃ cs, cs = edges ha hl A L c := ⟨_, rfl⟩
  obtain ⟨c1, hc1⟩ : ∃ cs, cs = edges ha hl A' L' c := ⟨_, rfl⟩
  obtain ⟨e', g', r1, ⟨_, x6, s2, s5, s6⟩⟩ := loop7_2 e6 hz
    ⟨[.agg (edges ha hl A L c), .int .i64 w, .ptr h.n 0, .bool false, .int .i64 nn, .int .i64 0, .und, .und, .und, .und, .und, .und], 6, .int .i64 0⟩ h5 ⟨by omega, Ext.refl _, by simp, by simp, by simp⟩
  simp only [V_und_tup] at r1
  rw [← hc0] at hh1 g1 g1' g4 hedl r1
  rw [← hc0] at k4
  rw [← hc1] at k4 hh5 hedl'
  have hsp : splice c0 0 c1 = c1 := by
    unfold splice; rw [hedl']; simp [List.drop_of_length_le, hedl]
  have hdr : List.drop 5 c0 = [] := List.drop_of_length_le (by omega)
  rw [w7, f7, s7]
  rw [← hc0]
  have hr3 : r < 3 := by omega
  simp [bx, ← hh1, works_ok, bs, fillW, splice, ← hcs, ← hh2, kb, hr, hr3, rd1_of g2, hnn, rdN_of (o := 0) (n := 5) g1' (by omega), List.take_of_length_le, hedl, k4, hedl', wrN_of (o := 0) (vs := c1) g4 (by omega), hdr, ← hh5, r1]
  rfl

theorem core7 {Hd : Type} {enc : TypeId × Value → Hd} {W : World} {base : Nat} {v0 v1 : Value} {d0 d1 : DataW Hd} {p0 p1 : List MemPlace} {k : Prop}
    (hok : Value.okWide Try.prog W .any base 25 v0) (hd : DataW.Trod enc Try.prog W 0 (fun _ => true) true 25 v0 d0 p0)
    (hok1 : Value.okWide Try.prog W .any base 3 v1) (hd1 : DataW.Trod enc Try.prog W 0 (fun _ => true) true 3 v1 d1 p1) (hk : k) :
    Calls Try.prog 7 #[v0, v1] W fun e W' => e = .returned (.bool true) ∧ Go.RowKit.Below W.heap.size W W' := by
  obtain ⟨d, rfl, _, _, wd⟩ := Go.ChangeShapes.open_int Try.underlying3 hok1 hd1
  have hw := wf_i64 wd
  obtain ⟨i', h', ha, hl, A, L, c, la, ll, a, hle, hv, bA, bL, _, hc, q1, q2, _⟩ := argEdges (ArgH.empty W) hok hd
  obtain ⟨r, h2, hr, rfl⟩ := (between7_ok (ha := ha) (hl := hl) bA bL q1 q2 hc hw.1 hw.2).elim
  exact law_calls (us := [v0, .int .i64 d]) (callW_ok mixed kp ov2_ok hr) a.rel (.cons hv (.cons (.int _ _) .nil)) a.dom a.no
end Go.Proofs.Ytpjcmgmmolediaa
