/- IntraReads. -/
import Derived.Test.YtpjcmgmmolediaaIo
set_option linter.unusedVariables false
set_option linter.unusedSimpArgs false
namespace Go.Proofs.Ytpjcmgmmolediaa
open Go Go.Zf Go.RowKit Go.WideShapes

theorem w9 (p0 p1 p2 : V) (h : H) : KW 9 [p0, p1, p2] h = f9 KW loopZ p0 p1 p2 h := (callW_eqF _ _ _ _ _ _ rfl).trans (congrFun (congrFun (congrFun (congrFun (congrFun (congrFun (r9) _) _) p0) p1) p2) h)

structure I16 (A B : V) (l : List Nat) (g0 : H) (j : Nat) (en : E) (g : H) : Prop where
  hg : g = g0
  hj : j ≤ l.length
  p0 : en.s [0, 1, 4, 5] 0 = A
  p1 : en.s [0, 1, 4, 5] 1 = B
  p5 : en.s [0, 1, 4, 5] 5 = .int .i64 ((l.length - j : Nat) : Int)

theorem eq16_ok {h : H} {A B : V} {l : List Nat} (aA : ByAt h A l) (aB : ByAt h B l) (hl : l.length < 9223372036854775807) : KW 16 [A, B] h = some (.ret (.bool true), h) := by
  obtain ⟨s, k1, k2, k3⟩ := loop_run (body := l16_0 KW loopZ) (I16 A B l h) (fun s => s.x = .ex 0 ∧ s.h = h)
    (fun j en g' hi => by
      obtain ⟨rfl, hj, p0, p1, p5⟩ := hi
      cases j with
      | zero =>
        simp [l16_0, p0, aA.len, p5]
        exact ⟨rfl, rfl⟩
      | succ j =>
        obtain ⟨k, hk⟩ : ∃ k, k = l.length - (j + 1) := ⟨_, rfl⟩
        have hk2 : l.length - j = k + 1 := by omega
        rw [← hk] at p5
        have z3 : IntKind.i64.wrap ((k : Int) + 1) = k + 1 := Go.Zf.wi64 (by omega) (by omega)
        obtain ⟨b, o, g1, g2, g3⟩ := aA.at_ k (by omega)
        obtain ⟨b', o', g1', g2', g3'⟩ := aB.at_ k (by omega)
        obtain ⟨x, hx⟩ : ∃ x, x = l.getD k 0 := ⟨_, rfl⟩
        rw [← hx] at g2 g2'
        simp [l16_0, p0, p1, aA.len, p5, show (k : Int) < l.length by omega, show k < l.length by omega, g1, g2, g1', g2', z3]
        exact ⟨j, Nat.lt_succ_self j, rfl, by omega, by simp [p0], by simp [p1], by simp [hk2]⟩) l.length ⟨[A, B, .bool false, .int .i64 0], 5, .int .i64 0⟩ h ⟨rfl, Nat.le_refl _, by simp, by simp, by simp⟩
  obtain ⟨x, e', h'⟩ := s
  simp only at k2 k3
  subst k2 k3
  rw [w16, f16, s16]
  simp [aA.len, aB.len, k1]

theorem copy25_ok {h : H} {A : V} {a : List Nat} (aA : ByAt h A a) (la : a.length ≤ 140737488355328) :
    RT (fun w h' => Ext h h' ∧ GrowV h.n h' w 5 1 (bytesV a) a.length) (KW 25 [A] h) := by
  obtain ⟨v2, h2, k2, G2, n2, f2, s2⟩ := apZ_grow (p := h.n) (e := 5) (z := 1) (bytes := 1) (h := h) (v := .nils) (n := 0) (cs := []) (GrowV.nil _ _ _ _) (Nat.le_refl _) aA.ln aA.first (by simp [bytesV_length]) (by omega)
  rw [w25, f25, s25]
  simp [k2]
  exact ⟨⟨n2, fun c hc => f2 c hc (fun o n k e => by cases e)⟩, by simpa using G2⟩

theorem copied11_ok {h : H} {ha hl : Bool} {A L : V} {a l : List Nat} {c : Int} (aA : ByAt h A a) (aL : ByAt h L l) (la : a.length ≤ 140737488355328) (ll : l.length ≤ 140737488355328) :
    RT (fun w h' => Ext h h' ∧ ∃ A' L', w = .agg (edges ha hl A' L' c) ∧ GrowV h.n h' A' 5 1 (bytesV a) a.length ∧ GrowV h.n h' L' 5 1 (bytesV l) l.length ∧ ∀ b o n k o' n' k', A' = .sl b o n k → L' ≠ .sl b o' n' k') (KW 11 [.agg (edges ha hl A L c)] h) := by
  unfold edges
  obtain ⟨h1, hh1⟩ : ∃ g, g = (h.new (.cells [.bool ha, .bool hl, A, L, .int .u8 c] 25 false)).new (.cells [.bool false, .bool false, .nils, .nils, .int .u8 0] 25 false) := ⟨_, rfl⟩
  have x1 : Ext h h1 := by rw [hh1]; exact ((Ext.refl h).new _).new _
  have hn1 : h1.n = h.n + 2 := by rw [hh1]; simp only [H.n_new]
  have g0 : h1.get h.n = some (.cells [.bool ha, .bool hl, A, L, .int .u8 c] 25 false) := by rw [hh1, get_new_lt (by rw [H.n_new]; omega), get_new_same]
  have g1 : h1.get (h.n + 1) = some (.cells [.bool false, .bool false, .nils, .nils, .int .u8 0] 25 false) := by rw [hh1, get_new_eq (by rw [H.n_new])]
  obtain ⟨A', h2, k2, x2, GA⟩ := (copy25_ok (aA.ext x1) la).elim
  have g0' : h2.get h.n = _ := (x2.get _ (H.get_lt g0)).trans g0
  have g1' : h2.get (h.n + 1) = _ := (x2.get _ (H.get_lt g1)).trans g1
  obtain ⟨h3, hh3⟩ : ∃ g, g = h2.put h.n (.cells [.bool ha, .bool hl, A', L, .int .u8 c] 25 false) := ⟨_, rfl⟩
  have g03 : h3.get h.n = some (.cells [.bool ha, .bool hl, A', L, .int .u8 c] 25 false) := by rw [hh3, get_put_same (H.get_lt g0')]
  have g13 : h3.get (h.n + 1) = some (.cells [.bool false, .bool false, .nils, .nils, .int .u8 0] 25 false) := by rw [hh3, get_put_ne (by omega)]; exact g1'
  have x3 : Ext h h3 := by rw [hh3]; exact (x1.trans x2).put (Nat.le_refl _) _
  have GA3 : GrowV h1.n h3 A' 5 1 (bytesV a) a.length := by rw [hh3]; exact GA.put (GA.fresh.ne (by omega))
  obtain ⟨L', h4, k4, x4, GL⟩ := (copy25_ok (aL.ext x3) ll).elim
  have g04 : h4.get h.n = _ := (x4.get _ (H.get_lt g03)).trans g03
  have g14 : h4.get (h.n + 1) = _ := (x4.get _ (H.get_lt g13)).trans g13
  have hn3 := H.get_lt g13
  have GA4 := GA3.ext x4
  obtain ⟨h5, hh5⟩ : ∃ g, g = h4.put h.n (.cells [.bool ha, .bool hl, A', L', .int .u8 c] 25 false) := ⟨_, rfl⟩
  have g05 : h5.get h.n = some (.cells [.bool ha, .bool hl, A', L', .int .u8 c] 25 false) := by rw [hh5, get_put_same (H.get_lt g04)]
  have g15 : h5.get (h.n + 1) = some (.cells [.bool false, .bool false, .nils, .nils, .int .u8 0] 25 false) := by rw [hh5, get_put_ne (by omega)]; exact g14
  obtain ⟨h6, hh6⟩ : ∃ g, g = h5.put (h.n + 1) (.cells [.bool ha, .bool hl, A', L', .int .u8 c] 25 false) := ⟨_, rfl⟩
  have g16 : h6.get (h.n + 1) = some (.cells [.bool ha, .bool hl, A', L', .int .u8 c] 25 false) := by rw [hh6, get_put_same (H.get_lt g15)]
  have SA := GA.stZ
  have SL := GL.stZ
  rw [w11, f11, s11]
  simp [bx, ← hh1, nw, H.n_new, rd1_of g0, k2, SA, wr1_of g0', ← hh3, rd1_of g03, k4, SL, wr1_of g04, ← hh5, rdN_of (o := 0) (n := 5) g05 (by simp), splice, wrN_of (o := 0) g15, ← hh6, resVs25, rdN_of (o := 0) (n := 5) g16 (by simp)]
  refine ⟨by rw [hh6, hh5]; exact ((x3.trans x4).put (Nat.le_refl _) _).put (by omega) _, A', L', rfl, ?_, ?_, ?_⟩
  · have := (GA4.put (c := h.n) (y := .cells [.bool ha, .bool hl, A', L', .int .u8 c] 25 false) (GA4.fresh.ne (by omega))).put (c := h.n + 1) (y := .cells [.bool ha, .bool hl, A', L', .int .u8 c] 25 false) (GA4.fresh.ne (by omega))
    rw [hh6, hh5]
    rcases this with h | ⟨b, q1, q2, q3, q4⟩
    · exact .inl h
    · exact .inr ⟨b, q1, q2, q3, by omega⟩
  · have := (GL.put (c := h.n) (y := .cells [.bool ha, .bool hl, A', L', .int .u8 c] 25 false) (GL.fresh.ne (by omega))).put (c := h.n + 1) (y := .cells [.bool ha, .bool hl, A', L', .int .u8 c] 25 false) (GL.fresh.ne (by omega))
    rw [hh6, hh5]
    rcases this with h | ⟨b, q1, q2, q3, q4⟩
    · exact .inl h
    · exact .inr ⟨b, q1, q2, q3, by omega⟩
  · intro b o n k o' n' k' e1 e2
    have := GA3.under _ _ _ _ e1
    have := GL.fresh _ _ _ _ e2
    omega

/-! The plain law. -/
theorem eOf_c {l : List Nat} {c c' i : Int} (h : 0 ≤ i) : eOf l c i = eOf l c' i := by unfold eOf; rw [if_neg (by omega), if_neg (by omega)]

theorem fC_alone {ha hl : Bool} (h : (ha && hl) = false) {a l : List Nat} {c c' : Int} : fC ha hl a l c = fC ha hl a l c' := by
  unfold fC; cases ha <;> cases hl <;> first | rfl | simp at h

theorem fAL_c {ha hl : Bool} {a l : List Nat} {c c' i : Int} (h : 0 ≤ i) : fA ha hl a l c i = fA ha hl a l c' i ∧ fL ha hl a l c i = fL ha hl a l c' i := by
  unfold fA fL
  have hf := fun e => fC_alone (ha := ha) (hl := hl) e (a := a) (l := l) (c := c) (c' := c')
  cases ha <;> cases hl
  · exact ⟨rfl, rfl⟩
  · rw [hf rfl]; exact ⟨rfl, rfl⟩
  · rw [hf rfl]; exact ⟨rfl, rfl⟩
  · exact ⟨eOf_c h, eOf_c h⟩

theorem reads_corner {n mode : Int} {ha hl : Bool} {a l : List Nat} {c c' : Int} (h : (ha && hl) = false ∨ mode = 0 ∨ mode = 1 ∨ mode = 2 ∨ (9 ≤ mode ∧ mode ≤ 11)) (hn : 4 ≤ n) {x y : Int} (x0 : 0 ≤ x) (y0 : 0 ≤ y) :
    predS n mode 0 ha hl a l c x y = predS n mode 0 ha hl a l c' x y := by
  rcases h with h | h
  · unfold predS
    have hf := fC_alone h (a := a) (l := l) (c := c) (c' := c')
    have h1 : fA ha hl a l c = fA ha hl a l c' := by unfold fA; rw [hf]
    have h2 : fL ha hl a l c = fL ha hl a l c' := by unfold fL; rw [hf]
    rw [hf, h1, h2]
  · have e := fun i h0 => fAL_c (ha := ha) (hl := hl) (a := a) (l := l) (c := c) (c' := c') (i := i) h0
    have s : ∀ dn ac half q, softS n dn ac half q (fA ha hl a l c) (fL ha hl a l c) x y = softS n dn ac half q (fA ha hl a l c') (fL ha hl a l c') x y := by
      intro dn ac half q
      unfold softS
      rw [(e x x0).1, (e y y0).2, (e (n - 1) (by omega)).1, (e (n - 1) (by omega)).2]
    unfold predS
    rcases h with rfl | rfl | rfl | ⟨h9, h11⟩
    · have : (angleOf 0 0).2 = false := by decide
      rw [this]; simp
    · have : angleOf 1 0 = (90, true) := by decide
      rw [this]
      simp only [if_true, dirS]
      unfold dirE; simp
      exact (e x x0).1
    · have : angleOf 2 0 = (180, true) := by decide
      rw [this]
      simp only [if_true, dirS]
      unfold dirE; simp
      exact (e y y0).2
    · have : (angleOf mode 0).2 = false := by unfold angleOf; rw [if_pos (by omega)]
      rw [this]
      simp only [Bool.false_eq_true, if_false]
      simp only [show ¬ mode = 0 by omega, show ¬ mode = 12 by omega, if_false]
      split
      · exact s _ _ _ _
      · split
        · exact s _ _ _ _
        · exact s _ _ _ _

theorem reads_V {n : Int} {ha hl : Bool} (h : ha = true) {a l l' : List Nat} {c c' x y : Int} (x0 : 0 ≤ x) : predS n 1 0 ha hl a l c x y = predS n 1 0 ha hl a l' c' x y := by
  subst h
  unfold predS
  have : angleOf 1 0 = (90, true) := by decide
  rw [this]
  simp only [if_true, dirS]
  unfold dirE; simp
  exact eOf_c x0
theorem reads_H {n : Int} {ha hl : Bool} (h : hl = true) {a a' l : List Nat} {c c' x y : Int} (y0 : 0 ≤ y) : predS n 2 0 ha hl a l c x y = predS n 2 0 ha hl a' l c' x y := by
  subst h
  unfold predS
  have : angleOf 2 0 = (180, true) := by decide
  rw [this]
  simp only [if_true, dirS]
  unfold dirE; simp
  exact eOf_c y0

/-! The law's loops. -/
theorem pred_fit2 {h : H} {mode delta : Int} {ha hl : Bool} {A L : V} {a l : List Nat} {c : Int} {nn : Nat} (aA : ByAt h A a) (aL : ByAt h L l) (la : a.length = if ha then nn else 0) (ll : l.length = if hl then nn else 0) (c0 : 0 ≤ c) (c1 : c ≤ 255) (hz : Sz nn = true) (hb : Bad mode delta = false) :
    RT (fun w h' => Ext h h' ∧ ∃ b k : Nat, (k : Int) = (nn : Int) * nn ∧ w = .tup [.sl b 0 k (.ex k), .int .i64 0] ∧ h.n ≤ b ∧ h'.get b = some (.cells ((List.range k).map (byteAt (predS nn mode delta ha hl a l c) nn)) 5 false))
      (KW 14 [.int .i64 nn, .int .i64 mode, .int .i64 delta, .agg (edges ha hl A L c)] h) := by
  refine (predict14_ok (n := nn) (mode := mode) (delta := delta) (ha := ha) (hl := hl) aA aL c0 c1).mono fun w h' hp => ?_
  obtain ⟨hx, hp⟩ := hp
  refine ⟨hx, ?_⟩
  have hg : Good nn ha hl a.length l.length = true := by
    unfold Good Fits
    rw [hz, la, ll]
    cases ha <;> cases hl <;> simp
  rw [hz, hb, hg] at hp
  simpa using hp

theorem byteAt_ex (s : Int → Int → Int) (n : Int) (k : Nat) : ∃ y : Nat, byteAt s n k = .int .u8 (y : Nat) ∧ y < 256 := by
  unfold byteAt
  refine ⟨(IntKind.u8.wrap (s ((k : Int) % n) ((k : Int) / n))).toNat, ?_, ?_⟩
  · congr 1
    unfold IntKind.wrap; simp [IntKind.bits, IntKind.signed]; omega
  · unfold IntKind.wrap; simp [IntKind.bits, IntKind.signed]; omega
def byteN (s : Int → Int → Int) (n : Int) (k : Nat) : Nat := (IntKind.u8.wrap (s ((k : Int) % n) ((k : Int) / n))).toNat
theorem byteN_eq (s : Int → Int → Int) (n : Int) (k : Nat) : byteAt s n k = .int .u8 (byteN s n k : Nat) := by
  unfold byteAt byteN
  congr 1
  unfold IntKind.wrap; simp [IntKind.bits, IntKind.signed]; omega
theorem byteN_lt (s : Int → Int → Int) (n : Int) (k : Nat) : byteN s n k < 256 := by
  unfold byteN IntKind.wrap; simp [IntKind.bits, IntKind.signed]; omega
theorem pred_by {h : H} {b k : Nat} {s : Int → Int → Int} {n : Int} (hb : h.get b = some (.cells ((List.range k).map (byteAt s n)) 5 false)) : ByAt h (.sl b 0 k (.ex k)) ((List.range k).map (byteN s n)) := by
  have e : (List.range k).map (byteAt s n) = bytesV ((List.range k).map (byteN s n)) := by
    unfold bytesV; rw [List.map_map]; congr 1; funext i; exact byteN_eq s n i
  rw [e] at hb
  have := ByAt.of (k := .ex k) hb (fun i hi => by
    have hi' : i < k := by simpa using hi
    simp [hi']; exact byteN_lt s n i)
  simpa using this
theorem bytes_eq {s s' : Int → Int → Int} {n : Int} {k : Nat} (hn : 0 < n) (h : ∀ x y : Int, 0 ≤ x → 0 ≤ y → s x y = s' x y) : (List.range k).map (byteN s n) = (List.range k).map (byteN s' n) := by
  congr 1; funext i; unfold byteN
  rw [h _ _ (Int.emod_nonneg _ (by omega)) (Int.ediv_nonneg (by omega) (by omega))]

/-- Two edges that the law compares. -/
structure Ed9 (hb : H) (q1 q2 : Nat) (ha hl : Bool) (A L A2 L2 : V) (a l a2 l2 : List Nat) (c c2 : Nat) (nn : Nat) : Prop where
  g1 : hb.get q1 = some (.cells (edges ha hl A L c) 25 false)
  g2 : hb.get q2 = some (.cells (edges ha hl A2 L2 c2) 25 false)
  aA : ByAt hb A a
  aL : ByAt hb L l
  aA2 : ByAt hb A2 a2
  aL2 : ByAt hb L2 l2
  c : c < 256
  c2 : c2 < 256
  la : a.length = if ha then nn else 0
  ll : l.length = if hl then nn else 0
  la2 : a2.length = if ha then nn else 0
  ll2 : l2.length = if hl then nn else 0
theorem Ed9.ext {hb g : H} {q1 q2 : Nat} {ha hl : Bool} {A L A2 L2 : V} {a l a2 l2 : List Nat} {c c2 : Nat} {nn : Nat} (e : Ed9 hb q1 q2 ha hl A L A2 L2 a l a2 l2 c c2 nn) (x : Ext hb g) : Ed9 g q1 q2 ha hl A L A2 L2 a l a2 l2 c c2 nn :=
  ⟨by rw [x.get _ (H.get_lt e.g1), e.g1], by rw [x.get _ (H.get_lt e.g2), e.g2], e.aA.ext x, e.aL.ext x, e.aA2.ext x, e.aL2.ext x, e.c, e.c2, e.la, e.ll, e.la2, e.ll2⟩

structure I9a (v : V) (nn : Nat) (q1 q2 : Nat) (hb : H) (j : Nat) (en : E) (g : H) : Prop where
  hj : j ≤ 13
  x : Ext hb g
  p2 : en.s [0, 1, 2, 3, 6, 7, 8, 9, 10, 11, 12, 13, 14, 15, 16, 17, 18, 19, 20] 2 = v
  p3 : en.s [0, 1, 2, 3, 6, 7, 8, 9, 10, 11, 12, 13, 14, 15, 16, 17, 18, 19, 20] 3 = .ptr q1 0
  p7 : en.s [0, 1, 2, 3, 6, 7, 8, 9, 10, 11, 12, 13, 14, 15, 16, 17, 18, 19, 20] 7 = .int .i64 nn
  p8 : en.s [0, 1, 2, 3, 6, 7, 8, 9, 10, 11, 12, 13, 14, 15, 16, 17, 18, 19, 20] 8 = .ptr q2 0
  p9 : en.s [0, 1, 2, 3, 6, 7, 8, 9, 10, 11, 12, 13, 14, 15, 16, 17, 18, 19, 20] 9 = .int .i64 (13 - j : Int)

theorem loop9_0 {v : V} {nn q1 q2 : Nat} {hb : H} {ha hl : Bool} {A L A2 L2 : V} {a l : List Nat} {c c2 : Nat} (e : Ed9 hb q1 q2 ha hl A L A2 L2 a l a l c c2 nn) (hz : Sz nn = true) (en : E) (g : H) (hi : I9a v nn q1 q2 hb 13 en g) :
    ∃ e' g', loopZ (l9_0 KW loopZ) en g = some ⟨.ex 0, e', g'⟩ ∧ I9a v nn q1 q2 hb 0 e' g' := by
  obtain ⟨n4, n64, n0⟩ := sz_even hz
  obtain ⟨s, k1, k2, k3⟩ := loop_run (body := l9_0 KW loopZ) (I9a v nn q1 q2 hb) (fun s => s.x = .ex 0 ∧ I9a v nn q1 q2 hb 0 s.e s.h)
    (fun j en g hi => by
      obtain ⟨hj, x, p2, p3, p7, p8, p9⟩ := hi
      cases j with
      | zero =>
        simp [l9_0, p9]
        exact ⟨rfl, hj, x, by simp [p2], by simp [p3], by simp [p7], by simp [p8], by simp⟩
      | succ j =>
        obtain ⟨d, hd⟩ : ∃ d, d = (13 - (j + 1 : Nat) : Int) := ⟨_, rfl⟩
        rw [← hd] at p9
        have z3 : IntKind.i64.wrap (d + 1) = d + 1 := Go.Zf.wi64 (by omega) (by omega)
        have eg := e.ext x
        have hbad : Bad d 0 = false := bad_dirs (by omega) (by omega) (by omega) (by omega) (by simp [Dirs])
        obtain ⟨w1, g1, r1, x1, b1, m, hm, rfl, hb1, q3⟩ := (pred_fit2 (mode := d) (delta := 0) eg.aA eg.aL eg.la eg.ll (c := c) (by omega) (by have := e.c; omega) hz hbad).elim
        have e1 := eg.ext x1
        obtain ⟨w2, g2, r2, x2, b2, m', hm', rfl, hb2, q4⟩ := (pred_fit2 (mode := d) (delta := 0) e1.aA2 e1.aL2 eg.la eg.ll (c := c2) (by omega) (by have := e.c2; omega) hz hbad).elim
        have : m' = m := by omega
        subst this
        have q3' : g2.get b1 = _ := (x2.get _ (H.get_lt q3)).trans q3
        have B1 := pred_by q3'
        have B2 := pred_by q4
        have G1 := eg.g1
        have G2 := e1.g2
        have G3 := (e1.ext x2).g1
        have hm2 : (m' : Int) ≤ 64 * 64 := by rw [hm]; exact (mul_bd (by omega) (by omega) (by omega) (by omega)).2
        have heq : ((ha && hl) = false ∨ d = 0 ∨ d = 1 ∨ d = 2 ∨ (9 ≤ d ∧ d ≤ 11)) → KW 16 [.sl b1 0 m' (.ex m'), .sl b2 0 m' (.ex m')] g2 = some (.ret (.bool true), g2) := fun hc => by
          rw [bytes_eq (s' := predS nn d 0 ha hl a l c2) (by omega) (fun x y x0 y0 => reads_corner hc n4 x0 y0)] at B1
          exact eq16_ok B1 B2 (by simp; omega)
        unfold edges at G1 G2 G3 r1 r2
        have fin : ∀ (w : E), w.s [0, 1, 2, 3, 6, 7, 8, 9, 10, 11, 12, 13, 14, 15, 16, 17, 18, 19, 20] 2 = v → w.s [0, 1, 2, 3, 6, 7, 8, 9, 10, 11, 12, 13, 14, 15, 16, 17, 18, 19, 20] 3 = .ptr q1 0 → w.s [0, 1, 2, 3, 6, 7, 8, 9, 10, 11, 12, 13, 14, 15, 16, 17, 18, 19, 20] 7 = .int .i64 nn → w.s [0, 1, 2, 3, 6, 7, 8, 9, 10, 11, 12, 13, 14, 15, 16, 17, 18, 19, 20] 8 = .ptr q2 0 → w.s [0, 1, 2, 3, 6, 7, 8, 9, 10, 11, 12, 13, 14, 15, 16, 17, 18, 19, 20] 9 = .int .i64 (d + 1) → ∃ m, m < j + 1 ∧ I9a v nn q1 q2 hb m w g2 := fun w y2 y3 y7 y8 y9 =>
          ⟨j, Nat.lt_succ_self j, by omega, (x.trans x1).trans x2, y2, y3, y7, y8, by rw [y9, hd]; congr 1; omega⟩
        by_cases hal : (ha && hl) = false
        · have heq := heq (.inl hal)
          cases ha <;> cases hl <;> first | (simp at hal; done) | (
            simp [l9_0, p9, show d ≤ 12 by omega, p3, rdN_of (o := 0) (n := 5) G1 (by simp), p7, r1, p8, rdN_of (o := 0) (n := 5) G2 (by simp), r2, rd1_of G3, gl_t, gk_t, heq, z3]
            exact fin _ (by simp [p2]) (by simp [p3]) (by simp [p7]) (by simp [p8]) (by simp))
        · have hal' : ha = true ∧ hl = true := by simpa using hal
          obtain ⟨rfl, rfl⟩ := hal'
          by_cases d0 : d = 0
          · have heq := heq (.inr (.inl d0))
            subst d0
            have z3 : IntKind.i64.wrap 1 = 1 := Go.Zf.wi64 (by omega) (by omega)
            simp [l9_0, p9, p3, rdN_of (o := 0) (n := 5) G1 (by simp), p7, r1, p8, rdN_of (o := 0) (n := 5) G2 (by simp), r2, rd1_of G3, gl_t, gk_t, heq, z3]
            exact fin _ (by simp [p2]) (by simp [p3]) (by simp [p7]) (by simp [p8]) (by simp)
          · by_cases d1 : d = 1
            · have heq := heq (.inr (.inr (.inl d1)))
              subst d1
              have z3 : IntKind.i64.wrap 2 = 2 := Go.Zf.wi64 (by omega) (by omega)
              simp [l9_0, p9, p3, rdN_of (o := 0) (n := 5) G1 (by simp), p7, r1, p8, rdN_of (o := 0) (n := 5) G2 (by simp), r2, rd1_of G3, gl_t, gk_t, heq, z3]
              exact fin _ (by simp [p2]) (by simp [p3]) (by simp [p7]) (by simp [p8]) (by simp)
            · by_cases d2 : d = 2
              · have heq := heq (.inr (.inr (.inr (.inl d2))))
                subst d2
                have z3 : IntKind.i64.wrap 3 = 3 := Go.Zf.wi64 (by omega) (by omega)
                simp [l9_0, p9, p3, rdN_of (o := 0) (n := 5) G1 (by simp), p7, r1, p8, rdN_of (o := 0) (n := 5) G2 (by simp), r2, rd1_of G3, gl_t, gk_t, heq, z3]
                exact fin _ (by simp [p2]) (by simp [p3]) (by simp [p7]) (by simp [p8]) (by simp)
              · by_cases d9 : 9 ≤ d
                · by_cases d11 : d ≤ 11
                  · have heq := heq (.inr (.inr (.inr (.inr ⟨d9, d11⟩))))
                    simp [l9_0, p9, show d ≤ 12 by omega, p3, rdN_of (o := 0) (n := 5) G1 (by simp), p7, r1, p8, rdN_of (o := 0) (n := 5) G2 (by simp), r2, rd1_of G3, gl_t, gk_t, d0, d1, d2, d9, d11, heq, z3]
                    exact fin _ (by simp [p2]) (by simp [p3]) (by simp [p7]) (by simp [p8]) (by simp)
                  · simp [l9_0, p9, show d ≤ 12 by omega, p3, rdN_of (o := 0) (n := 5) G1 (by simp), p7, r1, p8, rdN_of (o := 0) (n := 5) G2 (by simp), r2, rd1_of G3, gl_t, gk_t, d0, d1, d2, d9, d11, z3]
                    exact fin _ (by simp [p2]) (by simp [p3]) (by simp [p7]) (by simp [p8]) (by simp)
                · simp [l9_0, p9, show d ≤ 12 by omega, p3, rdN_of (o := 0) (n := 5) G1 (by simp), p7, r1, p8, rdN_of (o := 0) (n := 5) G2 (by simp), r2, rd1_of G3, gl_t, gk_t, d0, d1, d2, d9, z3]
                  exact fin _ (by simp [p2]) (by simp [p3]) (by simp [p7]) (by simp [p8]) (by simp)) 13 en g hi
  obtain ⟨x, e', h'⟩ := s
  simp only at k2 k3
  subst k2
  exact ⟨e', h', k1, k3⟩

theorem bytesV_set (l : List Nat) (k : Nat) (y : Nat) : (bytesV l).set k (.int .u8 (y : Nat)) = bytesV (l.set k y) := by
  unfold bytesV; rw [List.map_set]
theorem u8_ex (z : Int) : ∃ y : Nat, IntKind.u8.wrap z = (y : Int) ∧ y < 256 := by
  refine ⟨(IntKind.u8.wrap z).toNat, ?_, ?_⟩ <;> unfold IntKind.wrap <;> simp [IntKind.bits, IntKind.signed] <;> omega
theorem set_lt {l : List Nat} {k y : Nat} (h : ∀ i, i < l.length → l.getD i 0 < 256) (hy : y < 256) : ∀ i, i < (l.set k y).length → (l.set k y).getD i 0 < 256 := by
  intro i hi
  rw [List.length_set] at hi
  have := h i hi
  simp [List.getElem?_set, hi] at this ⊢
  by_cases e : k = i
  · subst e; simp [hi]; exact hy
  · simp [e, hi]; exact this

structure I9_1 (v x : Nat) (nn q1 q2 b m : Nat) (g0 : H) (j : Nat) (en : E) (g : H) : Prop where
  hj : j ≤ m
  hn : g.n = g0.n
  ne : ∀ c, c ≠ b → g.get c = g0.get c
  o : ∃ l : List Nat, l.length = m ∧ (∀ i, i < l.length → l.getD i 0 < 256) ∧ g.get b = some (.cells (bytesV l) 5 false)
  p2 : en.s [0, 1, 2, 3, 6, 7, 8, 9, 10, 11, 12, 13, 14, 15, 16, 17, 18, 19, 20] 2 = .int .u8 (v : Nat)
  p3 : en.s [0, 1, 2, 3, 6, 7, 8, 9, 10, 11, 12, 13, 14, 15, 16, 17, 18, 19, 20] 3 = .ptr q1 0
  p7 : en.s [0, 1, 2, 3, 6, 7, 8, 9, 10, 11, 12, 13, 14, 15, 16, 17, 18, 19, 20] 7 = .int .i64 nn
  p8 : en.s [0, 1, 2, 3, 6, 7, 8, 9, 10, 11, 12, 13, 14, 15, 16, 17, 18, 19, 20] 8 = .ptr q2 0
  pi : en.s [0, 1, 2, 3, 6, 7, 8, 9, 10, 11, 12, 13, 14, 15, 16, 17, 18, 19, 20] 15 = .int .i64 ((m - j : Nat) : Int)

theorem loop9_1 {v nn q1 q2 m p : Nat} {g : H} {ha hl : Bool} {A2 L2 : V} {c2 : Int} {l : List Nat} (G2 : g.get q2 = some (.cells (edges ha hl A2 L2 c2) 25 false)) (GX : GrowV p g L2 5 1 (bytesV l) m) (hl0 : l.length = m) (hlt : ∀ i, i < l.length → l.getD i 0 < 256) (hm : m ≤ 64) (hq : ∀ o n k, L2 ≠ .sl q2 o n k)
    (en : E) (p2 : en.s [0, 1, 2, 3, 6, 7, 8, 9, 10, 11, 12, 13, 14, 15, 16, 17, 18, 19, 20] 2 = .int .u8 (v : Nat)) (p3 : en.s [0, 1, 2, 3, 6, 7, 8, 9, 10, 11, 12, 13, 14, 15, 16, 17, 18, 19, 20] 3 = .ptr q1 0) (p7 : en.s [0, 1, 2, 3, 6, 7, 8, 9, 10, 11, 12, 13, 14, 15, 16, 17, 18, 19, 20] 7 = .int .i64 nn) (p8 : en.s [0, 1, 2, 3, 6, 7, 8, 9, 10, 11, 12, 13, 14, 15, 16, 17, 18, 19, 20] 8 = .ptr q2 0) (pi : en.s [0, 1, 2, 3, 6, 7, 8, 9, 10, 11, 12, 13, 14, 15, 16, 17, 18, 19, 20] 15 = .int .i64 0) :
    ∃ e' g' l', loopZ (l9_1 KW loopZ) en g = some ⟨.ex 2, e', g'⟩ ∧ l'.length = m ∧ (∀ i, i < l'.length → l'.getD i 0 < 256) ∧ GrowV p g' L2 5 1 (bytesV l') m ∧ g'.n = g.n ∧ (∀ c, (∀ o n k, L2 ≠ .sl c o n k) → g'.get c = g.get c) ∧
      e'.s [0, 1, 2, 3, 6, 7, 8, 9, 10, 11, 12, 13, 14, 15, 16, 17, 18, 19, 20] 2 = .int .u8 (v : Nat) ∧ e'.s [0, 1, 2, 3, 6, 7, 8, 9, 10, 11, 12, 13, 14, 15, 16, 17, 18, 19, 20] 3 = .ptr q1 0 ∧ e'.s [0, 1, 2, 3, 6, 7, 8, 9, 10, 11, 12, 13, 14, 15, 16, 17, 18, 19, 20] 7 = .int .i64 nn ∧ e'.s [0, 1, 2, 3, 6, 7, 8, 9, 10, 11, 12, 13, 14, 15, 16, 17, 18, 19, 20] 8 = .ptr q2 0 := by
  unfold edges at G2
  rcases GX with ⟨rfl, rfl, hc⟩ | ⟨b, rfl, hb, hcl, hpb⟩
  · refine ⟨⟨[en.s [0, 1, 2, 3, 6, 7, 8, 9, 10, 11, 12, 13, 14, 15, 16, 17, 18, 19, 20] 0, en.s [0, 1, 2, 3, 6, 7, 8, 9, 10, 11, 12, 13, 14, 15, 16, 17, 18, 19, 20] 1, .int .u8 (v : Nat), .ptr q1 0, en.s [0, 1, 2, 3, 6, 7, 8, 9, 10, 11, 12, 13, 14, 15, 16, 17, 18, 19, 20] 6, .int .i64 nn, .ptr q2 0, en.s [0, 1, 2, 3, 6, 7, 8, 9, 10, 11, 12, 13, 14, 15, 16, 17, 18, 19, 20] 9, en.s [0, 1, 2, 3, 6, 7, 8, 9, 10, 11, 12, 13, 14, 15, 16, 17, 18, 19, 20] 10, en.s [0, 1, 2, 3, 6, 7, 8, 9, 10, 11, 12, 13, 14, 15, 16, 17, 18, 19, 20] 11, en.s [0, 1, 2, 3, 6, 7, 8, 9, 10, 11, 12, 13, 14, 15, 16, 17, 18, 19, 20] 12, en.s [0, 1, 2, 3, 6, 7, 8, 9, 10, 11, 12, 13, 14, 15, 16, 17, 18, 19, 20] 13, en.s [0, 1, 2, 3, 6, 7, 8, 9, 10, 11, 12, 13, 14, 15, 16, 17, 18, 19, 20] 14, en.s [0, 1, 2, 3, 6, 7, 8, 9, 10, 11, 12, 13, 14, 15, 16, 17, 18, 19, 20] 15, en.s [0, 1, 2, 3, 6, 7, 8, 9, 10, 11, 12, 13, 14, 15, 16, 17, 18, 19, 20] 16, en.s [0, 1, 2, 3, 6, 7, 8, 9, 10, 11, 12, 13, 14, 15, 16, 17, 18, 19, 20] 17, en.s [0, 1, 2, 3, 6, 7, 8, 9, 10, 11, 12, 13, 14, 15, 16, 17, 18, 19, 20] 18, en.s [0, 1, 2, 3, 6, 7, 8, 9, 10, 11, 12, 13, 14, 15, 16, 17, 18, 19, 20] 19, en.s [0, 1, 2, 3, 6, 7, 8, 9, 10, 11, 12, 13, 14, 15, 16, 17, 18, 19, 20] 20], 102, .bool false⟩, g, l, ?_, hl0, hlt, .inl ⟨rfl, rfl, hc⟩, rfl, fun _ _ => rfl, by simp, by simp, by simp, by simp⟩
    rw [loopZ_eq]
    simp [l9_1, p2, p3, p7, p8, rd1_of G2, pi]
  · have hbq : b ≠ q2 := fun e => hq 0 m (.op 1) (by rw [e])
    obtain ⟨s, k1, k2, k3⟩ := loop_run (body := l9_1 KW loopZ) (I9_1 v 0 nn q1 q2 b m g) (fun s => s.x = .ex 2 ∧ I9_1 v 0 nn q1 q2 b m g 0 s.e s.h)
      (fun j en g' hi => by
        obtain ⟨hj, hn, ne, ⟨l, h1, h2, h3⟩, p2, p3, p7, p8, pi⟩ := hi
        have G2' : g'.get q2 = _ := (ne q2 (fun e => hbq e.symm)).trans G2
        cases j with
        | zero =>
          simp [l9_1, p8, rd1_of G2', pi]
          exact ⟨rfl, hj, hn, ne, ⟨l, h1, h2, h3⟩, by simp [p2], by simp [p3], by simp [p7], by simp, by simp⟩
        | succ j =>
          obtain ⟨k, hk⟩ : ∃ k, k = m - (j + 1) := ⟨_, rfl⟩
          have hk2 : m - j = k + 1 := by omega
          rw [← hk] at pi
          have z3 : IntKind.i64.wrap ((k : Int) + 1) = k + 1 := Go.Zf.wi64 (by omega) (by omega)
          have hget := bytesV_get l k (by omega)
          obtain ⟨x, hx⟩ : ∃ x, x = l.getD k 0 := ⟨_, rfl⟩
          rw [← hx] at hget
          obtain ⟨y, hy, hy2⟩ := u8_ex ((x : Int) + (v : Int))
          have hop : binK 0 .add (.int .u8 (x : Nat)) (.int .u8 (v : Nat)) = some (.int .u8 (y : Nat)) := by rw [binK_add]; exact congrArg (fun z => some (V.int .u8 z)) hy
          have hset := bytesV_set l k y
          have hlen : k < (bytesV l).length := by rw [bytesV_length]; omega
          obtain ⟨cs, hcs⟩ : ∃ cs, cs = bytesV l := ⟨_, rfl⟩
          rw [← hcs] at h3 hget hset hlen
          simp [l9_1, p8, rd1_of G2', pi, show (k : Int) < m by omega, show k < m by omega, rd1_of h3, hget, p2, hy, wr1_of h3 hlen, hset, z3]
          refine ⟨j, Nat.lt_succ_self j, by omega, by rw [H.n_put, hn], fun c hc => by rw [get_put_ne hc, ne c hc], ⟨l.set k y, by rw [List.length_set, h1], set_lt h2 hy2, by rw [get_put_same (H.get_lt h3)]⟩, by simp [p2], by simp [p3], by simp [p7], by simp [p8], by simp [hk2]⟩) m en g ⟨Nat.le_refl _, rfl, fun _ _ => rfl, ⟨l, hl0, hlt, hb⟩, p2, p3, p7, p8, by simpa using pi⟩
    obtain ⟨x, e', h'⟩ := s
    simp only at k2 k3
    subst k2
    obtain ⟨_, hn, ne, ⟨l', h1, h2, h3⟩, q2', q3, q7, q8, qi⟩ := k3
    exact ⟨e', h', l', k1, h1, h2, .inr ⟨b, rfl, h3, by rw [bytesV_length, h1, Nat.mul_one], hpb⟩, hn, fun c hc => ne c (fun e => hc 0 m (.op 1) (by rw [e])), q2', q3, q7, q8⟩

structure I9_2 (v x : Nat) (nn q1 q2 b m : Nat) (g0 : H) (j : Nat) (en : E) (g : H) : Prop where
  hj : j ≤ m
  hn : g.n = g0.n
  ne : ∀ c, c ≠ b → g.get c = g0.get c
  o : ∃ l : List Nat, l.length = m ∧ (∀ i, i < l.length → l.getD i 0 < 256) ∧ g.get b = some (.cells (bytesV l) 5 false)
  p2 : en.s [0, 1, 2, 3, 6, 7, 8, 9, 10, 11, 12, 13, 14, 15, 16, 17, 18, 19, 20] 2 = .int .u8 (v : Nat)
  p3 : en.s [0, 1, 2, 3, 6, 7, 8, 9, 10, 11, 12, 13, 14, 15, 16, 17, 18, 19, 20] 3 = .ptr q1 0
  p7 : en.s [0, 1, 2, 3, 6, 7, 8, 9, 10, 11, 12, 13, 14, 15, 16, 17, 18, 19, 20] 7 = .int .i64 nn
  p8 : en.s [0, 1, 2, 3, 6, 7, 8, 9, 10, 11, 12, 13, 14, 15, 16, 17, 18, 19, 20] 8 = .ptr q2 0
  pi : en.s [0, 1, 2, 3, 6, 7, 8, 9, 10, 11, 12, 13, 14, 15, 16, 17, 18, 19, 20] 20 = .int .i64 ((m - j : Nat) : Int)

theorem loop9_2 {v nn q1 q2 m p : Nat} {g : H} {ha hl : Bool} {A2 L2 : V} {c2 : Int} {l : List Nat} (G2 : g.get q2 = some (.cells (edges ha hl A2 L2 c2) 25 false)) (GX : GrowV p g A2 5 1 (bytesV l) m) (hl0 : l.length = m) (hlt : ∀ i, i < l.length → l.getD i 0 < 256) (hm : m ≤ 64) (hq : ∀ o n k, A2 ≠ .sl q2 o n k)
    (en : E) (p2 : en.s [0, 1, 2, 3, 6, 7, 8, 9, 10, 11, 12, 13, 14, 15, 16, 17, 18, 19, 20] 2 = .int .u8 (v : Nat)) (p3 : en.s [0, 1, 2, 3, 6, 7, 8, 9, 10, 11, 12, 13, 14, 15, 16, 17, 18, 19, 20] 3 = .ptr q1 0) (p7 : en.s [0, 1, 2, 3, 6, 7, 8, 9, 10, 11, 12, 13, 14, 15, 16, 17, 18, 19, 20] 7 = .int .i64 nn) (p8 : en.s [0, 1, 2, 3, 6, 7, 8, 9, 10, 11, 12, 13, 14, 15, 16, 17, 18, 19, 20] 8 = .ptr q2 0) (pi : en.s [0, 1, 2, 3, 6, 7, 8, 9, 10, 11, 12, 13, 14, 15, 16, 17, 18, 19, 20] 20 = .int .i64 0) :
    ∃ e' g' l', loopZ (l9_2 KW loopZ) en g = some ⟨.ex 4, e', g'⟩ ∧ l'.length = m ∧ (∀ i, i < l'.length → l'.getD i 0 < 256) ∧ GrowV p g' A2 5 1 (bytesV l') m ∧ g'.n = g.n ∧ (∀ c, (∀ o n k, A2 ≠ .sl c o n k) → g'.get c = g.get c) ∧
      e'.s [0, 1, 2, 3, 6, 7, 8, 9, 10, 11, 12, 13, 14, 15, 16, 17, 18, 19, 20] 2 = .int .u8 (v : Nat) ∧ e'.s [0, 1, 2, 3, 6, 7, 8, 9, 10, 11, 12, 13, 14, 15, 16, 17, 18, 19, 20] 3 = .ptr q1 0 ∧ e'.s [0, 1, 2, 3, 6, 7, 8, 9, 10, 11, 12, 13, 14, 15, 16, 17, 18, 19, 20] 7 = .int .i64 nn ∧ e'.s [0, 1, 2, 3, 6, 7, 8, 9, 10, 11, 12, 13, 14, 15, 16, 17, 18, 19, 20] 8 = .ptr q2 0 := by
  unfold edges at G2
  rcases GX with ⟨rfl, rfl, hc⟩ | ⟨b, rfl, hb, hcl, hpb⟩
  · refine ⟨⟨[en.s [0, 1, 2, 3, 6, 7, 8, 9, 10, 11, 12, 13, 14, 15, 16, 17, 18, 19, 20] 0, en.s [0, 1, 2, 3, 6, 7, 8, 9, 10, 11, 12, 13, 14, 15, 16, 17, 18, 19, 20] 1, .int .u8 (v : Nat), .ptr q1 0, en.s [0, 1, 2, 3, 6, 7, 8, 9, 10, 11, 12, 13, 14, 15, 16, 17, 18, 19, 20] 6, .int .i64 nn, .ptr q2 0, en.s [0, 1, 2, 3, 6, 7, 8, 9, 10, 11, 12, 13, 14, 15, 16, 17, 18, 19, 20] 9, en.s [0, 1, 2, 3, 6, 7, 8, 9, 10, 11, 12, 13, 14, 15, 16, 17, 18, 19, 20] 10, en.s [0, 1, 2, 3, 6, 7, 8, 9, 10, 11, 12, 13, 14, 15, 16, 17, 18, 19, 20] 11, en.s [0, 1, 2, 3, 6, 7, 8, 9, 10, 11, 12, 13, 14, 15, 16, 17, 18, 19, 20] 12, en.s [0, 1, 2, 3, 6, 7, 8, 9, 10, 11, 12, 13, 14, 15, 16, 17, 18, 19, 20] 13, en.s [0, 1, 2, 3, 6, 7, 8, 9, 10, 11, 12, 13, 14, 15, 16, 17, 18, 19, 20] 14, en.s [0, 1, 2, 3, 6, 7, 8, 9, 10, 11, 12, 13, 14, 15, 16, 17, 18, 19, 20] 15, en.s [0, 1, 2, 3, 6, 7, 8, 9, 10, 11, 12, 13, 14, 15, 16, 17, 18, 19, 20] 16, en.s [0, 1, 2, 3, 6, 7, 8, 9, 10, 11, 12, 13, 14, 15, 16, 17, 18, 19, 20] 17, en.s [0, 1, 2, 3, 6, 7, 8, 9, 10, 11, 12, 13, 14, 15, 16, 17, 18, 19, 20] 18, en.s [0, 1, 2, 3, 6, 7, 8, 9, 10, 11, 12, 13, 14, 15, 16, 17, 18, 19, 20] 19, en.s [0, 1, 2, 3, 6, 7, 8, 9, 10, 11, 12, 13, 14, 15, 16, 17, 18, 19, 20] 20], 148, .bool false⟩, g, l, ?_, hl0, hlt, .inl ⟨rfl, rfl, hc⟩, rfl, fun _ _ => rfl, by simp, by simp, by simp, by simp⟩
    rw [loopZ_eq]
    simp [l9_2, p2, p3, p7, p8, rd1_of G2, pi]
  · have hbq : b ≠ q2 := fun e => hq 0 m (.op 1) (by rw [e])
    obtain ⟨s, k1, k2, k3⟩ := loop_run (body := l9_2 KW loopZ) (I9_2 v 0 nn q1 q2 b m g) (fun s => s.x = .ex 4 ∧ I9_2 v 0 nn q1 q2 b m g 0 s.e s.h)
      (fun j en g' hi => by
        obtain ⟨hj, hn, ne, ⟨l, h1, h2, h3⟩, p2, p3, p7, p8, pi⟩ := hi
        have G2' : g'.get q2 = _ := (ne q2 (fun e => hbq e.symm)).trans G2
        cases j with
        | zero =>
          simp [l9_2, p8, rd1_of G2', pi]
          exact ⟨rfl, hj, hn, ne, ⟨l, h1, h2, h3⟩, by simp [p2], by simp [p3], by simp [p7], by simp, by simp⟩
        | succ j =>
          obtain ⟨k, hk⟩ : ∃ k, k = m - (j + 1) := ⟨_, rfl⟩
          have hk2 : m - j = k + 1 := by omega
          rw [← hk] at pi
          have z3 : IntKind.i64.wrap ((k : Int) + 1) = k + 1 := Go.Zf.wi64 (by omega) (by omega)
          have hget := bytesV_get l k (by omega)
          obtain ⟨x, hx⟩ : ∃ x, x = l.getD k 0 := ⟨_, rfl⟩
          rw [← hx] at hget
          obtain ⟨y, hy, hy2⟩ := u8_ex (((BitVec.ofInt IntKind.u8.bits (x : Int) ^^^ BitVec.ofInt IntKind.u8.bits (v : Int)).toNat : Int))
          have hop : binK 0 .xor (.int .u8 (x : Nat)) (.int .u8 (v : Nat)) = some (.int .u8 (y : Nat)) := by rw [binK_xor]; exact congrArg (fun z => some (V.int .u8 z)) hy
          have hset := bytesV_set l k y
          have hlen : k < (bytesV l).length := by rw [bytesV_length]; omega
          obtain ⟨cs, hcs⟩ : ∃ cs, cs = bytesV l := ⟨_, rfl⟩
          rw [← hcs] at h3 hget hset hlen
          simp [l9_2, p8, rd1_of G2', pi, show (k : Int) < m by omega, show k < m by omega, rd1_of h3, hget, p2, -binK_xor, hop, wr1_of h3 hlen, hset, z3]
          refine ⟨j, Nat.lt_succ_self j, by omega, by rw [H.n_put, hn], fun c hc => by rw [get_put_ne hc, ne c hc], ⟨l.set k y, by rw [List.length_set, h1], set_lt h2 hy2, by rw [get_put_same (H.get_lt h3)]⟩, by simp [p2], by simp [p3], by simp [p7], by simp [p8], by simp [hk2]⟩) m en g ⟨Nat.le_refl _, rfl, fun _ _ => rfl, ⟨l, hl0, hlt, hb⟩, p2, p3, p7, p8, by simpa using pi⟩
    obtain ⟨x, e', h'⟩ := s
    simp only at k2 k3
    subst k2
    obtain ⟨_, hn, ne, ⟨l', h1, h2, h3⟩, q2', q3, q7, q8, qi⟩ := k3
    exact ⟨e', h', l', k1, h1, h2, .inr ⟨b, rfl, h3, by rw [bytesV_length, h1, Nat.mul_one], hpb⟩, hn, fun c hc => ne c (fun e => hc 0 m (.op 1) (by rw [e])), q2', q3, q7, q8⟩

end Go.Proofs.Ytpjcmgmmolediaa
