/- The order of a block's places. -/
import Derived.Test.YtbajipmhnoakeaaCe
set_option linter.unusedVariables false
set_option linter.unusedSimpArgs false
set_option maxRecDepth 20000
namespace Go.Proofs.Ytbajipmhnoakeaa
open Go Go.Zf
open Go.Zf (wi64)

def rowF (n s r m : Nat) : List Nat := (List.range' r m).map fun r => r * n + (s - r)
def rowL (n s : Nat) : List Nat := rowF n s (s + 1 - n) (min n (s + 1) - (s + 1 - n))
def rowsF (n s m : Nat) : List Nat := (List.range' s m).flatMap (rowL n)
def ordN (n : Nat) : List Nat := rowsF n 0 (2 * n - 1)
theorem rowF_succ (n s r m : Nat) : rowF n s r (m + 1) = (r * n + (s - r)) :: rowF n s (r + 1) m := by simp [rowF, List.range'_succ]
theorem rowsF_succ (n s m : Nat) : rowsF n s (m + 1) = rowL n s ++ rowsF n (s + 1) m := by simp [rowsF, List.range'_succ]

/-- An order, as it is being written. -/
def ordC (acc : List Nat) (N : Nat) : List V := intsV (acc.map fun (x : Nat) => (x : Int)) ++ List.replicate (N - acc.length) (.int .i64 0)
theorem ordC_len {acc : List Nat} {N : Nat} (h : acc.length ≤ N) : (ordC acc N).length = N := by simp [ordC, intsV]; omega
theorem ordC_set {acc : List Nat} {N x : Nat} (h : acc.length < N) : (ordC acc N).set acc.length (.int .i64 (x : Nat)) = ordC (acc ++ [x]) N := by
  unfold ordC
  obtain ⟨k, hk⟩ : ∃ k, N - acc.length = k + 1 := ⟨N - acc.length - 1, by omega⟩
  rw [hk, List.replicate_succ]
  have h1 : (acc ++ [x]).length = acc.length + 1 := by simp
  rw [h1, show N - (acc.length + 1) = k by omega]
  simp [intsV, List.set_append]
theorem apZ_fit {h : H} {b len N : Nat} {cs : List V} {x : V} (hb : h.get b = some (.cells cs 3 false)) (hc : cs.length = N) (hl : len < N) :
    apZ 3 1 8 (h.new (.cells [x] 3 false)) (.sl b 0 len (.ex N)) (.sl h.n 0 1 (.ex 1)) = some (.sl b 0 (len + 1) (.ex N), (h.new (.cells [x] 3 false)).put b (.cells (cs.set len x) 3 false)) := by
  have hbn := H.get_lt hb
  have g1 : (h.new (.cells [x] 3 false)).get b = some (.cells cs 3 false) := by rw [get_new_lt hbn, hb]
  have g2 : (h.new (.cells [x] 3 false)).rdN h.n 0 1 = some [x] := by rw [rdN_of get_new_same (by simp)]; rfl
  have g3 : (h.new (.cells [x] 3 false)).wrN b len [x] = some ((h.new (.cells [x] 3 false)).put b (.cells (splice cs len [x]) 3 false)) := wrN_of g1 (by simp; omega)
  have g4 : splice cs len [x] = cs.set len x := by
    rw [List.set_eq_take_append_cons_drop, if_pos (by omega)]; simp [splice]
  simp [apZ, lenOf, firstV, g2, apN, show len + 1 ≤ N by omega, g3, g4]

abbrev K25 : List Nat := [0, 2, 3, 4, 5, 6, 7, 8]
structure I25 (g0 : H) (n b s : Nat) (acc rest : List Nat) (r : Nat) (e : E) (g : H) : Prop where
  x : Ext g0 g
  hb : g0.n ≤ b
  get : g.get b = some (.cells (ordC acc (n * n)) 3 false)
  cut : ordN n = acc ++ rest
  e4 : e.s K25 4 = .int .i64 (n : Nat)
  e5 : e.s K25 5 = .sl b 0 acc.length (.ex (n * n))
  e6 : e.s K25 6 = .int .i64 (s : Nat)

structure J25 (g0 : H) (n b s : Nat) (m : Nat) (e : E) (g : H) : Prop where
  hm : m ≤ min n (s + 1)
  lo : s + 1 - n ≤ min n (s + 1) - m
  I : ∃ acc, I25 g0 n b s acc (rowF n s (min n (s + 1) - m) m ++ rowsF n (s + 1) (2 * n - 1 - (s + 1))) 0 e g
  e7 : e.s K25 7 = .int .i64 ((min n (s + 1) - m : Nat) : Int)

/-- A diagonal. -/
theorem diag25 {g0 : H} {n b s : Nat} (hN : (ordN n).length = n * n) (hn : 0 < n) (hn2 : n ≤ 32) (hs : s < 2 * n - 1) {m : Nat} {e : E} {g : H} (hi : J25 g0 n b s m e g) :
    ∃ e' g', loopZ (l25_0 KW loopZ) e g = some ⟨.ex 1, e', g'⟩ ∧ ∃ acc, I25 g0 n b s acc (rowsF n (s + 1) (2 * n - 1 - (s + 1))) 0 e' g' := by
  have loop := loop_run (body := l25_0 KW loopZ) (J25 g0 n b s) (fun st => st.x = .ex 1 ∧ ∃ acc, I25 g0 n b s acc (rowsF n (s + 1) (2 * n - 1 - (s + 1))) 0 st.e st.h)
    (fun m e g hi => by
      obtain ⟨hm, lo, ⟨acc, x, hb, get, cut, e4, e5, e6⟩, e7⟩ := hi
      obtain ⟨r, hr⟩ : ∃ r, r = min n (s + 1) - m := ⟨_, rfl⟩
      rw [← hr] at e7 cut lo
      have hrn : r ≤ n := by omega
      have z1 : IntKind.i64.wrap ((s : Int) - r) = (s : Int) - r := wi64 (by omega) (by omega)
      have z2 : IntKind.i64.wrap (2 * (n : Int)) = 2 * (n : Int) := wi64 (by omega) (by omega)
      have z3 : IntKind.i64.wrap (2 * (n : Int) - 1) = 2 * (n : Int) - 1 := wi64 (by omega) (by omega)
      cases m with
      | zero =>
        have h0 : rowF n s r 0 = [] := rfl
        rw [h0, List.nil_append] at cut
        have hr2 : r = n ∨ (r = s + 1 ∧ r < n) := by omega
        rcases hr2 with h | ⟨h, h'⟩
        · subst h
          have hne : ¬ (s : Int) = 2 * (r : Int) - 1 := by omega
          simp [l25_0, e6, e7, z1, e4, z2, z3, hne]
          exact ⟨rfl, acc, x, hb, get, cut, by simp [e4], by simp [e5], by simp [e6]⟩
        · have hne : ¬ r = n := by omega
          simp [l25_0, e6, e7, z1, e4, z2, z3, hne, show ¬ (r : Int) = (n : Int) by omega, show ((s : Int) - r) < 0 by omega]
          exact ⟨rfl, acc, x, hb, get, cut, by simp [e4], by simp [e5], by simp [e6]⟩
      | succ m =>
        rw [rowF_succ, List.cons_append] at cut
        have hrn2 : r < n := by omega
        have hrs : r ≤ s := by omega
        have hlen := congrArg List.length cut
        rw [hN, List.length_append, List.length_cons] at hlen
        have hne : ¬ r = n := by omega
        have hrm : r * n ≤ 31 * 32 := Nat.mul_le_mul (by omega) hn2
        have z4 : IntKind.i64.wrap ((r : Int) * n) = (r : Int) * n := by rw [← Int.natCast_mul]; exact wi64 (by omega) (by omega)
        have z5 : IntKind.i64.wrap ((r : Int) * n + ((s : Int) - r)) = ((r * n + (s - r) : Nat) : Int) := by rw [← Int.natCast_mul, wi64 (by omega) (by omega)]; omega
        have z6 : IntKind.i64.wrap ((r : Int) + 1) = ((r + 1 : Nat) : Int) := by rw [wi64 (by omega) (by omega)]; omega
        obtain ⟨p, hp⟩ : ∃ p, p = r * n + (s - r) := ⟨_, rfl⟩
        rw [← hp] at z5 cut
        have ap := apZ_fit (x := .int .i64 (p : Nat)) (len := acc.length) get (ordC_len (by omega)) (by omega)
        rw [ordC_set (by omega)] at ap
        obtain ⟨g1, hg1⟩ : ∃ y, y = (g.new (.cells [.int .i64 (p : Nat)] 3 false)).put b (.cells (ordC (acc ++ [p]) (n * n)) 3 false) := ⟨_, rfl⟩
        rw [← hg1] at ap
        have hbg := H.get_lt get
        simp [l25_0, e6, e7, z1, e4, z2, z3, hne, show ¬ (r : Int) = (n : Int) by omega, show ¬ ((s : Int) - r) < 0 by omega, z4, z5, bs, fillW, splice, e5, ap, z6, -Int.natCast_add]
        refine ⟨m, by omega, by omega, by omega, ⟨acc ++ [p], ?_, hb, ?_, ?_, by simp [e4], by simp [e5], by simp [e6]⟩, ?_⟩
        · rw [hg1]; exact (x.new _).put hb _
        · rw [hg1, get_put_same (by rw [H.n_new]; omega)]
        · rw [cut, show min n (s + 1) - m = r + 1 by omega]; simp
        · simp [show min n (s + 1) - m = r + 1 by omega])
    m e g hi
  obtain ⟨st, h1, h2, h3⟩ := loop
  obtain ⟨sx, se, sh⟩ := st
  exact ⟨se, sh, by rw [h1]; simp only at h2; rw [h2], h3⟩

structure O25 (g0 : H) (n b : Nat) (j : Nat) (e : E) (g : H) : Prop where
  hj : j ≤ 2 * n - 1
  I : ∃ acc, I25 g0 n b (2 * n - 1 - j) acc (rowsF n (2 * n - 1 - j) j) 0 e g

theorem order25_ok {size : Nat} (hs : sizeOk size) (hN : (ordN (sideP size)).length = sideP size * sideP size) (g : H) :
    RT (fun w h' => ∃ b, w = .tup [.sl b 0 (sideP size * sideP size) (.ex (sideP size * sideP size)), .int .i64 0] ∧ g.n ≤ b ∧ h'.get b = some (.cells (intsV ((ordN (sideP size)).map fun (x : Nat) => (x : Int))) 3 false) ∧ Ext g h') (KW 25 [.int .i64 size] g) := by
  have hb := sideP_b hs
  have e38 := side38_ok hs g
  obtain ⟨n, hn⟩ : ∃ n, n = sideP size := ⟨_, rfl⟩
  rw [← hn] at hb e38 hN ⊢
  have hnn : n * n ≤ 1024 := by
    have : n * n ≤ 32 * 32 := Nat.mul_le_mul hb.2 hb.2
    omega
  have z1 : IntKind.i64.wrap ((n : Int) * n) = ((n * n : Nat) : Int) := by rw [← Int.natCast_mul]; exact wi64 (by omega) (by omega)
  obtain ⟨g1, hg1⟩ : ∃ y, y = g.new (.cells (ordC [] (n * n)) 3 false) := ⟨_, rfl⟩
  have x1 : Ext g g1 := by rw [hg1]; exact (Ext.refl g).new _
  have r1 : g1.get g.n = some (.cells (ordC [] (n * n)) 3 false) := by rw [hg1, get_new_same]
  have hms : ms g 3 8 [.int .i64 0] (.int .i64 0) (.int .i64 ((n * n : Nat) : Int)) = some (.sl g.n 0 0 (.ex (n * n)), g1) := by
    have hm : ms g 3 8 [.int .i64 0] (.int .i64 0) (.int .i64 ((n * n : Nat) : Int)) = if (0 : Int) ≤ 0 ∧ (0 : Int) ≤ ((n * n : Nat) : Int) ∧ ((8 : Nat) : Int) * ((n * n : Nat) : Int) ≤ 140737488355328 ∧ ((n * n : Nat) : Int) < 9223372036854775808 ∧ true = true then some (.sl g.n 0 (0 : Int).toNat (.ex ((n * n : Nat) : Int).toNat), g.new (.cells (reps ((n * n : Nat) : Int).toNat [.int .i64 0]) 3 false)) else none := rfl
    rw [hm, if_pos ⟨by omega, by omega, by omega, by omega, rfl⟩, hg1, Int.toNat_natCast, reps_one]
    rfl
  have z2 : IntKind.i64.wrap (0 - (n : Int)) = -(n : Int) := by rw [wi64 (by omega) (by omega)]; omega
  rw [w25, f25, s25]
  simp only [E_s, k25]
  simp [e38, show ¬ n = 0 by omega, z1, hms, -Int.natCast_mul]
  refine loop_in (C := fun o => RT _ (fin Try.prog _ _ (sq (blk 0 o) _))) (O25 g n g.n) (fun st => st.x = .ex 0 ∧ ∃ acc, I25 g n g.n (2 * n - 1) acc [] 0 st.e st.h) ?_ (2 * n - 1) ?_ ?_
  · intro j e g' hi
    obtain ⟨hj, acc, x, hb1, get, cut, e4, e5, e6⟩ := hi
    obtain ⟨s, hs'⟩ : ∃ s, s = 2 * n - 1 - j := ⟨_, rfl⟩
    rw [← hs'] at cut e6
    have z3 : IntKind.i64.wrap ((s : Int) - n) = (s : Int) - n := wi64 (by omega) (by omega)
    have z4 : IntKind.i64.wrap ((s : Int) - n + 1) = (s : Int) - n + 1 := wi64 (by omega) (by omega)
    have z5 : IntKind.i64.wrap ((s : Int) + 1) = ((s + 1 : Nat) : Int) := by rw [wi64 (by omega) (by omega)]; omega
    have z6 : imax 0 ((s : Int) - n + 1) = ((s + 1 - n : Nat) : Int) := by unfold imax; split <;> omega
    cases j with
    | zero =>
      have hs2 : s = 2 * n - 1 := by omega
      have z7 : s + 1 - n = n := by omega
      rw [z7] at z6
      have z8 : IntKind.i64.wrap ((s : Int) - n) = (s : Int) - n := z3
      have z9 : IntKind.i64.wrap (2 * (n : Int)) = 2 * (n : Int) := wi64 (by omega) (by omega)
      have z10 : IntKind.i64.wrap (2 * (n : Int) - 1) = 2 * (n : Int) - 1 := wi64 (by omega) (by omega)
      simp [l25_1, e6, e4, z3, z4, maxV_i, -maxV2, z6]
      rw [loopZ_eq]
      simp [l25_0, e6, e4, z3, z9, z10, show (s : Int) = 2 * (n : Int) - 1 by omega]
      refine ⟨rfl, acc, x, hb1, get, ?_, by simp [e4], by simp [e5], ?_⟩
      · rw [cut]; simp [rowsF]
      · simp [e6]; omega
    | succ j =>
      simp [l25_1, e6, e4, z3, z4, maxV_i, -maxV2, z6]
      have cut' : ordN n = acc ++ (rowF n s (s + 1 - n) (min n (s + 1) - (s + 1 - n)) ++ rowsF n (s + 1) (2 * n - 1 - (s + 1))) := by
        rw [cut, rowsF_succ, show 2 * n - 1 - (s + 1) = j by omega]; rfl
      have D := diag25 (g0 := g) (n := n) (b := g.n) (s := s) hN (by omega) hb.2 (by omega) (m := min n (s + 1) - (s + 1 - n)) (e := ⟨[e.s K25 0, e.s K25 2, e.s K25 3, .int .i64 (n : Nat), e.s K25 5, .int .i64 (s : Nat), .int .i64 ((s + 1 - n : Nat) : Int), e.s K25 8], 7, .int .i64 ((s + 1 - n : Nat) : Int)⟩) (g := g')
        ⟨by omega, by omega, ⟨acc, x, hb1, get, by rw [show min n (s + 1) - (min n (s + 1) - (s + 1 - n)) = s + 1 - n by omega]; exact cut', by simp, by simp [e5], by simp⟩, by simp; omega⟩
      obtain ⟨e', g'', l1, acc', x', hb', get', cut'', e4', e5', e6'⟩ := D
      rw [l1]
      simp only [K25] at e4' e5' e6'
      simp [e6', z5, -Int.natCast_add]
      refine ⟨j, by omega, by omega, acc', x', hb', get', ?_, by simp [e4'], by simp [e5'], ?_⟩
      · rw [cut'', show 2 * n - 1 - (s + 1) = j by omega, show 2 * n - 1 - j = s + 1 by omega]
      · simp [show 2 * n - 1 - j = s + 1 by omega]
  · refine ⟨Nat.le_refl _, [], ⟨x1, Nat.le_refl _, r1, ?_, by simp, by simp, by simp⟩⟩
    rw [Nat.sub_self]; rfl
  · rintro ⟨sx, se, sh⟩ ⟨h1, acc, x, hb1, get, cut, e4, e5, e6⟩
    simp only at h1
    subst h1
    rw [List.append_nil] at cut
    have hl : acc.length = n * n := by rw [← cut, hN]
    simp only [K25] at e5
    simp [e5, hl]
    refine ⟨g.n, rfl, hb1, ?_, x⟩
    rw [get, cut]; simp [ordC, hl]
end Go.Proofs.Ytbajipmhnoakeaa
