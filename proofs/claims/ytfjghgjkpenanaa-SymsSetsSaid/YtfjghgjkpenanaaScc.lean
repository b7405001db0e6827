/- The average of several sets: what it is; the program's check. -/
import Derived.Test.YtfjghgjkpenanaaScb
set_option linter.unusedVariables false
set_option linter.unusedSimpArgs false
set_option maxRecDepth 20000
namespace Go.Proofs.Ytfjghgjkpenanaa
open Go Go.Zf
open Go.Zf (wi64)

abbrev Sets3 := List (List (List Tb))
def avS (l : Sets3) (k c : Nat) : Tb := avgT (l.map fun S => tabOf S k c) (vl k)
def avgS (l : Sets3) : List (List Tb) := (List.range 32).map fun k => (List.range (cx k)).map (avS l k)
def curS (l : Sets3) (S0 : List (List Tb)) (k c : Nat) : List (List Tb) :=
  (List.range 32).map fun k' => (List.range (cx k')).map fun c' => if k' < k ∨ (k' = k ∧ c' < c) then avS l k' c' else tabOf S0 k' c'
theorem curS_len (l : Sets3) (S0 : List (List Tb)) (k c : Nat) : (curS l S0 k c).length = 32 := by simp [curS]
theorem curS_get (l : Sets3) (S0 : List (List Tb)) (k c : Nat) {k' : Nat} (h : k' < 32) : (curS l S0 k c)[k']? = some ((List.range (cx k')).map fun c' => if k' < k ∨ (k' = k ∧ c' < c) then avS l k' c' else tabOf S0 k' c') := by
  simp [curS, h]
theorem curS_zero {l : Sets3} {S0 : List (List Tb)} (ok : SetOk S0) : curS l S0 0 0 = S0 := by
  apply List.ext_getElem?
  intro k
  by_cases hk : k < 32
  · rw [curS_get _ _ _ _ hk]
    obtain ⟨r, hr⟩ := get_of_lt (l := S0) (i := k) (by rw [ok.1]; exact hk)
    rw [hr]
    congr 1
    have h1 := (ok.2 k r hr).1
    apply List.ext_getElem?
    intro c
    by_cases hc : c < cx k
    · obtain ⟨t, ht⟩ := get_of_lt (l := r) (i := c) (by omega)
      have e : tabOf S0 k c = t := by simp [tabOf, hr, ht]
      simp [hc, e, ht]
    · rw [List.getElem?_eq_none (by simp; omega), List.getElem?_eq_none (by omega)]
  · rw [List.getElem?_eq_none (by rw [curS_len]; omega), List.getElem?_eq_none (by rw [ok.1]; omega)]
theorem curS_next (l : Sets3) (S0 : List (List Tb)) (k : Nat) : curS l S0 k (cx k) = curS l S0 (k + 1) 0 := by
  unfold curS
  apply List.map_congr_left
  intro k' hk'
  apply List.map_congr_left
  intro c' hc'
  simp only [List.mem_range] at hc'
  by_cases h : k' < k ∨ (k' = k ∧ c' < cx k)
  · rw [if_pos h, if_pos (by omega)]
  · rw [if_neg h, if_neg]
    rintro (h2 | h2)
    · have : k' = k := by
        have : ¬ k' < k := fun h3 => h (.inl h3)
        omega
      subst this; exact h (.inr ⟨rfl, hc'⟩)
    · omega
theorem curS_all (l : Sets3) (S0 : List (List Tb)) : curS l S0 32 0 = avgS l := by
  unfold curS avgS
  apply List.map_congr_left
  intro k' hk'
  simp only [List.mem_range] at hk'
  apply List.map_congr_left
  intro c' hc'
  rw [if_pos (.inl hk')]
theorem curS_set {l : Sets3} {S0 : List (List Tb)} {k c : Nat} (hk : k < 32) (hc : c < cx k) {r : List Tb} (hr : (curS l S0 k c)[k]? = some r) : (curS l S0 k c).set k (r.set c (avS l k c)) = curS l S0 k (c + 1) := by
  apply List.ext_getElem?
  intro k'
  by_cases hk' : k' < 32
  · rw [List.getElem?_set, curS_get _ _ _ _ hk', curS_get _ _ _ _ hk']
    by_cases e : k = k'
    · subst e
      rw [if_pos rfl, if_pos (by rw [curS_len]; exact hk)]
      congr 1
      rw [curS_get _ _ _ _ hk] at hr
      cases hr
      apply List.ext_getElem?
      intro c'
      rw [List.getElem?_set]
      by_cases hc' : c' < cx k
      · by_cases e2 : c = c'
        · subst e2
          rw [if_pos rfl, if_pos (by simp; exact hc)]
          simp [hc]
        · rw [if_neg e2]
          simp only [List.getElem?_map, List.getElem?_range hc', Option.map_some]
          congr 1
          by_cases h : c' < c
          · rw [if_pos (.inr ⟨trivial, h⟩), if_pos (.inr ⟨trivial, by omega⟩)]
          · rw [if_neg (by rintro (h2 | h2); omega; exact h h2.2), if_neg (by rintro (h2 | h2); omega; have := h2.2; omega)]
      · rw [if_neg (by omega), List.getElem?_eq_none (by simp; omega), List.getElem?_eq_none (by simp; omega)]
    · rw [if_neg e]
      congr 1
      apply List.map_congr_left
      intro c' hc'
      by_cases h : k' < k ∨ (k' = k ∧ c' < c)
      · rw [if_pos h, if_pos (by omega)]
      · rw [if_neg h, if_neg (by omega)]
  · rw [List.getElem?_eq_none (by rw [List.length_set, curS_len]; omega), List.getElem?_eq_none (by rw [curS_len]; omega)]

/-- Sets, as several are handed over. -/
def SetsAt (D : Nat → Prop) (h : H) (v : V) (l : Sets3) : Prop :=
  ∃ b cs, v = .sl b 0 l.length (.ex l.length) ∧ h.get b = some (.cells cs 25 false) ∧ cs.length = l.length ∧ ∀ (i : Nat) (S : List (List Tb)), l[i]? = some S → ∃ w, cs[i]? = some w ∧ SetR D h w S
theorem SetsAt.keep {D : Nat → Prop} {h h' : H} {v : V} {l : Sets3} (a : SetsAt D h v l) (x : Ext h h') : SetsAt D h' v l := by
  obtain ⟨b, cs, h1, h2, h3, h4⟩ := a
  exact ⟨b, cs, h1, by rw [x.get b (H.get_lt h2), h2], h3, fun i S hS => by obtain ⟨w, k1, k2⟩ := h4 i S hS; exact ⟨w, k1, k2.ext x⟩⟩
theorem SetsAt.at {D : Nat → Prop} {h : H} {v : V} {l : Sets3} (a : SetsAt D h v l) {i : Nat} {S : List (List Tb)} (hS : l[i]? = some S) : ∃ b o w, iaS 1 v (.int .i64 i) = some (.ptr b o) ∧ h.rd1 b o = some w ∧ h.rdN b o 1 = some [w] ∧ SetR D h w S ∧ b < h.n := by
  obtain ⟨b, cs, rfl, h2, h3, h4⟩ := a
  obtain ⟨w, k1, k2⟩ := h4 i S hS
  have hi := lt_of_get hS
  have hc := lt_of_get k1
  refine ⟨b, i, w, by simp [hi], by rw [rd1_of h2, k1], ?_, k2, H.get_lt h2⟩
  rw [rdN_of h2 (by omega)]
  congr 1
  apply List.ext_getElem?
  intro j
  cases j with
  | zero => simpa using k1
  | succ j => simp; omega
theorem SetsAt.len {D : Nat → Prop} {h : H} {v : V} {l : Sets3} (a : SetsAt D h v l) : lnS v = some (.int .i64 l.length) := by
  obtain ⟨b, cs, rfl, _⟩ := a; simp

theorem check65_ok {D : Nat → Prop} {h : H} {v : V} {S : List (List Tb)} (u : SetR D h v S) (sm : Small S) : RT (fun w h' => w = .bool (decide (¬ SetOk S)) ∧ Ext h h') (KW 65 [.agg [v]] h) := by
  obtain ⟨h1, b1, x1, g1, n1, u1⟩ := box25 u
  obtain ⟨w, h2, e34, rfl, x2⟩ := (check34_ok u1 sm).elim
  rw [w65, f65, s65]
  by_cases c : SetOk S
  · rw [if_pos c] at e34
    simp [b1, rdN_of (o := 0) (n := 1) g1 (by simp), e34, c]
    exact ⟨rfl, x1.trans x2⟩
  · rw [if_neg c] at e34
    simp [b1, rdN_of (o := 0) (n := 1) g1 (by simp), e34, c]
    exact ⟨rfl, x1.trans x2⟩
def AllOk (l : Sets3) : Prop := ∀ (i : Nat) (S : List (List Tb)), l[i]? = some S → SetOk S
def AllSmall (l : Sets3) : Prop := l.length < 1000 ∧ ∀ (i : Nat) (S : List (List Tb)), l[i]? = some S → Small S
structure I88 (h0 : H) (v : V) (l : Sets3) (j : Nat) (e : E) (g : H) : Prop where
  hj : j ≤ l.length
  x : Ext h0 g
  ok : ∀ (i : Nat) (S : List (List Tb)), i < l.length - j → l[i]? = some S → SetOk S
  e0 : e.s [0, 1, 4, 5, 7, 8] 0 = v
  e1 : e.s [0, 1, 4, 5, 7, 8] 1 = .fn (.func 65) [] []
  e7 : e.s [0, 1, 4, 5, 7, 8] 7 = .int .i64 l.length
  e8 : e.s [0, 1, 4, 5, 7, 8] 8 = .int .i64 ((l.length - j : Nat) : Int)
structure P88 (h0 : H) (l : Sets3) (s : Go.Zf.St) : Prop where
  x : Ext h0 s.h
  r : (s.x = .ex 0 ∧ AllOk l) ∨ (s.x = .rt ∧ ¬ AllOk l ∧ ∃ i : Nat, s.e.s [0, 1, 4, 5, 7, 8] 4 = .int .i64 i)
theorem index88_ok {D : Nat → Prop} {h : H} {v : V} {l : Sets3} (A : SetsAt D h v l) (sm : AllSmall l) : RT (fun w h' => ∃ n : Int, w = .int .i64 n ∧ (AllOk l → n = -1) ∧ (¬ AllOk l → 0 ≤ n) ∧ Ext h h') (KW 88 [v, .fn (.func 65) [] []] h) := by
  have Al := A.len
  have hl := sm.1
  have loop := loop_run (body := l88_0 KW loopZ) (I88 h v l) (P88 h l)
    (fun j e g hi => by
      obtain ⟨hj, x, ok, e0, e1, e7, e8⟩ := hi
      cases j with
      | zero =>
        rw [Nat.sub_zero] at e8
        simp [l88_0, e8, e7]
        exact ⟨x, .inl ⟨rfl, fun i S hS => ok i S (by have := lt_of_get hS; omega) hS⟩⟩
      | succ j =>
        obtain ⟨m, hm⟩ : ∃ m, m = l.length - (j + 1) := ⟨_, rfl⟩
        have hm2 : l.length - j = m + 1 := by omega
        rw [← hm] at e8 ok
        have hml : m < l.length := by omega
        obtain ⟨S, hS⟩ := get_of_lt hml
        obtain ⟨b, o, w, q1, q2, q3, U, _⟩ := (A.keep x).at hS
        obtain ⟨y, g2, c65, rfl, x2⟩ := (check65_ok U (sm.2 m S hS)).elim
        have z3 : IntKind.i64.wrap ((m : Int) + 1) = m + 1 := wi64 (by omega) (by omega)
        by_cases c : SetOk S
        · rw [decide_eq_false (by simpa using c)] at c65
          simp [l88_0, e8, e7, hml, show (m : Int) < l.length by omega, e0, q1, q3, e1, cdy, c65, z3]
          refine ⟨j, Nat.lt_succ_self j, by omega, x.trans x2, fun i S' hi hS' => ?_, by simp [e0], by simp [e1], by simp [e7], by rw [hm2]; simp⟩
          by_cases e : i = m
          · subst e; rw [hS] at hS'; cases hS'; exact c
          · exact ok i S' (by omega) hS'
        · rw [decide_eq_true (by simpa using c)] at c65
          simp [l88_0, e8, e7, hml, show (m : Int) < l.length by omega, e0, q1, q3, e1, cdy, c65]
          exact ⟨x.trans x2, .inr ⟨rfl, fun h => c (h m S hS), m, by simp⟩⟩)
  obtain ⟨⟨y, e', g'⟩, r1, x, r⟩ := loop l.length ⟨[v, .fn (.func 65) [] [], .int .i64 0, .tup [], .int .i64 l.length, .int .i64 0], 8, .int .i64 0⟩ h ⟨Nat.le_refl _, Ext.refl _, fun i S hi => by omega, by simp, by simp, by simp, by simp⟩
  simp only at x r
  rw [w88, f88, s88]
  rcases r with ⟨rfl, c⟩ | ⟨rfl, c, i, hi⟩
  · simp [Al, r1]
    exact ⟨-1, rfl, fun _ => rfl, fun h => (h c).elim, x⟩
  · simp [Al, r1, hi]
    exact ⟨i, rfl, fun h => (c h).elim, fun _ => by omega, x⟩
theorem contains64_ok {D : Nat → Prop} {h : H} {v : V} {l : Sets3} (A : SetsAt D h v l) (sm : AllSmall l) : RT (fun w h' => (AllOk l → w = .bool false) ∧ (¬ AllOk l → w = .bool true) ∧ Ext h h') (KW 64 [v, .fn (.func 65) [] []] h) := by
  obtain ⟨w, h1, e88, n, rfl, c1, c2, x⟩ := (index88_ok A sm).elim
  rw [w64, f64, s64]
  by_cases c : AllOk l
  · obtain rfl := c1 c
    simp [e88]
    exact ⟨fun _ => rfl, fun h => (h c).elim, x⟩
  · have := c2 c
    simp [e88, this]
    exact ⟨fun h => (c h).elim, fun _ => rfl, x⟩
theorem average39_bad {D : Nat → Prop} {h : H} {v : V} {l : Sets3} (A : SetsAt D h v l) (sm : AllSmall l) (hl : 0 < l.length) (no : ¬ AllOk l) : RT (fun w h' => w = .tup [.agg [.nils], .int .i64 2] ∧ Ext h h') (KW 39 [v] h) := by
  obtain ⟨h1, hh1⟩ : ∃ z, z = h.new (.cells [.nils] 25 false) := ⟨_, rfl⟩
  have x1 : Ext h h1 := by rw [hh1]; exact (Ext.refl h).new _
  have r1 : h1.get h.n = some (.cells [.nils] 25 false) := by rw [hh1, get_new_same]
  obtain ⟨w, h2, e64, _, c2, x2⟩ := (contains64_ok (A.keep x1) sm).elim
  obtain rfl := c2 no
  have r2 : h2.get h.n = some (.cells [.nils] 25 false) := by rw [x2.get _ (H.get_lt r1), r1]
  obtain ⟨h3, hh3⟩ : ∃ z, z = h2.put h.n (.cells [.nils] 25 false) := ⟨_, rfl⟩
  have r3 : h3.get h.n = some (.cells [.nils] 25 false) := by rw [hh3, get_put_same (H.get_lt r2)]
  have hw : h2.wrN h.n 0 [.nils] = some h3 := by rw [wrN_of r2 (by simp), hh3]; rfl
  have Al := A.len
  rw [w39, f39, s39]
  simp [nw, ← hh1, Al, show ¬ (l.length : Int) = 0 by omega, show ¬ l.length = 0 by omega, show l ≠ [] by (rintro rfl; simp at hl), gl_t, gk_t, e64, bl, fillW, V.cells, hw, rdN_of (o := 0) (n := 1) r3 (by simp)]
  rw [hh3]; exact ⟨rfl, (x1.trans x2).put (Nat.le_refl _) _⟩
end Go.Proofs.Ytfjghgjkpenanaa
