/- The average of several sets: the document. -/
import Derived.Test.YtfjghgjkpenanaaSce
set_option linter.unusedVariables false
set_option linter.unusedSimpArgs false
set_option maxRecDepth 20000
namespace Go.Proofs.Ytfjghgjkpenanaa
open Go Go.Zf
open Go.Zf (wi64)

structure I400 (h0 : H) (v : V) (l : Sets3) (B j : Nat) (e : E) (g : H) : Prop where
  hj : j ≤ l.length
  x : Ext h0 g
  ok : ∀ (i : Nat) (S : List (List Tb)), i < l.length - j → l[i]? = some S → SetOk S
  e0 : e.s [0, 2, 3, 4, 5, 6, 7, 8, 9, 10, 11] 0 = v
  e2 : e.s [0, 2, 3, 4, 5, 6, 7, 8, 9, 10, 11] 2 = .ptr B 0
  e4 : e.s [0, 2, 3, 4, 5, 6, 7, 8, 9, 10, 11] 4 = .int .i64 ((l.length - j : Nat) : Int)
structure P400 (h h0 : H) (v : V) (l : Sets3) (B : Nat) (s : Go.Zf.St) : Prop where
  x : Ext h s.h
  e2 : s.e.s [0, 2, 3, 4, 5, 6, 7, 8, 9, 10, 11] 2 = .ptr B 0
  r : (s.x = .ex 0 ∧ AllOk l ∧ Ext h0 s.h ∧ s.e.s [0, 2, 3, 4, 5, 6, 7, 8, 9, 10, 11] 0 = v) ∨ (s.x = .rt ∧ ¬ AllOk l ∧ s.h.get B = some (.cells [.nils] 25 false) ∧ s.e.s [0, 2, 3, 4, 5, 6, 7, 8, 9, 10, 11] 3 = .int .i64 2)
theorem loop40_0 {D : Nat → Prop} {h h0 : H} {v : V} {l : Sets3} {B : Nat} (A : SetsAt D h0 v l) (sm : AllSmall l) (x0 : Ext h h0) (hB : h.n ≤ B) (r0 : h0.get B = some (.cells [.nils] 25 false)) {e : E} (hi : I400 h0 v l B l.length e h0) :
    ∃ s, loopZ (l40_0 KW loopZ) e h0 = some s ∧ P400 h h0 v l B s := by
  have Al := A.len
  have hl := sm.1
  exact loop_run (body := l40_0 KW loopZ) (I400 h0 v l B) (P400 h h0 v l B)
    (fun j e g hi => by
      obtain ⟨hj, x, ok, e0, e2, e4⟩ := hi
      cases j with
      | zero =>
        rw [Nat.sub_zero] at e4
        simp [l40_0, e4, e0, Al]
        exact ⟨x0.trans x, by simp [e2], .inl ⟨rfl, fun i S hS => ok i S (by have := lt_of_get hS; omega) hS, x, by simp [e0]⟩⟩
      | succ j =>
        obtain ⟨m, hm⟩ : ∃ m, m = l.length - (j + 1) := ⟨_, rfl⟩
        have hm2 : l.length - j = m + 1 := by omega
        rw [← hm] at e4 ok
        have hml : m < l.length := by omega
        obtain ⟨S, hS⟩ := get_of_lt hml
        obtain ⟨b, o, w, q1, q2, q3, U, _⟩ := (A.keep x).at hS
        obtain ⟨y, g2, c37, rfl, x2⟩ := (check37_ok U (sm.2 m S hS)).elim
        have z3 : IntKind.i64.wrap ((m : Int) + 1) = m + 1 := wi64 (by omega) (by omega)
        by_cases c : SetOk S
        · rw [if_pos c] at c37
          simp [l40_0, e4, e0, Al, hml, show (m : Int) < l.length by omega, q1, q3, c37, z3]
          refine ⟨j, Nat.lt_succ_self j, by omega, x.trans x2, fun i S' hi hS' => ?_, by simp [e0], by simp [e2], by rw [hm2]; simp⟩
          by_cases e : i = m
          · subst e; rw [hS] at hS'; cases hS'; exact c
          · exact ok i S' (by omega) hS'
        · rw [if_neg c] at c37
          have rB : g2.get B = some (.cells [.nils] 25 false) := by rw [(x.trans x2).get _ (H.get_lt r0), r0]
          obtain ⟨g3, hg3⟩ : ∃ z, z = g2.put B (.cells [.nils] 25 false) := ⟨_, rfl⟩
          have hw : g2.wrN B 0 [.nils] = some g3 := by rw [wrN_of rB (by simp), hg3]; rfl
          simp [l40_0, e4, e0, Al, hml, show (m : Int) < l.length by omega, q1, q3, c37, bl, fillW, e2, V.cells, hw]
          exact ⟨by rw [hg3]; exact (x0.trans (x.trans x2)).put hB _, by simp [e2], .inr ⟨rfl, fun h => c (h m S hS), by rw [hg3, get_put_same (H.get_lt rB)], by simp⟩⟩)
    l.length e h0 hi

theorem average40_bad {D : Nat → Prop} {h : H} {v : V} {l : Sets3} (A : SetsAt D h v l) (sm : AllSmall l) (hl : 0 < l.length) (no : ¬ AllOk l) : RT (fun w h' => w = .tup [.agg [.nils], .int .i64 2] ∧ Ext h h') (KW 40 [v] h) := by
  obtain ⟨h1, hh1⟩ : ∃ z, z = h.new (.cells [.nils] 25 false) := ⟨_, rfl⟩
  have x1 : Ext h h1 := by rw [hh1]; exact (Ext.refl h).new _
  have r1 : h1.get h.n = some (.cells [.nils] 25 false) := by rw [hh1, get_new_same]
  obtain ⟨⟨y, e', g'⟩, a1, x, e2, r⟩ := loop40_0 (A.keep x1) sm x1 (Nat.le_refl _) r1 (e := ⟨[v, .ptr h.n 0, .int .i64 0, .int .i64 0, .tup [], .tup [], .tup [], .tup [], .tup [], .tup [], .tup []], 4, .int .i64 0⟩) ⟨Nat.le_refl _, Ext.refl _, fun i S hi => by omega, by simp, by simp, by simp⟩
  simp only at x e2 r
  rcases r with ⟨_, c, _⟩ | ⟨rfl, _, rB, e3⟩
  · exact (no c).elim
  · have Al := A.len
    rw [w40, f40, s40]
    simp [nw, ← hh1, Al, show ¬ (l.length : Int) = 0 by omega, show ¬ l.length = 0 by omega, show l ≠ [] by (rintro rfl; simp at hl), a1, e2, rdN_of (o := 0) (n := 1) rB (by simp), e3]
    exact ⟨rfl, x⟩

structure I401 (g0 : H) (v : V) (tabs : List Tb) (D : Nat → Prop) (B2 B5 k c : Nat) (v7 : V) (j : Nat) (e : E) (g : H) : Prop where
  hj : j ≤ tabs.length
  x : Ext g0 g
  w : ∃ v9 cs, e.s [0, 2, 3, 4, 5, 6, 7, 8, 9, 10, 11] 9 = v9 ∧ GrowV g0.n g v9 tT 2 cs (tabs.take (tabs.length - j)).length ∧ Els D g cs (tabs.take (tabs.length - j))
  e0 : e.s [0, 2, 3, 4, 5, 6, 7, 8, 9, 10, 11] 0 = v
  e2 : e.s [0, 2, 3, 4, 5, 6, 7, 8, 9, 10, 11] 2 = .ptr B2 0
  e5 : e.s [0, 2, 3, 4, 5, 6, 7, 8, 9, 10, 11] 5 = .ptr B5 0
  e6 : e.s [0, 2, 3, 4, 5, 6, 7, 8, 9, 10, 11] 6 = .int .i64 k
  e7 : e.s [0, 2, 3, 4, 5, 6, 7, 8, 9, 10, 11] 7 = v7
  e8 : e.s [0, 2, 3, 4, 5, 6, 7, 8, 9, 10, 11] 8 = .int .i64 c
  e10 : e.s [0, 2, 3, 4, 5, 6, 7, 8, 9, 10, 11] 10 = .int .i64 ((tabs.length - j : Nat) : Int)

theorem loop40_1 {D : Nat → Prop} {g0 : H} {v v7 : V} {l : Sets3} {k c B2 B5 : Nat} (A : SetsAt D g0 v l) (ok : AllOk l) (hl : l.length < 1000) (hk : k < 32) (hc : c < cx k) {e : E} (hi : I401 g0 v (l.map fun S => tabOf S k c) D B2 B5 k c v7 (l.map fun S => tabOf S k c).length e g0) :
    ∃ e' g', loopZ (l40_1 KW loopZ) e g0 = some ⟨.ex 6, e', g'⟩ ∧ I401 g0 v (l.map fun S => tabOf S k c) D B2 B5 k c v7 0 e' g' := by
  obtain ⟨tabs, htabs⟩ : ∃ t, t = l.map fun S => tabOf S k c := ⟨_, rfl⟩
  rw [← htabs] at hi ⊢
  have htl : tabs.length = l.length := by rw [htabs, List.length_map]
  have Al := A.len
  rw [← htl] at Al
  have loop := loop_run (body := l40_1 KW loopZ) (I401 g0 v tabs D B2 B5 k c v7) (fun s => s.x = .ex 6 ∧ I401 g0 v tabs D B2 B5 k c v7 0 s.e s.h)
    (fun j e g hi => by
      obtain ⟨hj, x, ⟨v9, cs, e9, w1, w2⟩, e0, e2, e5, e6, e7, e8, e10⟩ := hi
      cases j with
      | zero =>
        rw [Nat.sub_zero] at e10
        simp [l40_1, e10, e0, Al]
        exact ⟨rfl, hj, x, ⟨v9, cs, by simp [e9], w1, w2⟩, by simp [e0], by simp [e2], by simp [e5], by simp [e6], by simp [e7], by simp [e8], by simp [e10]⟩
      | succ j =>
        obtain ⟨i, hi⟩ : ∃ i, i = tabs.length - (j + 1) := ⟨_, rfl⟩
        have hi2 : tabs.length - j = i + 1 := by omega
        rw [← hi] at e10 w1 w2
        have hil : i < l.length := by omega
        obtain ⟨S, hS⟩ := get_of_lt hil
        obtain ⟨b, o, w, q1, q2, q3, U, hbn⟩ := (A.keep x).at hS
        obtain ⟨r, hr, ht, tok, tl⟩ := (ok i S hS).get hk hc
        obtain ⟨bO, oO, vr', s1, s2, R, _, _⟩ := U.row hr
        obtain ⟨bb, ob, vc, t1, t2, t3, t4, t5, t6, _⟩ := R.tab ht
        have htab : tabs[i]? = some (tabOf S k c) := by rw [htabs, List.getElem?_map, hS]; rfl
        have hlt : (tabs.take i).length = i := by rw [List.length_take]; omega
        obtain ⟨v', g', k1, k2, k3, k4, k5⟩ := pushT w1 w2 t5 x.n (by omega)
        have z3 : IntKind.i64.wrap ((i : Int) + 1) = ((i + 1 : Nat) : Int) := by rw [wi64 (by omega) (by omega)]; omega
        obtain ⟨m2, hm3⟩ : ∃ m2, m2 = i + 1 := ⟨_, rfl⟩
        rw [← hm3] at z3
        have hbs : bs g 72 1 [.nils, .int .i64 0] [(some (0, 2), .agg [vc, .int .i64 (tabOf S k c).n])] = some (.sl g.n 0 1 (.ex 1), g.new (.cells [vc, .int .i64 (tabOf S k c).n] 72 false)) := by
          simp [bs, fillW, splice, V.cells, t5.1.cells]
        simp [l40_1, e10, e0, Al, show (i : Int) < tabs.length by omega, show i < tabs.length by omega, q1, q2, e6, s1, s2, e8, t1, t4, hbs, e9, k1, z3]
        have xn := x.n
        exact ⟨j, Nat.lt_succ_self j, by omega, ⟨by omega, fun d hd => by rw [k5 d (by omega) (w1.fresh.ne hd), x.get d hd]⟩, ⟨v', _, by simp, by rw [hi2, take_snoc htab]; exact k2, by rw [hi2, take_snoc htab]; exact k3⟩, by simp [e0], by simp [e2], by simp [e5], by simp [e6], by simp [e7], by simp [e8], by rw [hi2, ← hm3]; simp⟩)
  obtain ⟨⟨x, e', g'⟩, r1, r2, r3⟩ := loop tabs.length e g0 hi
  simp only at r2 r3
  subst r2
  exact ⟨e', g', r1, r3⟩

def avgR (l : Sets3) (k c : Nat) : List Tb := (List.range c).map (avS l k)
theorem avgR_len (l : Sets3) (k c : Nat) : (avgR l k c).length = c := by simp [avgR]
theorem avgR_succ (l : Sets3) (k c : Nat) : avgR l k (c + 1) = avgR l k c ++ [avS l k c] := by simp [avgR, List.range_succ]
structure I402 (g0 : H) (v : V) (l : Sets3) (B2 B5 k j : Nat) (e : E) (g : H) : Prop where
  hj : j ≤ cx k
  x : Ext g0 g
  w : ∃ v7, e.s [0, 2, 3, 4, 5, 6, 7, 8, 9, 10, 11] 7 = v7 ∧ RowG g0.n g v7 (avgR l k (cx k - j))
  e0 : e.s [0, 2, 3, 4, 5, 6, 7, 8, 9, 10, 11] 0 = v
  e2 : e.s [0, 2, 3, 4, 5, 6, 7, 8, 9, 10, 11] 2 = .ptr B2 0
  e5 : e.s [0, 2, 3, 4, 5, 6, 7, 8, 9, 10, 11] 5 = .ptr B5 0
  e6 : e.s [0, 2, 3, 4, 5, 6, 7, 8, 9, 10, 11] 6 = .int .i64 k
  e8 : e.s [0, 2, 3, 4, 5, 6, 7, 8, 9, 10, 11] 8 = .int .i64 ((cx k - j : Nat) : Int)

theorem loop40_2 {D : Nat → Prop} {g0 : H} {v : V} {l : Sets3} {k B2 B5 : Nat} (A : SetsAt D g0 v l) (ok : AllOk l) (hl0 : 0 < l.length) (hl : l.length < 1000) (hk : k < 32) {e : E} (hi : I402 g0 v l B2 B5 k (cx k) e g0) :
    ∃ e' g', loopZ (l40_2 KW loopZ) e g0 = some ⟨.ex 4, e', g'⟩ ∧ I402 g0 v l B2 B5 k 0 e' g' := by
  have hcx := cx_le hk
  obtain ⟨S0, hS0⟩ := get_of_lt (l := l) (i := 0) hl0
  have loop := loop_run (body := l40_2 KW loopZ) (I402 g0 v l B2 B5 k) (fun s => s.x = .ex 4 ∧ I402 g0 v l B2 B5 k 0 s.e s.h)
    (fun j e g hi => by
      obtain ⟨hj, x, ⟨v7, e7, G⟩, e0, e2, e5, e6, e8⟩ := hi
      obtain ⟨b, o, w, q1, q2, q3, U, hbn⟩ := (A.keep x).at hS0
      have q1' : iaS 1 v (.int .i64 0) = some (.ptr b o) := by simpa using q1
      obtain ⟨r, hr, _, _, _⟩ := (ok 0 S0 hS0).get hk (show 0 < cx k by omega)
      have hrl : r.length = cx k := ((ok 0 S0 hS0).2 k r hr).1
      obtain ⟨bO, oO, vr', s1, s2, R, _, _⟩ := U.row hr
      have rl := R.len
      rw [hrl] at rl
      cases j with
      | zero =>
        rw [Nat.sub_zero] at e8
        simp [l40_2, e0, q1', q2, e6, s1, s2, rl, e8]
        exact ⟨rfl, hj, x, ⟨v7, by simp [e7], G⟩, by simp [e0], by simp [e2], by simp [e5], by simp [e6], by simp [e8]⟩
      | succ j =>
        obtain ⟨c, hcd⟩ : ∃ c, c = cx k - (j + 1) := ⟨_, rfl⟩
        have hc2 : cx k - j = c + 1 := by omega
        rw [← hcd] at e8 G
        have hc : c < cx k := by omega
        have Xn := x.n
        have Ag := A.keep x
        obtain ⟨e1, g1, a1, I⟩ := loop40_1 (g0 := g) (k := k) (c := c) (B2 := B2) (B5 := B5) (v7 := v7) Ag ok hl hk hc (e := ⟨[v, .ptr B2 0, e.s [0, 2, 3, 4, 5, 6, 7, 8, 9, 10, 11] 3, e.s [0, 2, 3, 4, 5, 6, 7, 8, 9, 10, 11] 4, .ptr B5 0, .int .i64 k, v7, .int .i64 c, .nils, .int .i64 0, e.s [0, 2, 3, 4, 5, 6, 7, 8, 9, 10, 11] 11], 10, .int .i64 0⟩)
          ⟨Nat.le_refl _, Ext.refl _, ⟨.nils, [], by simp, by rw [Nat.sub_self]; exact GrowV.nil _ _ _ _, by rw [Nat.sub_self]; exact Els.none _ _ _⟩, by simp, by simp, by simp, by simp, by simp, by simp, by simp⟩
        obtain ⟨_, x1, ⟨v9, cs1, f9, w2, w3⟩, f0, f2, f5, f6, f7, f8, f10⟩ := I
        rw [Nat.sub_zero, List.take_length] at w2 w3
        obtain ⟨tabs, htabs⟩ : ∃ t, t = l.map fun S => tabOf S k c := ⟨_, rfl⟩
        rw [← htabs] at w2 w3
        have htl : tabs.length = l.length := by rw [htabs, List.length_map]
        have A2 : Alike2 tabs (vl k) := ⟨by omega, by omega, fun i t ht => by
          rw [htabs, List.getElem?_map] at ht
          cases hS : l[i]? with
          | none => rw [hS] at ht; cases ht
          | some S =>
            rw [hS] at ht
            simp only [Option.map_some, Option.some.injEq] at ht
            subst ht
            obtain ⟨_, _, _, tok, tl⟩ := (ok i S hS).get hk hc
            exact ⟨tok, tl⟩⟩
        have S1 : SlR (fun b => D b ∨ g.n ≤ b) g1 v9 tT 2 tabs.length cs1 := GrowV.slr w2 fun b hb => .inr hb
        have E1 : Els (fun b => D b ∨ g.n ≤ b) g1 cs1 tabs := w3.mono fun b _ hb => .inl hb
        obtain ⟨w', g2, a2, vt, rfl, ⟨vc', rfl, U2⟩, x2⟩ := (average67_ok A2 S1 E1).elim
        have htav : avgT tabs (vl k) = avS l k c := by rw [avS, htabs]
        rw [htav] at a2 U2
        have x1n := x1.n
        have x2n := x2.n
        obtain ⟨g3, hg3⟩ : ∃ z, z = (g2.new (.cells [.nils, .int .i64 0] 72 false)).put g2.n (.cells [vc', .int .i64 (avS l k c).n] 72 false) := ⟨_, rfl⟩
        have x3 : Ext g2 g3 := by rw [hg3]; exact ((Ext.refl g2).new _).put (Nat.le_refl _) _
        have n3 : g3.n = g2.n + 1 := by rw [hg3, H.n_put, H.n_new]
        have r3 : g3.get g2.n = some (.cells [vc', .int .i64 (avS l k c).n] 72 false) := by rw [hg3, get_put_same (by rw [H.n_new]; omega)]
        have hst : (g2.new (.cells [.nils, .int .i64 0] 72 false)).wrN g2.n 0 [vc', .int .i64 (avS l k c).n] = some g3 := by
          rw [wrN_of (o := 0) get_new_same (by simp), hg3]; rfl
        have X3 : Ext g g3 := (x1.trans x2).trans x3
        have U3 : U16 (fun b => g0.n ≤ b) g3 vc' (avS l k c).c := (U2.ext x3).mono fun b _ hb => by have hb : g1.n ≤ b := hb; show g0.n ≤ b; omega
        obtain ⟨v', g4, k1, k2, k3, k4⟩ := (G.ext X3).push U3 (by omega) (by rw [avgR_len]; omega)
        have r3r := rdN_of (o := 0) (n := 2) r3 (by simp)
        have hcv := U2.1.cells
        have hbs : bs g3 72 1 [.nils, .int .i64 0] [(some (0, 2), .agg [vc', .int .i64 (avS l k c).n])] = some (.sl g3.n 0 1 (.ex 1), g3.new (.cells [vc', .int .i64 (avS l k c).n] 72 false)) := by
          simp [bs, fillW, splice, V.cells, hcv]
        have z3 : IntKind.i64.wrap ((c : Int) + 1) = ((c + 1 : Nat) : Int) := by rw [wi64 (by omega) (by omega)]; omega
        obtain ⟨m2, hm3⟩ : ∃ m2, m2 = c + 1 := ⟨_, rfl⟩
        rw [← hm3] at z3
        simp [l40_2, e0, q1', q2, e6, s1, s2, rl, e8, hc, show (c : Int) < cx k by omega, e2, e5, e7, a1, f9, a2, nw, hcv, hst, r3r, hbs, f7, k1, f8, z3]
        exact ⟨j, Nat.lt_succ_self j, by omega, ⟨by omega, fun d hd => by rw [k4 d hd, X3.get d (by omega), x.get d hd]⟩, ⟨v', by simp, by rw [hc2, avgR_succ]; exact k2⟩, by simp [f0], by simp [f2], by simp [f5], by simp [f6], by rw [hc2, ← hm3]; simp⟩)
  obtain ⟨⟨x, e', g'⟩, r1, r2, r3⟩ := loop (cx k) e g0 hi
  simp only at r2 r3
  subst r2
  exact ⟨e', g', r1, r3⟩

def avgK (l : Sets3) (k : Nat) : List (List Tb) := (List.range k).map fun k => avgR l k (cx k)
theorem avgK_len (l : Sets3) (k : Nat) : (avgK l k).length = k := by simp [avgK]
theorem avgK_succ (l : Sets3) (k : Nat) : avgK l (k + 1) = avgK l k ++ [avgR l k (cx k)] := by simp [avgK, List.range_succ]
theorem avgK_all (l : Sets3) : avgK l 32 = avgS l := rfl
structure I403 (h0 : H) (v : V) (l : Sets3) (B2 B5 j : Nat) (e : E) (g : H) : Prop where
  hj : j ≤ 32
  x : ∀ c, c < h0.n → c ≠ B5 → g.get c = h0.get c
  gn : h0.n ≤ g.n
  b : SetG h0.n B5 g (avgK l (32 - j))
  e0 : e.s [0, 2, 3, 4, 5, 6, 7, 8, 9, 10, 11] 0 = v
  e2 : e.s [0, 2, 3, 4, 5, 6, 7, 8, 9, 10, 11] 2 = .ptr B2 0
  e5 : e.s [0, 2, 3, 4, 5, 6, 7, 8, 9, 10, 11] 5 = .ptr B5 0
  e6 : e.s [0, 2, 3, 4, 5, 6, 7, 8, 9, 10, 11] 6 = .int .i64 ((32 - j : Nat) : Int)

theorem average40_ok {D : Nat → Prop} {h : H} {v : V} {l : Sets3} (A : SetsAt D h v l) (hl0 : 0 < l.length) (hl : l.length < 1000) (ok : AllOk l) :
    RT (fun w h' => ∃ v', w = .tup [.agg [v'], .int .i64 0] ∧ SetW (fun b => h.n ≤ b) h' v' (avgS l) ∧ Ext h h') (KW 40 [v] h) := by
  have sm : AllSmall l := ⟨hl, fun i S hS => (ok i S hS).small⟩
  have A' : SetsAt (fun b => D b ∧ b < h.n) h v l := by
    obtain ⟨b, cs, h1, h2, h3, h4⟩ := A
    exact ⟨b, cs, h1, h2, h3, fun i S hS => by obtain ⟨w, k1, k2⟩ := h4 i S hS; exact ⟨w, k1, k2.mono fun b hb hd => ⟨hd, hb⟩⟩⟩
  obtain ⟨h1, hh1⟩ : ∃ z, z = h.new (.cells [.nils] 25 false) := ⟨_, rfl⟩
  have x1 : Ext h h1 := by rw [hh1]; exact (Ext.refl h).new _
  have n1 : h1.n = h.n + 1 := by rw [hh1, H.n_new]
  have r1 : h1.get h.n = some (.cells [.nils] 25 false) := by rw [hh1, get_new_same]
  obtain ⟨⟨y, e', g'⟩, a1, _, e2, r⟩ := loop40_0 (A'.keep x1) sm x1 (Nat.le_refl _) r1 (e := ⟨[v, .ptr h.n 0, .int .i64 0, .int .i64 0, .tup [], .tup [], .tup [], .tup [], .tup [], .tup [], .tup []], 4, .int .i64 0⟩) ⟨Nat.le_refl _, Ext.refl _, fun i S hi => by omega, by simp, by simp, by simp⟩
  simp only at e2 r
  have r' : y = .ex 0 ∧ Ext h1 g' ∧ e'.s [0, 2, 3, 4, 5, 6, 7, 8, 9, 10, 11] 0 = v := by
    rcases r with ⟨y1, _, x2, e0⟩ | ⟨_, c, _⟩
    · exact ⟨y1, x2, e0⟩
    · exact (c ok).elim
  obtain ⟨rfl, x2, e0⟩ := r'
  have m2 := x2.n
  obtain ⟨h3, hh3⟩ : ∃ z, z = g'.new (.cells [.nils] 25 false) := ⟨_, rfl⟩
  have x3 : Ext g' h3 := by rw [hh3]; exact (Ext.refl g').new _
  have n3 : h3.n = g'.n + 1 := by rw [hh3, H.n_new]
  have r3 : h3.get g'.n = some (.cells [.nils] 25 false) := by rw [hh3, get_new_same]
  have r13 : h3.get h.n = some (.cells [.nils] 25 false) := by rw [x3.get _ (by omega), x2.get _ (by omega), r1]
  have A3 := ((A'.keep x1).keep x2).keep x3
  have hvb : ∀ b o n k, v = .sl b o n k → b < h.n := fun b o n k hv => by
    obtain ⟨b', cs, h1, h2, _⟩ := A
    rw [h1] at hv; cases hv; exact H.get_lt h2
  have loop := loop_run (body := l40_3 KW loopZ) (I403 h3 v l h.n g'.n) (fun s => s.x = .ex 2 ∧ I403 h3 v l h.n g'.n 0 s.e s.h)
    (fun j e g hi => by
      obtain ⟨hj, x, gn, b, e0, e2, e5, e6⟩ := hi
      cases j with
      | zero =>
        simp at e6
        simp [l40_3, e6]
        exact ⟨rfl, hj, x, gn, b, by simp [e0], by simp [e2], by simp [e5], by simp [e6]⟩
      | succ j =>
        obtain ⟨k, hk'⟩ : ∃ k, k = 32 - (j + 1) := ⟨_, rfl⟩
        have hk2 : 32 - j = k + 1 := by omega
        rw [← hk'] at e6 b
        have hk : k < 32 := by omega
        have Ag : SetsAt (fun b => D b ∧ b < h.n) g v l := by
          obtain ⟨b', cs, y1, y2, y3, y4⟩ := A3
          refine ⟨b', cs, y1, ?_, y3, fun i S hS => ?_⟩
          · have := hvb _ _ _ _ y1
            rw [x b' (by omega) (by omega), y2]
          · obtain ⟨w, k1, k2⟩ := y4 i S hS
            exact ⟨w, k1, k2.keep fun b hb _ => x b (by have := hb.2; omega) (by have := hb.2; omega)⟩
        obtain ⟨f, g1, j1, I⟩ := loop40_2 (g0 := g) (k := k) (B2 := h.n) (B5 := g'.n) Ag ok hl0 hl hk (e := ⟨[v, .ptr h.n 0, e.s [0, 2, 3, 4, 5, 6, 7, 8, 9, 10, 11] 3, e.s [0, 2, 3, 4, 5, 6, 7, 8, 9, 10, 11] 4, .ptr g'.n 0, .int .i64 k, .nils, .int .i64 0, e.s [0, 2, 3, 4, 5, 6, 7, 8, 9, 10, 11] 9, e.s [0, 2, 3, 4, 5, 6, 7, 8, 9, 10, 11] 10, e.s [0, 2, 3, 4, 5, 6, 7, 8, 9, 10, 11] 11], 8, .int .i64 0⟩)
          ⟨Nat.le_refl _, Ext.refl _, ⟨.nils, by simp, by rw [Nat.sub_self]; exact RowG.nil _ _⟩, by simp, by simp, by simp, by simp, by simp⟩
        obtain ⟨_, x', ⟨v7, f7, G⟩, f0, f2, f5, f6, _⟩ := I
        rw [Nat.sub_zero] at G
        obtain ⟨ov, v', g2, g3, c1, c2, c3, c4, c5, c6, c7, c8⟩ := b.push (by omega) x'.get x'.n gn (G.rowW x'.n fun b hb => Nat.le_trans gn hb) (by rw [avgK_len]; omega)
        have x'n := x'.n
        have z1 : IntKind.i64.wrap ((k : Int) + 1) = ((k + 1 : Nat) : Int) := by rw [wi64 (by omega) (by omega)]; omega
        obtain ⟨m2, hm3⟩ : ∃ m2, m2 = k + 1 := ⟨_, rfl⟩
        rw [← hm3] at z1
        simp [l40_3, e6, show (k : Int) < 32 by omega, hk, e0, e2, e5, j1, f5, rd1_of c1, f7, bs, fillW, G.cells, splice, c2, c4, c3, f6, z1]
        exact ⟨j, Nat.lt_succ_self j, by omega, fun c hc hcq => by rw [c6 c hc hcq, x c hc hcq], by omega, by rw [hk2, avgK_succ]; exact c5, by simp [f0], by simp [f2], by simp [f5], by rw [hk2, ← hm3]; simp⟩)
  obtain ⟨⟨sx, se, sh⟩, q1, rfl, I⟩ := loop 32 ⟨[v, .ptr h.n 0, e'.s [0, 2, 3, 4, 5, 6, 7, 8, 9, 10, 11] 3, e'.s [0, 2, 3, 4, 5, 6, 7, 8, 9, 10, 11] 4, .ptr g'.n 0, .int .i64 0, e'.s [0, 2, 3, 4, 5, 6, 7, 8, 9, 10, 11] 7, e'.s [0, 2, 3, 4, 5, 6, 7, 8, 9, 10, 11] 8, e'.s [0, 2, 3, 4, 5, 6, 7, 8, 9, 10, 11] 9, e'.s [0, 2, 3, 4, 5, 6, 7, 8, 9, 10, 11] 10, e'.s [0, 2, 3, 4, 5, 6, 7, 8, 9, 10, 11] 11], 6, .int .i64 0⟩ h3 ⟨Nat.le_refl _, fun _ _ _ => rfl, Nat.le_refl _, SetG.nil r3, by simp, by simp, by simp, by simp⟩
  obtain ⟨_, x, gn, b, f0, f2, f5, f6⟩ := I
  simp only at x gn b f0 f2 f5 f6
  rw [Nat.sub_zero, avgK_all] at b
  obtain ⟨v', sQ, W⟩ := b.setW
  have sP : sh.get h.n = some (.cells [.nils] 25 false) := by rw [x _ (by omega) (by omega), r13]
  obtain ⟨h8, hh8⟩ : ∃ g, g = sh.put h.n (.cells [v'] 25 false) := ⟨_, rfl⟩
  have r8 : h8.get h.n = some (.cells [v'] 25 false) := by rw [hh8, get_put_same (H.get_lt sP)]
  have hcv : V.cells v' = some [v'] := by obtain ⟨_, k3, _⟩ := W.setR; exact k3.cells
  have Al := A.len
  rw [w40, f40, s40]
  simp [nw, ← hh1, Al, show ¬ (l.length : Int) = 0 by omega, show ¬ l.length = 0 by omega, show l ≠ [] by (rintro rfl; simp at hl0), a1, e0, e2, ← hh3, q1, f5, rdN_of (o := 0) (n := 1) sQ (by simp), f2, wrN_of (o := 0) sP, splice, hcv, ← hh8, rdN_of (o := 0) (n := 1) r8 (by simp)]
  refine ⟨v', rfl, ?_, ?_⟩
  · have W8 : SetW (fun b => h3.n ≤ b) h8 v' (avgS l) := W.keep fun b hb _ => by rw [hh8, get_put_ne]; have hb : h3.n ≤ b := hb; omega
    exact W8.mono fun b _ hb => by have hb : h3.n ≤ b := hb; show h.n ≤ b; omega
  · refine ⟨by rw [hh8, H.n_put]; omega, fun c hc => ?_⟩
    rw [hh8, get_put_ne (by omega), x c (by omega) (by omega), x3.get c (by omega), x2.get c (by omega), x1.get c hc]
end Go.Proofs.Ytfjghgjkpenanaa
