/- The average of several sets: the program. -/
import Derived.Test.YtfjghgjkpenanaaScc
set_option linter.unusedVariables false
set_option linter.unusedSimpArgs false
set_option maxRecDepth 20000
namespace Go.Proofs.Ytfjghgjkpenanaa
open Go Go.Zf
open Go.Zf (wi64)

theorem SetR.outer {D : Nat → Prop} {h : H} {v : V} {S : List (List Tb)} (a : SetR D h v S) {k : Nat} {r : List Tb} (hr : S[k]? = some r) : ∃ b o c vr, iaS 1 v (.int .i64 k) = some (.ptr b o) ∧ h.get b = some (.cells c tR false) ∧ h.rd1 b o = some vr ∧ D b ∧ RowR D h vr r := by
  obtain ⟨cs, h1, h2⟩ := a
  obtain ⟨vr, k1, k2⟩ := h2 k r hr
  obtain ⟨b, o, h3, h4, h5, c, h6⟩ := h1.at1 (lt_of_get hr)
  exact ⟨b, o, c, vr, h3, h6, by rw [h4, k1], h5, k2⟩

structure F39 (g0 : H) (v : V) (tabs : List Tb) (D : Nat → Prop) (Bs k c B2 B4 m : Nat) (vO vr : V) (cc j : Nat) (e : E) (g : H) : Prop where
  hj : j ≤ tabs.length
  x : Only g0 g Bs
  w : ∃ cs, g.get Bs = some (.cells cs 72 false) ∧ cs.length = tabs.length * 2 ∧ Els D g0 cs (tabs.take (tabs.length - j))
  e0 : e.s [0, 2, 3, 4, 5, 6, 7, 8, 9, 10, 11, 28, 29, 30, 36, 37, 41, 42] 0 = v
  e2 : e.s [0, 2, 3, 4, 5, 6, 7, 8, 9, 10, 11, 28, 29, 30, 36, 37, 41, 42] 2 = .ptr B2 0
  e4 : e.s [0, 2, 3, 4, 5, 6, 7, 8, 9, 10, 11, 28, 29, 30, 36, 37, 41, 42] 4 = .ptr B4 0
  e5 : e.s [0, 2, 3, 4, 5, 6, 7, 8, 9, 10, 11, 28, 29, 30, 36, 37, 41, 42] 5 = .sl Bs 0 tabs.length (.ex tabs.length)
  e6 : e.s [0, 2, 3, 4, 5, 6, 7, 8, 9, 10, 11, 28, 29, 30, 36, 37, 41, 42] 6 = .int .i64 k
  e7 : e.s [0, 2, 3, 4, 5, 6, 7, 8, 9, 10, 11, 28, 29, 30, 36, 37, 41, 42] 7 = vr
  e8 : e.s [0, 2, 3, 4, 5, 6, 7, 8, 9, 10, 11, 28, 29, 30, 36, 37, 41, 42] 8 = .int .i64 c
  e28 : e.s [0, 2, 3, 4, 5, 6, 7, 8, 9, 10, 11, 28, 29, 30, 36, 37, 41, 42] 28 = vO
  e29 : e.s [0, 2, 3, 4, 5, 6, 7, 8, 9, 10, 11, 28, 29, 30, 36, 37, 41, 42] 29 = .int .i64 (32 : Nat)
  e30 : e.s [0, 2, 3, 4, 5, 6, 7, 8, 9, 10, 11, 28, 29, 30, 36, 37, 41, 42] 30 = .int .i64 k
  e36 : e.s [0, 2, 3, 4, 5, 6, 7, 8, 9, 10, 11, 28, 29, 30, 36, 37, 41, 42] 36 = .int .i64 cc
  e37 : e.s [0, 2, 3, 4, 5, 6, 7, 8, 9, 10, 11, 28, 29, 30, 36, 37, 41, 42] 37 = .int .i64 c
  e41 : e.s [0, 2, 3, 4, 5, 6, 7, 8, 9, 10, 11, 28, 29, 30, 36, 37, 41, 42] 41 = .int .i64 tabs.length
  e42 : e.s [0, 2, 3, 4, 5, 6, 7, 8, 9, 10, 11, 28, 29, 30, 36, 37, 41, 42] 42 = .int .i64 ((tabs.length - j : Nat) : Int)

theorem loop39_0 {D : Nat → Prop} {g0 : H} {v vO vr : V} {l : Sets3} {Bs k c B2 B4 m cc : Nat} (A : SetsAt D g0 v l) (ok : AllOk l) (hl : l.length < 1000) (hk : k < 32) (hc : c < cx k) (hD : ∀ b, D b → b ≠ Bs) (hBv : ∀ b o n kk, v = .sl b o n kk → b ≠ Bs) {e : E} {g : H} (hi : F39 g0 v (l.map fun S => tabOf S k c) D Bs k c B2 B4 m vO vr cc (l.map fun S => tabOf S k c).length e g) :
    ∃ e' g', loopZ (l39_0 KW loopZ) e g = some ⟨.ex 4, e', g'⟩ ∧ F39 g0 v (l.map fun S => tabOf S k c) D Bs k c B2 B4 m vO vr cc 0 e' g' := by
  obtain ⟨tabs, htabs⟩ : ∃ t, t = l.map fun S => tabOf S k c := ⟨_, rfl⟩
  rw [← htabs] at hi ⊢
  have htl : tabs.length = l.length := by rw [htabs, List.length_map]
  have loop := loop_run (body := l39_0 KW loopZ) (F39 g0 v tabs D Bs k c B2 B4 m vO vr cc) (fun s => s.x = .ex 4 ∧ F39 g0 v tabs D Bs k c B2 B4 m vO vr cc 0 s.e s.h)
    (fun j e g hi => by
      obtain ⟨hj, x, ⟨cs, w1, w2, w3⟩, e0, e2, e4, e5, e6, e7, e8, e28, e29, e30, e36, e37, e41, e42⟩ := hi
      cases j with
      | zero =>
        rw [Nat.sub_zero] at e42
        simp [l39_0, e42, e41]
        exact ⟨rfl, hj, x, ⟨cs, w1, w2, w3⟩, by simp [e0], by simp [e2], by simp [e4], by simp [e5], by simp [e6], by simp [e7], by simp [e8], by simp [e28], by simp [e29], by simp [e30], by simp [e36], by simp [e37], by simp [e41], by simp [e42]⟩
      | succ j =>
        obtain ⟨i, hi⟩ : ∃ i, i = tabs.length - (j + 1) := ⟨_, rfl⟩
        have hi2 : tabs.length - j = i + 1 := by omega
        rw [← hi] at e42 w3
        have hil : i < l.length := by omega
        obtain ⟨S, hS⟩ := get_of_lt hil
        obtain ⟨b, o, w, q1, q2, q3, U, hbn⟩ := A.at hS
        have hbB : b ≠ Bs := by
          obtain ⟨o', n', kk, e⟩ := iaS_ptr q1
          exact hBv _ _ _ _ e
        obtain ⟨r, hr, ht, tok, tl⟩ := (ok i S hS).get hk hc
        have Ug : SetR D g w S := U.keep fun b hb _ => x.2 b (hD b hb)
        obtain ⟨bO, oO, vr', s1, s2, R, _, _⟩ := Ug.row hr
        obtain ⟨bb, ob, vc, t1, t2, t3, t4, t5, t6, _⟩ := R.tab ht
        have U0 : U16 D g0 vc (tabOf S k c).c := t5.keep fun b x' hb _ => (x.2 b (hD b hb)).symm
        have q2g : g.rd1 b o = some w := by unfold H.rd1 at q2 ⊢; rw [x.2 b hbB]; exact q2
        obtain ⟨g1, hg1⟩ : ∃ z, z = g.put Bs (.cells (splice cs (i * 2) [vc, .int .i64 (tabOf S k c).n]) 72 false) := ⟨_, rfl⟩
        have hw : g.wrN Bs (i * 2) [vc, .int .i64 (tabOf S k c).n] = some g1 := by rw [wrN_of w1 (by simp; omega), hg1]
        have z3 : IntKind.i64.wrap ((i : Int) + 1) = ((i + 1 : Nat) : Int) := by rw [wi64 (by omega) (by omega)]; omega
        obtain ⟨m2, hm3⟩ : ∃ m2, m2 = i + 1 := ⟨_, rfl⟩
        rw [← hm3] at z3
        have htab : tabs[i]? = some (tabOf S k c) := by rw [htabs, List.getElem?_map, hS]; rfl
        have i5 : iaS 2 (.sl Bs 0 tabs.length (.ex tabs.length)) (.int .i64 i) = some (.ptr Bs (i * 2)) := by simp [show i < tabs.length by omega]
        simp [-iaS_sl, l39_0, e42, e41, show (i : Int) < tabs.length by omega, show i < tabs.length by omega, e0, q1, q2g, e6, s1, s2, e8, t1, t4, e5, i5, hw, z3]
        refine ⟨j, Nat.lt_succ_self j, by omega, x.trans ⟨by rw [hg1, H.n_put], fun c hc => by rw [hg1, get_put_ne hc]⟩, ⟨_, by rw [hg1, get_put_same (H.get_lt w1)], by rw [splice_len (by simp; omega), w2], ?_⟩, by simp [e0], by simp [e2], by simp [e4], by simp [e5], by simp [e6], by simp [e7], by simp [e8], by simp [e28], by simp [e29], by simp [e30], by simp [e36], by simp [e37], by simp [e41], by rw [hi2, ← hm3]; simp⟩
        rw [hi2, take_snoc htab]
        intro t tb htb
        rw [splice_get (by omega), splice_get (by omega)]
        have hlt : (tabs.take i).length = i := by rw [List.length_take]; omega
        by_cases h : t < i
        · rw [List.getElem?_append_left (by omega)] at htb
          obtain ⟨vc', k1, k2, k3⟩ := w3 t tb htb
          exact ⟨vc', by rw [if_neg (by omega), if_neg (by omega), k1], by rw [if_neg (by omega), if_neg (by omega), k2], k3⟩
        · have hti : t = i := by have := lt_of_get htb; simp at this; omega
          subst hti
          rw [List.getElem?_append_right (by omega), hlt, Nat.sub_self] at htb
          cases htb
          exact ⟨vc, by rw [if_pos (by omega)], by rw [if_neg (by omega), if_pos (by omega)], U0⟩)
  obtain ⟨⟨x, e', g'⟩, r1, r2, r3⟩ := loop tabs.length e g hi
  simp only at r2 r3
  subst r2
  exact ⟨e', g', r1, r3⟩
end Go.Proofs.Ytfjghgjkpenanaa
