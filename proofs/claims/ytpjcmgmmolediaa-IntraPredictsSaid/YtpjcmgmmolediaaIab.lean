/- IntraAll. -/
import Derived.Test.YtpjcmgmmolediaaIaa
set_option linter.unusedVariables false
set_option linter.unusedSimpArgs false
namespace Go.Proofs.Ytpjcmgmmolediaa
open Go Go.Zf Go.RowKit Go.WideShapes

theorem w3 (p0 p1 p2 : V) (h : H) : KW 3 [p0, p1, p2] h = f3 KW loopZ p0 p1 p2 h := (callW_eqF _ _ _ _ _ _ rfl).trans (congrFun (congrFun (congrFun (congrFun (congrFun (congrFun (r3) _) _) p0) p1) p2) h)
theorem w4 (p0 p1 : V) (h : H) : KW 4 [p0, p1] h = f4 KW loopZ p0 p1 h := (callW_eqF _ _ _ _ _ _ rfl).trans (congrFun (congrFun (congrFun (congrFun (congrFun (r4) _) _) p0) p1) h)

theorem bytes_eq2 {s s' : Int → Int → Int} {nn k : Nat} (hn : 0 < nn) (hk : (k : Int) = (nn : Int) * nn) (h : ∀ x y : Int, 0 ≤ x → x < nn → 0 ≤ y → y < nn → s x y = s' x y) : (List.range k).map (byteN s nn) = (List.range k).map (byteN s' nn) := by
  apply List.map_congr_left
  intro i hi
  have hi' : i < k := by simpa using hi
  unfold byteN
  rw [h _ _ (Int.emod_nonneg _ (by omega)) (Int.emod_lt_of_pos _ (by omega)) (Int.ediv_nonneg (by omega) (by omega)) (Int.ediv_lt_of_lt_mul (by omega) (by omega))]

theorem grow_by {p : Nat} {h : H} {v : V} {m : Nat} {s : Int → Int → Int} {n : Int} (g : GrowV p h v 5 1 ((List.range m).map (byteAt s n)) m) : ByAt h v ((List.range m).map (byteN s n)) := by
  have e : (List.range m).map (byteAt s n) = bytesV ((List.range m).map (byteN s n)) := by
    unfold bytesV; rw [List.map_map]; congr 1; funext i; exact byteN_eq s n i
  rw [e] at g
  refine g.by fun i hi => ?_
  have hi' : i < m := by simpa using hi
  simp [hi']; exact byteN_lt s n i

/-- Both predictions answer the same. -/
theorem both_ok {g : H} {n mode delta : Int} {ha hl : Bool} {A L A2 L2 : V} {a l : List Nat} {c : Nat} (aA : ByAt g A a) (aL : ByAt g L l) (aA2 : ByAt g A2 a) (aL2 : ByAt g L2 l) (hc : c < 256) :
    ∃ va vb err g1 g2, ∃ bs : List Nat, KW 14 [.int .i64 n, .int .i64 mode, .int .i64 delta, .agg (edges ha hl A L c)] g = some (.ret (.tup [va, .int .i64 err]), g1) ∧
      KW 15 [.int .i64 n, .int .i64 mode, .int .i64 delta, .agg (edges ha hl A2 L2 c)] g1 = some (.ret (.tup [vb, .int .i64 err]), g2) ∧ Ext g g1 ∧ Ext g1 g2 ∧ ByAt g2 va bs ∧ ByAt g2 vb bs ∧ bs.length ≤ 4096 ∧
      ((va = .nils ∧ bs = []) ∨ ∃ b, va = .sl b 0 bs.length (.ex bs.length) ∧ g.n ≤ b ∧ g1.get b = some (.cells (bytesV bs) 5 false)) := by
  obtain ⟨w1, g1, k1, x1, q1⟩ := (predict14_ok (n := n) (mode := mode) (delta := delta) (ha := ha) (hl := hl) (c := c) aA aL (by omega) (by omega)).elim
  obtain ⟨w2, g2, k2, x2, q2⟩ := (predict15_ok (n := n) (mode := mode) (delta := delta) (ha := ha) (hl := hl) (c := c) (aA2.ext x1) (aL2.ext x1) (by omega) (by omega)).elim
  cases hz : Sz n with
  | false =>
    rw [hz] at q1 q2
    simp only [if_true] at q1 q2
    subst q1 q2
    exact ⟨.nils, .nils, 2, g1, g2, [], k1, k2, x1, x2, ByAt.nil _, ByAt.nil _, by simp, .inl ⟨rfl, rfl⟩⟩
  | true =>
    cases hb : Bad mode delta with
    | true =>
      rw [hz, hb] at q1 q2
      simp only [Bool.true_eq_false, if_true, if_false] at q1 q2
      subst q1 q2
      exact ⟨.nils, .nils, 120, g1, g2, [], k1, k2, x1, x2, ByAt.nil _, ByAt.nil _, by simp, .inl ⟨rfl, rfl⟩⟩
    | false =>
      cases hg : Good n ha hl a.length l.length with
      | false =>
        rw [hz, hb, hg] at q1 q2
        simp only [Bool.true_eq_false, Bool.false_eq_true, if_true, if_false] at q1 q2
        subst q1 q2
        exact ⟨.nils, .nils, 2, g1, g2, [], k1, k2, x1, x2, ByAt.nil _, ByAt.nil _, by simp, .inl ⟨rfl, rfl⟩⟩
      | true =>
        rw [hz, hb, hg] at q1 q2
        simp only [Bool.true_eq_false, Bool.false_eq_true, if_false] at q1 q2
        obtain ⟨b, m, hm, rfl, hbn, hget⟩ := q1
        obtain ⟨so, m', hm', rfl, G⟩ := q2
        have : m' = m := by omega
        subst this
        obtain ⟨n4, n64, n0⟩ := sz_even hz
        obtain ⟨nn, rfl⟩ : ∃ nn : Nat, n = (nn : Int) := ⟨n.toNat, by omega⟩
        have hsz : a.length = (if ha then nn else 0) ∧ l.length = (if hl then nn else 0) := by
          unfold Good Fits at hg
          simp at hg
          obtain ⟨⟨_, h1⟩, h2⟩ := hg
          constructor
          · cases ha <;> simp at h1 ⊢ <;> omega
          · cases hl <;> simp at h2 ⊢ <;> omega
        have lt := fun i hi => aA.lt i hi
        have ll := fun i hi => aL.lt i hi
        have hfc : 0 ≤ fC ha hl a l c ∧ fC ha hl a l c ≤ 255 := by
          unfold fC
          split
          · split
            · omega
            · rename_i e1 e2
              have := aA.lt 0 (by rw [hsz.1, if_pos e1]; omega)
              omega
          · split
            · rename_i e1 e2
              have := aL.lt 0 (by rw [hsz.2, if_pos e2]; omega)
              omega
            · omega
        have one : ∀ x : Nat, x < 256 → ∀ i, i < [x].length → (0 : Int) ≤ ([x].getD i 0 : Nat) ∧ (([x].getD i 0 : Nat) : Int) ≤ 255 := fun x hx i hi => by
          have : i = 0 := by simpa using hi
          subst this; simp; omega
        have hA : Bd 0 255 (fA ha hl a l c) := by
          unfold fA
          split
          · rename_i e; exact eOf_bd (fun i hi => by have := aA.lt i hi; omega) (by rw [hsz.1, if_pos e]; omega) hfc
          · split
            · rename_i e1 e; exact eOf_bd (one _ (aL.lt 0 (by rw [hsz.2, if_pos e]; omega))) (by simp) hfc
            · exact eOf_bd (one 127 (by omega)) (by simp) (by omega)
        have hL : Bd 0 255 (fL ha hl a l c) := by
          unfold fL
          split
          · rename_i e; exact eOf_bd (fun i hi => by have := aL.lt i hi; omega) (by rw [hsz.2, if_pos e]; omega) hfc
          · split
            · rename_i e1 e; exact eOf_bd (one _ (aA.lt 0 (by rw [hsz.1, if_pos e]; omega))) (by simp) hfc
            · exact eOf_bd (one 129 (by omega)) (by simp) (by omega)
        have B2 := grow_by G
        simp only [Int.toNat_natCast] at B2
        rw [← bytes_eq2 (s := predS nn mode delta ha hl a l c) (by omega) hm (fun x y h1 h2 h3 h4 => pix_same hsz.1 hsz.2 hz hb hA hL h1 h2 h3 h4)] at B2
        have hget2 : g2.get b = _ := (x2.get _ (H.get_lt hget)).trans hget
        have B1 := pred_by hget2
        have e : (List.range m').map (byteAt (predS nn mode delta ha hl a l c) nn) = bytesV ((List.range m').map (byteN (predS nn mode delta ha hl a l c) nn)) := by
          unfold bytesV; rw [List.map_map]; congr 1; funext i; exact byteN_eq _ _ i
        have hm2 : (m' : Int) ≤ 64 * 64 := by rw [hm]; exact (mul_bd (by omega) (by omega) (by omega) (by omega)).2
        refine ⟨_, so, 0, g1, g2, (List.range m').map (byteN (predS nn mode delta ha hl a l c) nn), k1, k2, x1, x2, B1, B2, by simp; omega, .inr ⟨b, by simp, hbn, by rw [hget, e]⟩⟩

structure I4b (nn : Nat) (q : V) (md : Int) (hb : H) (j : Nat) (en : E) (g : H) : Prop where
  hj : j ≤ 9
  x : Ext hb g
  p2 : en.s [0, 1, 2, 4, 5, 6, 7, 8, 9, 10, 11] 2 = q
  p5 : en.s [0, 1, 2, 4, 5, 6, 7, 8, 9, 10, 11] 5 = .int .i64 nn
  p6 : en.s [0, 1, 2, 4, 5, 6, 7, 8, 9, 10, 11] 6 = .int .i64 md
  p7 : en.s [0, 1, 2, 4, 5, 6, 7, 8, 9, 10, 11] 7 = .int .i64 (5 - j : Int)

theorem loop4_0 {nn : Nat} {q : V} {md : Int} {hb : H} {ha hl : Bool} {A L : V} {a l : List Nat} {c : Nat} (e : Ed6 hb q ha hl A L a l c nn) (en : E) (g : H) (hi : I4b nn q md hb 9 en g) :
    ∃ e' g', loopZ (l4_0 KW loopZ) en g = some ⟨.ex 2, e', g'⟩ ∧ I4b nn q md hb 0 e' g' := by
  obtain ⟨s, k1, k2, k3⟩ := loop_run (body := l4_0 KW loopZ) (I4b nn q md hb) (fun s => s.x = .ex 2 ∧ I4b nn q md hb 0 s.e s.h)
    (fun j en g hi => by
      obtain ⟨hj, x, p2, p5, p6, p7⟩ := hi
      cases j with
      | zero =>
        simp [l4_0, p7]
        exact ⟨rfl, hj, x, by simp [p2], by simp [p5], by simp [p6], by simp⟩
      | succ j =>
        obtain ⟨d, hd⟩ : ∃ d, d = (5 - (j + 1 : Nat) : Int) := ⟨_, rfl⟩
        rw [← hd] at p7
        have z3 : IntKind.i64.wrap (d + 1) = d + 1 := Go.Zf.wi64 (by omega) (by omega)
        obtain ⟨b, hq, hqb⟩ := e.qq
        have hqb' : g.get b = _ := (x.get _ (H.get_lt hqb)).trans hqb
        obtain ⟨va, vb, err, g1, g2, bs', r1, r2, x1, x2, B1, B2, hbl, _⟩ := both_ok (n := nn) (mode := md) (delta := d) (ha := ha) (hl := hl) (e.aA.ext x) (e.aL.ext x) (e.aA.ext x) (e.aL.ext x) e.c
        have ke := eq16_ok B1 B2 (by omega)
        have hqb1 : g1.get b = _ := (x1.get _ (H.get_lt hqb')).trans hqb'
        have hedl : (edges ha hl A L c).length = 5 := rfl
        obtain ⟨cs, hcs'⟩ : ∃ cs, cs = edges ha hl A L c := ⟨_, rfl⟩
        rw [← hcs'] at hqb' r1 r2 hedl hqb1
        subst hq
        simp [l4_0, p7, show d < 5 by omega, p2, rdN_of (o := 0) (n := 5) hqb' (by omega), rdN_of (o := 0) (n := 5) hqb1 (by omega), List.take_of_length_le, hedl, p5, p6, r1, r2, ke, z3]
        exact ⟨j, Nat.lt_succ_self j, by omega, (x.trans x1).trans x2, by simp [p2], by simp [p5], by simp [p6], by simp; omega⟩) 9 en g hi
  obtain ⟨x, e', h'⟩ := s
  simp only at k2 k3
  subst k2
  exact ⟨e', h', k1, k3⟩

structure I4a (nn : Nat) (q : V) (hb : H) (j : Nat) (en : E) (g : H) : Prop where
  hj : j ≤ 16
  x : Ext hb g
  p2 : en.s [0, 1, 2, 4, 5, 6, 7, 8, 9, 10, 11] 2 = q
  p5 : en.s [0, 1, 2, 4, 5, 6, 7, 8, 9, 10, 11] 5 = .int .i64 nn
  p6 : en.s [0, 1, 2, 4, 5, 6, 7, 8, 9, 10, 11] 6 = .int .i64 (15 - j : Int)

theorem loop4_1 {nn : Nat} {q : V} {hb : H} {ha hl : Bool} {A L : V} {a l : List Nat} {c : Nat} (e : Ed6 hb q ha hl A L a l c nn) (en : E) (g : H) (hi : I4a nn q hb 16 en g) :
    ∃ e' g', loopZ (l4_1 KW loopZ) en g = some ⟨.ex 0, e', g'⟩ ∧ I4a nn q hb 0 e' g' := by
  obtain ⟨s, k1, k2, k3⟩ := loop_run (body := l4_1 KW loopZ) (I4a nn q hb) (fun s => s.x = .ex 0 ∧ I4a nn q hb 0 s.e s.h)
    (fun j en g hi => by
      obtain ⟨hj, x, p2, p5, p6⟩ := hi
      cases j with
      | zero =>
        simp [l4_1, p6]
        exact ⟨rfl, hj, x, by simp [p2], by simp [p5], by simp⟩
      | succ j =>
        obtain ⟨d, hd⟩ : ∃ d, d = (15 - (j + 1 : Nat) : Int) := ⟨_, rfl⟩
        rw [← hd] at p6
        have z3 : IntKind.i64.wrap (d + 1) = d + 1 := Go.Zf.wi64 (by omega) (by omega)
        obtain ⟨e', g', r1, ⟨_, x1, s2, s5, s6, s7⟩⟩ := loop4_0 (md := d) (e.ext x)
          ⟨[en.s [0, 1, 2, 4, 5, 6, 7, 8, 9, 10, 11] 0, en.s [0, 1, 2, 4, 5, 6, 7, 8, 9, 10, 11] 1, q, en.s [0, 1, 2, 4, 5, 6, 7, 8, 9, 10, 11] 4, .int .i64 nn, .int .i64 d, .int .i64 (-4), en.s [0, 1, 2, 4, 5, 6, 7, 8, 9, 10, 11] 8, en.s [0, 1, 2, 4, 5, 6, 7, 8, 9, 10, 11] 9, en.s [0, 1, 2, 4, 5, 6, 7, 8, 9, 10, 11] 10, en.s [0, 1, 2, 4, 5, 6, 7, 8, 9, 10, 11] 11], 7, .int .i64 (-4)⟩ g ⟨by omega, Ext.refl g, by simp, by simp, by simp, by simp⟩
        simp [l4_1, p6, show d < 15 by omega, p2, p5, r1, s6, z3]
        exact ⟨j, Nat.lt_succ_self j, by omega, x.trans x1, by simp [s2], by simp [s5], by simp; omega⟩) 16 en g hi
  obtain ⟨x, e', h'⟩ := s
  simp only at k2 k3
  subst k2
  exact ⟨e', h', k1, k3⟩

theorem all4_ok {h : H} {w : Int} {ha hl : Bool} {A L : V} {a l : List Nat} {c : Nat} (aA : ByAt h A a) (aL : ByAt h L l) (la : a.length < 9223372036854775808) (ll : l.length < 9223372036854775808) (hc : c < 256) (w0 : -9223372036854775808 ≤ w) (w1 : w < 9223372036854775808) :
    RT (fun r h' => r = .bool true) (KW 4 [.agg (edges ha hl A L c), .int .i64 w] h) := by
  obtain ⟨h1, hh1⟩ : ∃ g, g = h.new (.cells (edges ha hl A L c) 25 false) := ⟨_, rfl⟩
  have x1 : Ext h h1 := by rw [hh1]; exact (Ext.refl h).new _
  have g1 : h1.get h.n = some (.cells (edges ha hl A L c) 25 false) := by rw [hh1, get_new_same]
  obtain ⟨cs, hcs⟩ : ∃ cs, cs = [V.int .i64 4, .int .i64 8, .int .i64 16] := ⟨_, rfl⟩
  obtain ⟨h2, hh2⟩ : ∃ g, g = h1.new (.cells cs 3 false) := ⟨_, rfl⟩
  have x2 : Ext h1 h2 := by rw [hh2]; exact (Ext.refl h1).new _
  have g2 : h2.get h1.n = some (.cells cs 3 false) := by rw [hh2, get_new_same]
  have g1' : h2.get h.n = _ := (x2.get _ (H.get_lt g1)).trans g1
  obtain ⟨r, hr, kb⟩ := bring18_ok w 3 h2 (by omega) (by omega) w0 w1
  obtain ⟨nn, hnn, hz⟩ := sizes3 r (by omega)
  obtain ⟨n4, n64, n0⟩ := sz_even hz
  rw [← hcs] at hnn
  obtain ⟨w', h4, k4, x4, A', L', rfl, bA, bL, fA', fL'⟩ := (fitting19_ok (ha := ha) (hl := hl) (c := (c : Int)) (aA.ext (x1.trans x2)) (aL.ext (x1.trans x2)) la ll (m := nn) (by omega)).elim
  have g4 : h4.get h.n = _ := (x4.get _ (H.get_lt g1')).trans g1'
  obtain ⟨h5, hh5⟩ : ∃ g, g = h4.put h.n (.cells (edges ha hl A' L' c) 25 false) := ⟨_, rfl⟩
  have g5 : h5.get h.n = some (.cells (edges ha hl A' L' c) 25 false) := by rw [hh5, get_put_same (H.get_lt g4)]
  have hn2 := H.get_lt g1'
  have e6 : Ed6 h5 (.ptr h.n 0) ha hl A' L' a l c nn := ⟨⟨h.n, rfl, g5⟩, by rw [hh5]; exact bA.put _ (fA'.ne hn2), by rw [hh5]; exact bL.put _ (fL'.ne hn2), hc⟩
  obtain ⟨e', g', r1, ⟨_, x6, s2, s5, s6⟩⟩ := loop4_1 e6
    ⟨[.agg (edges ha hl A L c), .int .i64 w, .ptr h.n 0, .bool false, .int .i64 nn, .int .i64 (-1), .und, .und, .und, .und, .und], 6, .int .i64 (-1)⟩ h5 ⟨by omega, Ext.refl _, by simp, by simp, by simp⟩
  simp only [V_und_tup] at r1
  unfold edges at hh1 g1 g1' g4 hh5 k4 r1
  unfold edges
  have hr3 : r < 3 := by omega
  rw [w4, f4, s4]
  simp [bx, ← hh1, bs, fillW, splice, ← hcs, ← hh2, kb, hr, hr3, rd1_of g2, hnn, rdN_of (o := 0) (n := 5) g1' (by simp), k4, wrN_of (o := 0) g4, ← hh5, r1, works_ok]
  rfl

theorem core4 {Hd : Type} {enc : TypeId × Value → Hd} {W : World} {base : Nat} {v0 v1 : Value} {d0 d1 : DataW Hd} {p0 p1 : List MemPlace} {k : Prop}
    (hok : Value.okWide Try.prog W .any base 25 v0) (hd : DataW.Trod enc Try.prog W 0 (fun _ => true) true 25 v0 d0 p0)
    (hok1 : Value.okWide Try.prog W .any base 3 v1) (hd1 : DataW.Trod enc Try.prog W 0 (fun _ => true) true 3 v1 d1 p1) (hk : k) :
    Calls Try.prog 4 #[v0, v1] W fun e W' => e = .returned (.bool true) ∧ Go.RowKit.Below W.heap.size W W' := by
  obtain ⟨d, rfl, _, _, wd⟩ := Go.ChangeShapes.open_int Try.underlying3 hok1 hd1
  have hw := wf_i64 wd
  obtain ⟨i', h', ha, hl, A, L, c, la, ll, a, hle, hv, bA, bL, _, hc, q1, q2, _⟩ := argEdges (ArgH.empty W) hok hd
  obtain ⟨r, h2, hr, rfl⟩ := (all4_ok (ha := ha) (hl := hl) bA bL q1 q2 hc hw.1 hw.2).elim
  exact law_calls (us := [v0, .int .i64 d]) (callW_ok mixed kp ov2_ok hr) a.rel (.cons hv (.cons (.int _ _) .nil)) a.dom a.no
end Go.Proofs.Ytpjcmgmmolediaa
