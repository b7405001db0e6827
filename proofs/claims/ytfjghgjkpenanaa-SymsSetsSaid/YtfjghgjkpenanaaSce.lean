/- The average of several sets: the program, rows. -/
import Derived.Test.YtfjghgjkpenanaaScd
set_option linter.unusedVariables false
set_option linter.unusedSimpArgs false
set_option maxRecDepth 20000
namespace Go.Proofs.Ytfjghgjkpenanaa
open Go Go.Zf
open Go.Zf (wi64)

structure W39 (hb : H) (vO : V) (l : Sets3) (S0 : List (List Tb)) (B4 Bs k c : Nat) (g : H) : Prop where
  X : Ext hb g
  W : ∃ F, SetW F g vO (curS l S0 k c) ∧ ∀ b, F b → hb.n ≤ b ∧ b < g.n ∧ b ≠ B4 ∧ b ≠ Bs
  b4 : g.get B4 = some (.cells [vO] 25 false)
  bs : ∃ cs, g.get Bs = some (.cells cs 72 false) ∧ cs.length = l.length * 2

structure I39 (hb : H) (v vO vr : V) (l : Sets3) (S0 : List (List Tb)) (B2 B4 Bs k j : Nat) (e : E) (g : H) : Prop where
  hj : j ≤ cx k
  w : W39 hb vO l S0 B4 Bs k (cx k - j) g
  hvr : ∀ b o vr', iaS 1 vO (.int .i64 k) = some (.ptr b o) → g.rd1 b o = some vr' → vr = vr'
  e0 : e.s [0, 2, 3, 4, 5, 6, 7, 8, 9, 10, 11, 28, 29, 30, 36, 37, 41, 42] 0 = v
  e2 : e.s [0, 2, 3, 4, 5, 6, 7, 8, 9, 10, 11, 28, 29, 30, 36, 37, 41, 42] 2 = .ptr B2 0
  e4 : e.s [0, 2, 3, 4, 5, 6, 7, 8, 9, 10, 11, 28, 29, 30, 36, 37, 41, 42] 4 = .ptr B4 0
  e5 : e.s [0, 2, 3, 4, 5, 6, 7, 8, 9, 10, 11, 28, 29, 30, 36, 37, 41, 42] 5 = .sl Bs 0 l.length (.ex l.length)
  e6 : e.s [0, 2, 3, 4, 5, 6, 7, 8, 9, 10, 11, 28, 29, 30, 36, 37, 41, 42] 6 = .int .i64 k
  e7 : e.s [0, 2, 3, 4, 5, 6, 7, 8, 9, 10, 11, 28, 29, 30, 36, 37, 41, 42] 7 = vr
  e28 : e.s [0, 2, 3, 4, 5, 6, 7, 8, 9, 10, 11, 28, 29, 30, 36, 37, 41, 42] 28 = vO
  e29 : e.s [0, 2, 3, 4, 5, 6, 7, 8, 9, 10, 11, 28, 29, 30, 36, 37, 41, 42] 29 = .int .i64 (32 : Nat)
  e30 : e.s [0, 2, 3, 4, 5, 6, 7, 8, 9, 10, 11, 28, 29, 30, 36, 37, 41, 42] 30 = .int .i64 k
  e36 : e.s [0, 2, 3, 4, 5, 6, 7, 8, 9, 10, 11, 28, 29, 30, 36, 37, 41, 42] 36 = .int .i64 (cx k)
  e37 : e.s [0, 2, 3, 4, 5, 6, 7, 8, 9, 10, 11, 28, 29, 30, 36, 37, 41, 42] 37 = .int .i64 ((cx k - j : Nat) : Int)

theorem loop39_1 {D : Nat → Prop} {hb : H} {v vO vr : V} {l : Sets3} {S0 : List (List Tb)} {B2 B4 Bs k : Nat} (A : SetsAt D hb v l) (hDb : ∀ b, D b → b < hb.n) (ok : AllOk l) (hl0 : 0 < l.length) (hl : l.length < 1000) (hS0 : SetOk S0) (hk : k < 32) (hBs : hb.n ≤ Bs) (hB4 : hb.n ≤ B4) (hB4s : B4 ≠ Bs) {e : E} {g : H} (hi : I39 hb v vO vr l S0 B2 B4 Bs k (cx k) e g) :
    ∃ e' g', loopZ (l39_1 KW loopZ) e g = some ⟨.ex 2, e', g'⟩ ∧ I39 hb v vO vr l S0 B2 B4 Bs k 0 e' g' := by
  have hcx := cx_le hk
  have hAl := A.len
  have loop := loop_run (body := l39_1 KW loopZ) (I39 hb v vO vr l S0 B2 B4 Bs k) (fun s => s.x = .ex 2 ∧ I39 hb v vO vr l S0 B2 B4 Bs k 0 s.e s.h)
    (fun j e g hi => by
      obtain ⟨hj, ⟨X, ⟨F, W, hF⟩, b4, cs, bs1, bs2⟩, hvr, e0, e2, e4, e5, e6, e7, e28, e29, e30, e36, e37⟩ := hi
      cases j with
      | zero =>
        rw [Nat.sub_zero] at e37 W
        simp [l39_1, e36, e37]
        exact ⟨rfl, hj, ⟨X, ⟨F, by rw [Nat.sub_zero]; exact W, hF⟩, b4, cs, bs1, bs2⟩, hvr, by simp [e0], by simp [e2], by simp [e4], by simp [e5], by simp [e6], by simp [e7], by simp [e28], by simp [e29], by simp [e30], by simp [e36], by simp [e37]⟩
      | succ j =>
        obtain ⟨c, hcd⟩ : ∃ c, c = cx k - (j + 1) := ⟨_, rfl⟩
        have hc2 : cx k - j = c + 1 := by omega
        rw [← hcd] at e37 W
        have hc : c < cx k := by omega
        have Xn := X.n
        have Ag := A.keep X
        obtain ⟨e1, g1, a1, I⟩ := loop39_0 (g0 := g) (Bs := Bs) (k := k) (c := c) (B2 := B2) (B4 := B4) (m := 0) (cc := cx k) (vO := vO) (vr := vr) Ag ok hl hk hc (fun b hb => by have := hDb b hb; omega) (fun b o n kk hv => by
            obtain ⟨b', cs', h1, h2, _⟩ := A
            rw [h1] at hv; cases hv
            have := H.get_lt h2; omega)
          (e := ⟨[v, .ptr B2 0, e.s [0, 2, 3, 4, 5, 6, 7, 8, 9, 10, 11, 28, 29, 30, 36, 37, 41, 42] 3, .ptr B4 0, .sl Bs 0 l.length (.ex l.length), .int .i64 k, vr, .int .i64 c, e.s [0, 2, 3, 4, 5, 6, 7, 8, 9, 10, 11, 28, 29, 30, 36, 37, 41, 42] 9, e.s [0, 2, 3, 4, 5, 6, 7, 8, 9, 10, 11, 28, 29, 30, 36, 37, 41, 42] 10, e.s [0, 2, 3, 4, 5, 6, 7, 8, 9, 10, 11, 28, 29, 30, 36, 37, 41, 42] 11, vO, .int .i64 32, .int .i64 k, .int .i64 (cx k), .int .i64 c, .int .i64 l.length, .int .i64 0], 42, .int .i64 0⟩) (g := g)
          ⟨Nat.le_refl _, Only.refl _ _, ⟨cs, bs1, by rw [List.length_map]; exact bs2, by rw [Nat.sub_self]; exact Els.none _ _ _⟩, by simp, by simp, by simp, by simp, by simp, by simp, by simp, by simp, by simp, by simp, by simp, by simp, by simp, by simp⟩
        obtain ⟨_, x1, ⟨cs1, w1, w2, w3⟩, f0, f2, f4, f5, f6, f7, f8, f28, f29, f30, f36, f37, f41, f42⟩ := I
        rw [Nat.sub_zero, List.take_length] at w3
        obtain ⟨tabs, htabs⟩ : ∃ t, t = l.map fun S => tabOf S k c := ⟨_, rfl⟩
        rw [← htabs] at w2 w3 f5 f41
        have htl : tabs.length = l.length := by rw [htabs, List.length_map]
        have A2 : Alike2 tabs (vl k) := ⟨by omega, by omega, fun i t ht => by
          rw [htabs, List.getElem?_map] at ht
          cases hS : l[i]? with
          | none => rw [hS] at ht; cases ht
          | some S =>
            rw [hS] at ht
            simp only [Option.map_some, Option.some.injEq] at ht
            subst ht
            obtain ⟨_, _, _, tok, tl⟩ := (ok i S hS).get hk hc
            exact ⟨tok, tl⟩⟩
        have S1 : SlR (fun b => D b ∨ b = Bs) g1 (.sl Bs 0 tabs.length (.ex tabs.length)) tT 2 tabs.length cs1 := SlR.of w1 w2 (.inr rfl)
        have E1 : Els (fun b => D b ∨ b = Bs) g1 cs1 tabs := (w3.keep (h' := g1) fun b c hb _ => x1.2 b (by have := hDb b hb; omega)).mono fun b _ hb => .inl hb
        obtain ⟨w, g2, a2, vt, rfl, ⟨vc', rfl, U2⟩, x2⟩ := (average66_ok A2 S1 E1).elim
        have htav : avgT tabs (vl k) = avS l k c := by rw [avS, htabs]
        rw [htav] at a2 U2
        have x2n := x2.n
        have n1 : g1.n = g.n := x1.1
        obtain ⟨g3, hg3⟩ : ∃ z, z = (g2.new (.cells [.nils, .int .i64 0] 72 false)).put g2.n (.cells [vc', .int .i64 (avS l k c).n] 72 false) := ⟨_, rfl⟩
        have x3 : Ext g2 g3 := by rw [hg3]; exact ((Ext.refl g2).new _).put (Nat.le_refl _) _
        have n3 : g3.n = g2.n + 1 := by rw [hg3, H.n_put, H.n_new]
        have r3 : g3.get g2.n = some (.cells [vc', .int .i64 (avS l k c).n] 72 false) := by rw [hg3, get_put_same (by rw [H.n_new]; omega)]
        have hst : (g2.new (.cells [.nils, .int .i64 0] 72 false)).wrN g2.n 0 [vc', .int .i64 (avS l k c).n] = some g3 := by
          rw [wrN_of (o := 0) get_new_same (by simp), hg3]; rfl
        have keep3 : ∀ b, b < g.n → b ≠ Bs → g3.get b = g.get b := fun b hb hne => by rw [x3.get b (by omega), x2.get b (by omega), x1.2 b hne]
        have W3 : SetW F g3 vO (curS l S0 k c) := W.keep fun b hb hb2 => keep3 b hb2 (hF b hb).2.2.2
        obtain ⟨r, hr⟩ : ∃ r, (curS l S0 k c)[k]? = some r := ⟨_, curS_get l S0 k c hk⟩
        have hrl : r.length = cx k := by rw [curS_get l S0 k c hk] at hr; cases hr; simp
        obtain ⟨t, ht⟩ := get_of_lt (l := r) (i := c) (by omega)
        obtain ⟨bO, oO, vr', bb, cells, vc, t1, t2, t3, t4, t5, t6, t7, t8, t9, t10, t11⟩ := W3.tab hr ht
        have hFb := hF bb t10
        have hFO := hF bO t3
        have hvv : vr = vr' := hvr bO oO vr' t1 (by unfold H.rd1 at t2 ⊢; rw [← keep3 bO hFO.2.1 hFO.2.2.2]; exact t2)
        subst hvv
        obtain ⟨g4, hg4⟩ : ∃ z, z = g3.put bb (.cells (splice cells (c * 2) [vc', .int .i64 (avS l k c).n]) 72 false) := ⟨_, rfl⟩
        have hw4 : g3.wrN bb (c * 2) [vc', .int .i64 (avS l k c).n] = some g4 := by rw [wrN_of t6 (by simp; omega), hg4]
        have n4 : g4.n = g3.n := by rw [hg4, H.n_put]
        have W4 : SetW (fun b => F b ∨ (g1.n ≤ b ∧ b < g2.n)) g4 vO (curS l S0 k (c + 1)) := by
          rw [← curS_set hk hc hr, hg4]
          exact t11 g3 _ vc' (avS l k c) (fun b _ _ => rfl) (Nat.le_refl _) (fun b hb _ => .inl hb) ((U2.mono fun b hb hd => .inr ⟨hd, hb⟩).ext x3)
        have X4 : Ext hb g4 := ⟨by omega, fun b hb => by rw [hg4, get_put_ne (by omega), keep3 b (by omega) (by omega), X.get b hb]⟩
        have r3r := rdN_of (o := 0) (n := 2) r3 (by simp)
        have z3 : IntKind.i64.wrap ((c : Int) + 1) = ((c + 1 : Nat) : Int) := by rw [wi64 (by omega) (by omega)]; omega
        obtain ⟨m2, hm3⟩ : ∃ m2, m2 = c + 1 := ⟨_, rfl⟩
        rw [← hm3] at z3
        simp [l39_1, e36, e37, hc, show (c : Int) < cx k by omega, e0, e2, e4, e5, e6, e7, e28, e29, e30, hAl, a1, f5, a2, nw, U2.1.cells, hst, r3r, f7, f8, t5, hw4, f37, z3]
        refine ⟨j, Nat.lt_succ_self j, by omega, ⟨X4, ⟨_, by rw [hc2]; exact W4, fun b hb => ?_⟩, ?_, cs1, ?_, by omega⟩, ?_, by simp [f0], by simp [f2], by simp [f4], by simp [f5, htl], by simp [f6], by simp [f7], by simp [f28], by simp [f29], by simp [f30], by simp [f36], by rw [hc2, ← hm3]; simp⟩
        · rcases hb with hb | hb
          · have := hF b hb; exact ⟨this.1, by omega, this.2.2⟩
          · have := H.get_lt b4
            have := H.get_lt bs1
            exact ⟨by omega, by omega, by omega, by omega⟩
        · rw [hg4, get_put_ne (Ne.symm hFb.2.2.1), keep3 B4 (H.get_lt b4) hB4s, b4]
        · have := H.get_lt bs1
          rw [hg4, get_put_ne (Ne.symm hFb.2.2.2), x3.get _ (by omega), x2.get _ (by omega), w1]
        · intro b o vr2 hia hrd
          rw [t1] at hia; cases hia
          obtain ⟨b', o', cc, vr3, y1, y2, _⟩ := W3.setR.outer hr
          rw [t1] at y1; cases y1
          have hne : bO ≠ bb := by rintro rfl; rw [y2] at t6; cases t6
          unfold H.rd1 at hrd t2
          rw [hg4, get_put_ne hne] at hrd
          rw [hrd] at t2; cases t2; rfl)
  obtain ⟨⟨x, e', g'⟩, r1, r2, r3⟩ := loop (cx k) e g hi
  simp only at r2 r3
  subst r2
  exact ⟨e', g', r1, r3⟩

structure O39 (hb : H) (v vO : V) (l : Sets3) (S0 : List (List Tb)) (B2 B4 Bs j : Nat) (e : E) (g : H) : Prop where
  hj : j ≤ 32
  w : W39 hb vO l S0 B4 Bs (32 - j) 0 g
  e0 : e.s [0, 2, 3, 4, 5, 6, 7, 8, 9, 10, 11, 28, 29, 30, 36, 37, 41, 42] 0 = v
  e2 : e.s [0, 2, 3, 4, 5, 6, 7, 8, 9, 10, 11, 28, 29, 30, 36, 37, 41, 42] 2 = .ptr B2 0
  e4 : e.s [0, 2, 3, 4, 5, 6, 7, 8, 9, 10, 11, 28, 29, 30, 36, 37, 41, 42] 4 = .ptr B4 0
  e5 : e.s [0, 2, 3, 4, 5, 6, 7, 8, 9, 10, 11, 28, 29, 30, 36, 37, 41, 42] 5 = .sl Bs 0 l.length (.ex l.length)
  e28 : e.s [0, 2, 3, 4, 5, 6, 7, 8, 9, 10, 11, 28, 29, 30, 36, 37, 41, 42] 28 = vO
  e29 : e.s [0, 2, 3, 4, 5, 6, 7, 8, 9, 10, 11, 28, 29, 30, 36, 37, 41, 42] 29 = .int .i64 (32 : Nat)
  e30 : e.s [0, 2, 3, 4, 5, 6, 7, 8, 9, 10, 11, 28, 29, 30, 36, 37, 41, 42] 30 = .int .i64 ((32 - j : Nat) : Int)

theorem average39_ok {D : Nat → Prop} {h : H} {v : V} {l : Sets3} (A : SetsAt D h v l) (hl0 : 0 < l.length) (hl : l.length < 1000) (ok : AllOk l) :
    RT (fun w h' => ∃ v', w = .tup [.agg [v'], .int .i64 0] ∧ SetW (fun b => h.n ≤ b) h' v' (avgS l) ∧ Ext h h') (KW 39 [v] h) := by
  have sm : AllSmall l := ⟨hl, fun i S hS => (ok i S hS).small⟩
  have A' : SetsAt (fun b => D b ∧ b < h.n) h v l := by
    obtain ⟨b, cs, h1, h2, h3, h4⟩ := A
    exact ⟨b, cs, h1, h2, h3, fun i S hS => by obtain ⟨w, k1, k2⟩ := h4 i S hS; exact ⟨w, k1, k2.mono fun b hb hd => ⟨hd, hb⟩⟩⟩
  obtain ⟨h1, hh1⟩ : ∃ z, z = h.new (.cells [.nils] 25 false) := ⟨_, rfl⟩
  have x1 : Ext h h1 := by rw [hh1]; exact (Ext.refl h).new _
  have n1 : h1.n = h.n + 1 := by rw [hh1, H.n_new]
  have r1 : h1.get h.n = some (.cells [.nils] 25 false) := by rw [hh1, get_new_same]
  obtain ⟨w, h2, e64, c1, _, x2⟩ := (contains64_ok (A.keep x1) sm).elim
  obtain rfl := c1 ok
  have m2 := x2.n
  obtain ⟨S0, hS0⟩ := get_of_lt (l := l) (i := 0) hl0
  have A2 := (A'.keep x1).keep x2
  obtain ⟨b0, o0, w0, p1, p2, p3, U0, _⟩ := A2.at hS0
  have p1' : iaS 1 v (.int .i64 0) = some (.ptr b0 o0) := by simpa using p1
  have ok0 := ok 0 S0 hS0
  obtain ⟨w, h3, e38, vO, rfl, P3, x3⟩ := (copy38_ok U0 ok0.small).elim
  have W3 := P3.setW ok0.full
  have m3 := x3.n
  have hcO : V.cells vO = some [vO] := by obtain ⟨_, k3, _⟩ := W3.setR; exact k3.cells
  obtain ⟨h4, hh4⟩ : ∃ z, z = (h3.new (.cells [.nils] 25 false)).put h3.n (.cells [vO] 25 false) := ⟨_, rfl⟩
  have x4 : Ext h3 h4 := by rw [hh4]; exact ((Ext.refl h3).new _).put (Nat.le_refl _) _
  have n4 : h4.n = h3.n + 1 := by rw [hh4, H.n_put, H.n_new]
  have r4 : h4.get h3.n = some (.cells [vO] 25 false) := by rw [hh4, get_put_same (by rw [H.n_new]; omega)]
  have hst4 : (h3.new (.cells [.nils] 25 false)).wrN h3.n 0 [vO] = some h4 := by rw [wrN_of (o := 0) get_new_same (by simp), hh4]; rfl
  obtain ⟨h5, hh5⟩ : ∃ z, z = h4.new (.cells (reps l.length [.nils, .int .i64 0]) 72 false) := ⟨_, rfl⟩
  have x5 : Ext h4 h5 := by rw [hh5]; exact (Ext.refl h4).new _
  have n5 : h5.n = h4.n + 1 := by rw [hh5, H.n_new]
  have r5 : h5.get h4.n = some (.cells (reps l.length [.nils, .int .i64 0]) 72 false) := by rw [hh5, get_new_same]
  have hms : ms h4 72 32 [.nils, .int .i64 0] (.int .i64 l.length) (.int .i64 l.length) = some (.sl h4.n 0 l.length (.ex l.length), h5) := by
    simp only [ms]
    rw [if_pos ⟨by omega, by omega, by omega, by omega, trivial⟩, Int.toNat_natCast, ← hh5]
  have r45 : h5.get h3.n = some (.cells [vO] 25 false) := by rw [x5.get _ (by omega), r4]
  have W5 : SetW (fun b => h2.n ≤ b ∧ b < h3.n) h5 vO (curS l S0 0 0) := by
    rw [curS_zero ok0]
    exact ((W3.mono fun b hb hd => ⟨hd, hb⟩).ext x4).ext x5
  have lO : lnS vO = some (.int .i64 (32 : Nat)) := by
    have := W5.setR.len; rw [curS_len] at this; exact this
  have loop := loop_run (body := l39_2 KW loopZ) (O39 h2 v vO l S0 h.n h3.n h4.n) (fun s => s.x = .ex 0 ∧ O39 h2 v vO l S0 h.n h3.n h4.n 0 s.e s.h)
    (fun j e g hi => by
      obtain ⟨hj, w, e0, e2, e4, e5, e28, e29, e30⟩ := hi
      cases j with
      | zero =>
        rw [Nat.sub_zero] at e30
        simp [l39_2, e29, e30]
        exact ⟨rfl, hj, w, by simp [e0], by simp [e2], by simp [e4], by simp [e5], by simp [e28], by simp [e29], by simp [e30]⟩
      | succ j =>
        obtain ⟨k, hk'⟩ : ∃ k, k = 32 - (j + 1) := ⟨_, rfl⟩
        have hk2 : 32 - j = k + 1 := by omega
        rw [← hk'] at e30 w
        have hk : k < 32 := by omega
        obtain ⟨F, W, hF⟩ := w.W
        obtain ⟨r, hr⟩ : ∃ r, (curS l S0 k 0)[k]? = some r := ⟨_, curS_get l S0 k 0 hk⟩
        have hrl : r.length = cx k := by rw [curS_get l S0 k 0 hk] at hr; cases hr; simp
        obtain ⟨bO, oO, cc, vr, t1, t2, t3, t4, R⟩ := W.setR.outer hr
        have rl := R.len
        rw [hrl] at rl
        obtain ⟨e', g', a1, I⟩ := loop39_1 (hb := h2) (B2 := h.n) (B4 := h3.n) (Bs := h4.n) (vr := vr) A2 (fun b hb => by have := hb.2; omega) ok hl0 hl ok0 hk (by omega) (by omega) (by omega) (e := ⟨[v, .ptr h.n 0, e.s [0, 2, 3, 4, 5, 6, 7, 8, 9, 10, 11, 28, 29, 30, 36, 37, 41, 42] 3, .ptr h3.n 0, .sl h4.n 0 l.length (.ex l.length), .int .i64 k, vr, e.s [0, 2, 3, 4, 5, 6, 7, 8, 9, 10, 11, 28, 29, 30, 36, 37, 41, 42] 8, e.s [0, 2, 3, 4, 5, 6, 7, 8, 9, 10, 11, 28, 29, 30, 36, 37, 41, 42] 9, e.s [0, 2, 3, 4, 5, 6, 7, 8, 9, 10, 11, 28, 29, 30, 36, 37, 41, 42] 10, e.s [0, 2, 3, 4, 5, 6, 7, 8, 9, 10, 11, 28, 29, 30, 36, 37, 41, 42] 11, vO, .int .i64 32, .int .i64 k, .int .i64 (cx k), .int .i64 0, e.s [0, 2, 3, 4, 5, 6, 7, 8, 9, 10, 11, 28, 29, 30, 36, 37, 41, 42] 41, e.s [0, 2, 3, 4, 5, 6, 7, 8, 9, 10, 11, 28, 29, 30, 36, 37, 41, 42] 42], 37, .int .i64 0⟩) (g := g)
          ⟨Nat.le_refl _, by rw [Nat.sub_self]; exact w, fun b o vr' hia hrd => by rw [t1] at hia; cases hia; rw [t3] at hrd; cases hrd; rfl, by simp, by simp, by simp, by simp, by simp, by simp, by simp, by simp, by simp, by simp, by simp⟩
        obtain ⟨_, w', _, f0, f2, f4, f5, f6, f7, f28, f29, f30, f36, f37⟩ := I
        rw [Nat.sub_zero] at w'
        have w'' : W39 h2 vO l S0 h3.n h4.n (k + 1) 0 g' := by
          obtain ⟨y1, ⟨F', y2, y3⟩, y4, y5⟩ := w'
          rw [curS_next] at y2
          exact ⟨y1, ⟨F', y2, y3⟩, y4, y5⟩
        have z3 : IntKind.i64.wrap ((k : Int) + 1) = ((k + 1 : Nat) : Int) := by rw [wi64 (by omega) (by omega)]; omega
        obtain ⟨m2, hm3⟩ : ∃ m2, m2 = k + 1 := ⟨_, rfl⟩
        rw [← hm3] at z3
        simp [l39_2, e29, e30, hk, show (k : Int) < 32 by omega, e28, t1, t3, rl, e0, e2, e4, e5, a1, f30, z3]
        exact ⟨j, Nat.lt_succ_self j, by omega, by rw [hk2]; exact w'', by simp [f0], by simp [f2], by simp [f4], by simp [f5], by simp [f28], by simp [f29], by rw [hk2, ← hm3]; simp⟩)
  obtain ⟨⟨y, e7, g7⟩, a7, rfl, I⟩ := loop 32 ⟨[v, .ptr h.n 0, .int .i64 0, .ptr h3.n 0, .sl h4.n 0 l.length (.ex l.length), .tup [], .tup [], .tup [], .tup [], .tup [], .tup [], vO, .int .i64 32, .int .i64 0, .tup [], .tup [], .tup [], .tup []], 30, .int .i64 0⟩ h5 ⟨Nat.le_refl _, ⟨(x3.trans x4).trans x5, ⟨_, W5, fun b hb => ⟨hb.1, by omega, by omega, by omega⟩⟩, r45, _, r5, by rw [reps_len]; simp⟩, by simp, by simp, by simp, by simp, by simp, by simp, by simp⟩
  obtain ⟨_, ⟨X7, ⟨F, W7, hF7⟩, b47, _⟩, f0, f2, f4, _⟩ := I
  simp only at f0 f2 f4 X7 W7 hF7 b47
  rw [Nat.sub_zero, curS_all] at W7
  have r7 : g7.get h.n = some (.cells [.nils] 25 false) := by rw [X7.get _ (by omega), x2.get _ (by omega), r1]
  obtain ⟨h8, hh8⟩ : ∃ g, g = g7.put h.n (.cells [vO] 25 false) := ⟨_, rfl⟩
  have hw8 : g7.wrN h.n 0 [vO] = some h8 := by rw [wrN_of r7 (by simp), hh8]; rfl
  have r8 : h8.get h.n = some (.cells [vO] 25 false) := by rw [hh8, get_put_same (H.get_lt r7)]
  have Al := A.len
  rw [w39, f39, s39]
  simp [nw, ← hh1, Al, show ¬ (l.length : Int) = 0 by omega, show ¬ l.length = 0 by omega, show l ≠ [] by (rintro rfl; simp at hl0), gl_t, gk_t, e64, p1', p3, e38, hcO, hst4, hms, rd1_of r45, lO, a7, f4, rdN_of (o := 0) (n := 1) b47 (by simp), f2, hw8, rdN_of (o := 0) (n := 1) r8 (by simp)]
  refine ⟨vO, rfl, ?_, ?_⟩
  · refine (W7.keep (h' := h8) fun b hb _ => ?_).mono fun b _ hb => by have := hF7 b hb; show h.n ≤ b; omega
    rw [hh8, get_put_ne (by have := hF7 b hb; omega)]
  · refine ⟨by rw [hh8, H.n_put]; have := X7.n; omega, fun c hc => ?_⟩
    rw [hh8, get_put_ne (by omega), X7.get c (by omega), x2.get c (by omega), x1.get c hc]
end Go.Proofs.Ytfjghgjkpenanaa
