/- Arguments; the laws' helpers: Bring, stretched, fitting, directs, copies. -/
import Derived.Test.YtpjcmgmmolediaaIj
import Derived.OpenShut
set_option linter.unusedVariables false
set_option linter.unusedSimpArgs false
namespace Go.Proofs.Ytpjcmgmmolediaa
open Go Go.Zf Go.RowKit Go.WideShapes

theorem w18 (p0 p1 : V) (h : H) : KW 18 [p0, p1] h = f18 KW loopZ p0 p1 h := (callW_eqF _ _ _ _ _ _ rfl).trans (congrFun (congrFun (congrFun (congrFun (congrFun (r18) _) _) p0) p1) h)
theorem w45 (p0 p1 : V) (h : H) : KW 45 [p0, p1] h = f45 KW loopZ p0 p1 h := (callW_eqF _ _ _ _ _ _ rfl).trans (congrFun (congrFun (congrFun (congrFun (congrFun (r45) _) _) p0) p1) h)
theorem w19 (p0 p1 : V) (h : H) : KW 19 [p0, p1] h = f19 KW loopZ p0 p1 h := (callW_eqF _ _ _ _ _ _ rfl).trans (congrFun (congrFun (congrFun (congrFun (congrFun (r19) _) _) p0) p1) h)
theorem w22 (p0 p1 : V) (h : H) : KW 22 [p0, p1] h = f22 KW loopZ p0 p1 h := (callW_eqF _ _ _ _ _ _ rfl).trans (congrFun (congrFun (congrFun (congrFun (congrFun (r22) _) _) p0) p1) h)
theorem w25 (p0 : V) (h : H) : KW 25 [p0] h = f25 KW loopZ p0 h := (callW_eqF _ _ _ _ _ _ rfl).trans (congrFun (congrFun (congrFun (congrFun (r25) _) _) p0) h)
theorem w11 (p0 : V) (h : H) : KW 11 [p0] h = f11 KW loopZ p0 h := (callW_eqF _ _ _ _ _ _ rfl).trans (congrFun (congrFun (congrFun (congrFun (r11) _) _) p0) h)
theorem w16 (p0 p1 : V) (h : H) : KW 16 [p0, p1] h = f16 KW loopZ p0 p1 h := (callW_eqF _ _ _ _ _ _ rfl).trans (congrFun (congrFun (congrFun (congrFun (congrFun (r16) _) _) p0) p1) h)

theorem ldV25 (h : H) (v : V) : ldV Try.prog 25 h v = ldn 5 h v := by
  cases v <;> first | rfl | kernel_rfl
theorem resVs25 (s : Nat → V) (h : H) (a : Nat) (rs : List ResultVar) : resVs Try.prog s h (.cell a 25 :: rs) = bd (ldn 5 h (s a)) fun v => bd (resVs Try.prog s h rs) fun vs => some (v :: vs) := by
  show bd (ldV Try.prog 25 h (s a)) _ = _
  rw [ldV25]

theorem cellTypes25 : Try.prog.cellTypes Try.prog.depth 25 = some [4, 4, 23, 23, 5] := by kernel_rfl
theorem cellsOf25 : Try.prog.cellsOf 25 = 5 := by kernel_rfl
theorem cellsOf23 : Try.prog.cellsOf 23 = 1 := by kernel_rfl
theorem cellsOf4 : Try.prog.cellsOf 4 = 1 := by kernel_rfl
theorem cellsOf5 : Try.prog.cellsOf 5 = 1 := by kernel_rfl

theorem okWide_sl {w : World} {r : Reach} {b : Nat} {v : Value} (h : Cell.okWide Try.prog w r b 23 v) : Value.okWide Try.prog w r b 23 v := by
  unfold Value.okWide; rw [Try.underlying23]; exact h
theorem okWide_bl {w : World} {r : Reach} {b : Nat} {v : Value} (h : Cell.okWide Try.prog w r b 4 v) : Value.okWide Try.prog w r b 4 v := by
  unfold Value.okWide; rw [Try.underlying4]; exact h
theorem okWide_u8 {w : World} {r : Reach} {b : Nat} {v : Value} (h : Cell.okWide Try.prog w r b 5 v) : Value.okWide Try.prog w r b 5 v := by
  unfold Value.okWide; rw [Try.underlying5]; exact h

/-- A law's argument of edges. -/
theorem argEdges {i : Inj} {h : H} {w : World} (a : ArgH i h w) {Hd : Type} {enc : TypeId × Value → Hd} {r : Reach} {b0 : Nat} {v : Value} {d : DataW Hd} {ps : List MemPlace}
    (hok : Value.okWide Try.prog w r b0 25 v) (hd : DataW.Trod enc Try.prog w 0 (fun _ => true) true 25 v d ps) :
    ∃ i' h' ha hl A L, ∃ c : Nat, ∃ la ll, ArgH i' h' w ∧ i.le i' ∧ VRel i' (.agg (edges ha hl A L c)) v ∧ ByAt h' A la ∧ ByAt h' L ll ∧ Ext h h' ∧ c < 256 ∧ la.length < 9223372036854775808 ∧ ll.length < 9223372036854775808 ∧
      ∃ xs, d = .agg xs ∧ (la = [] ∨ ∃ elems spare, xs[2]? = some (.slice elems spare) ∧ elems.length = la.length) ∧ (ll = [] ∨ ∃ elems spare, xs[3]? = some (.slice elems spare) ∧ elems.length = ll.length) := by
  unfold Value.okWide at hok
  rw [Try.underlying25] at hok
  obtain ⟨cs, rfl, hcs, ts, hts, _, hrow⟩ := hok
  rw [cellTypes25] at hts
  cases hts
  rw [cellsOf25] at hcs
  obtain ⟨fuel, hf⟩ := hd
  obtain ⟨xs, k, rfl, hx, hcl, hxl, hfs⟩ := DataW.trod_struct Try.underlying25 hf
  obtain ⟨l⟩ := cs
  match l, hcs with
  | [u0, u1, u2, u3, u4], _ =>
    have o0 := hrow 0 u0 rfl
    have o1 := hrow 1 u1 rfl
    have o2 := hrow 2 u2 rfl
    have o3 := hrow 3 u3 rfl
    have o4 := hrow 4 u4 rfl
    simp at o0 o1 o2 o3 o4
    have f0 := hfs 0 _ rfl
    have f1 := hfs 1 _ rfl
    have f2 := hfs 2 _ rfl
    have f3 := hfs 3 _ rfl
    have f4 := hfs 4 _ rfl
    have gx : ∀ j, j < 5 → ∃ y, xs[j]? = some y := fun j hj => ⟨xs[j]'(by rw [hxl]; exact hj), by simp⟩
    obtain ⟨y0, e0⟩ := gx 0 (by omega)
    obtain ⟨y1, e1⟩ := gx 1 (by omega)
    obtain ⟨y2, e2⟩ := gx 2 (by omega)
    obtain ⟨y3, e3⟩ := gx 3 (by omega)
    obtain ⟨y4, e4⟩ := gx 4 (by omega)
    rw [e0] at f0
    rw [e1] at f1
    rw [e2] at f2
    rw [e3] at f3
    rw [e4] at f4
    simp [cellsOf4, cellsOf23, cellsOf5, Value.cells] at f0 f1 f2 f3 f4
    obtain ⟨b0', q0, _⟩ := DataW.trod_bool Try.underlying4 f0
    obtain ⟨b1', q1, _⟩ := DataW.trod_bool Try.underlying4 f1
    obtain ⟨n4, q4, _, w4⟩ := DataW.trod_int Try.underlying5 f4
    simp at q0 q1 q4
    obtain ⟨c, hc, rfl⟩ := wf_u8 w4
    subst q0 q1 q4
    obtain ⟨a1, a2, a3, s2⟩ := okWide_slice Try.underlying23 (okWide_sl o2)
    obtain ⟨b1, b2, b3, s3⟩ := okWide_slice Try.underlying23 (okWide_sl o3)
    have t2 : DataW.Trod enc Try.prog w 0 (fun _ => true) true 23 u2 y2.1 y2.2 := ⟨k, by subst s2; exact f2⟩
    have t3 : DataW.Trod enc Try.prog w 0 (fun _ => true) true 23 u3 y3.1 y3.2 := ⟨k, by subst s3; exact f3⟩
    obtain ⟨i1, h1, A, la, A1, A2, A3, A4, A5, A6, A7⟩ := argBy Try.underlying23 Try.underlying5 cellsOf5 a (okWide_sl o2) t2
    obtain ⟨i2, h2, L, ll, B1, B2, B3, B4, B5, B6, B7⟩ := argBy Try.underlying23 Try.underlying5 cellsOf5 A1 (okWide_sl o3) t3
    refine ⟨i2, h2, b0', b1', A, L, c, la, ll, B1, fun b x hb => B2 b x (A2 b x hb), ?_, A4.ext B5, B4, A5.trans B5, hc, A6, B6, _, (Prod.ext_iff.mp hx).1, ?_, ?_⟩
    · refine .agg (.cons (.bool _) (.cons (.bool _) (.cons (A3.mono B2) (.cons B3 (.cons (.int _ _) .nil))))) ?_
      show (true && (true && (A.isCell && (L.isCell && (true && true))))) = true
      rw [A4.cell, B4.cell]; rfl
    · rcases A7 with h | ⟨els, sp, g1, g2⟩
      · exact .inl h
      · exact .inr ⟨els, sp, by simp [e2, g1], g2⟩
    · rcases B7 with h | ⟨els, sp, g1, g2⟩
      · exact .inl h
      · exact .inr ⟨els, sp, by simp [e3, g1], g2⟩

/-- Bring: a number below n. -/
theorem bring18_ok (x n : Int) (h : H) (n0 : 0 < n) (n1 : n ≤ 1000) (x0 : -9223372036854775808 ≤ x) (x1 : x < 9223372036854775808) : ∃ r : Nat, (r : Int) < n ∧ KW 18 [.int .i64 x, .int .i64 n] h = some (.ret (.int .i64 (r : Int)), h) := by
  have q1 := Int.tmod_lt_of_pos x n0
  have q2 : -n < x.tmod n := by
    by_cases hx : 0 ≤ x
    · have := Int.tmod_nonneg n hx; omega
    · have e : x.tmod n = -((-x).tmod n) := by rw [Int.neg_tmod, Int.neg_neg]
      have := Int.tmod_lt_of_pos (-x) n0
      omega
  rw [w18, f18, s18]
  by_cases hx : x.tmod n < 0
  · have z : IntKind.i64.wrap (x.tmod n + n) = x.tmod n + n := Go.Zf.wi64 (by omega) (by omega)
    refine ⟨(x.tmod n + n).toNat, by omega, ?_⟩
    simp [show ¬ n ≤ 0 by omega, show ¬ n = 0 by omega, hx, z]
    omega
  · refine ⟨(x.tmod n).toNat, by omega, ?_⟩
    simp [show ¬ n ≤ 0 by omega, show ¬ n = 0 by omega, hx]
    omega

def strB (l : List Nat) (i : Nat) : Nat := if l.length = 0 then 9 * i % 256 else l.getD (i % l.length) 0
def strL (l : List Nat) (n : Nat) : List Nat := (List.range n).map (strB l)
theorem strL_length (l : List Nat) (n : Nat) : (strL l n).length = n := by simp [strL]
theorem strL_get (l : List Nat) (n i : Nat) (h : i < n) : (strL l n).getD i 0 = strB l i := by simp [strL, h]
theorem strB_lt {l : List Nat} (hl : ∀ i : Nat, i < l.length → l.getD i 0 < 256) (i : Nat) : strB l i < 256 := by
  unfold strB; split
  · omega
  · exact hl _ (Nat.mod_lt _ (by omega))

structure I45 (h : H) (v : V) (l : List Nat) (m : Nat) (j : Nat) (en : E) (g : H) : Prop where
  hj : j ≤ m
  x : Ext h g
  o : g.get h.n = some (.cells (fillTo (fun k => .int .u8 (strB l k : Nat)) (.int .u8 0) m (m - j)) 5 false)
  p0 : en.s [0, 1, 4, 5, 6] 0 = v
  p1 : en.s [0, 1, 4, 5, 6] 1 = .int .i64 m
  p5 : en.s [0, 1, 4, 5, 6] 5 = .sl h.n 0 m (.ex m)
  p6 : en.s [0, 1, 4, 5, 6] 6 = .int .i64 ((m - j : Nat) : Int)

theorem stretched45_ok {h : H} {v : V} {l : List Nat} (a : ByAt h v l) (hl : l.length < 9223372036854775808) {m : Nat} (hm : m ≤ 64) :
    RT (fun w h' => Ext h h' ∧ w = .sl h.n 0 m (.ex m) ∧ h'.get h.n = some (.cells (bytesV (strL l m)) 5 false)) (KW 45 [v, .int .i64 m] h) := by
  rw [w45, f45, s45]
  simp [ms, show (m : Int) ≤ 140737488355328 by omega, show m ≤ 140737488355328 by omega, show (m : Int) < 9223372036854775808 by omega, show m < 9223372036854775808 by omega, reps_one]
  refine loop_in (C := fun o => RT _ (fin _ _ _ (sq (blk _ o) _))) (I45 h v l m) (fun st => st.x = .ex 0 ∧ I45 h v l m 0 st.e st.h) ?_ m ⟨Nat.le_refl _, (Ext.refl h).new _, by rw [get_new_same, Nat.sub_self, fillTo_zero], by simp, by simp, by simp, by simp⟩ ?_
  · intro j en g ⟨hj, x, o, p0, p1, p5, p6⟩
    cases j with
    | zero =>
      simp [l45_0, p1, p6]
      exact ⟨rfl, hj, x, o, by simpa using p0, by simp, by simpa using p5, by simp⟩
    | succ j =>
      obtain ⟨k, hk⟩ : ∃ k, k = m - (j + 1) := ⟨_, rfl⟩
      have hk2 : m - j = k + 1 := by omega
      rw [← hk] at o p6
      have z1 : IntKind.i64.wrap (9 * (k : Int)) = 9 * k := Go.Zf.wi64 (by omega) (by omega)
      obtain ⟨y9, hy9⟩ : ∃ y, y = 9 * k % 256 := ⟨_, rfl⟩
      have z2 : IntKind.u8.wrap (9 * (k : Int)) = (y9 : Int) := by
        rw [hy9]; unfold IntKind.wrap; simp [IntKind.bits, IntKind.signed]
      have z3 : IntKind.i64.wrap ((k : Int) + 1) = k + 1 := Go.Zf.wi64 (by omega) (by omega)
      have hlen : k < (fillTo (fun k => V.int .u8 (strB l k : Nat)) (.int .u8 0) m k).length := by rw [fillTo_length]; omega
      have hset := fillTo_set (fun k => V.int .u8 (strB l k : Nat)) (.int .u8 0) m k
      have hob := H.get_lt o
      have aL := a.ext x
      obtain ⟨cs, hcs⟩ : ∃ cs, cs = fillTo (fun k => V.int .u8 (strB l k : Nat)) (.int .u8 0) m k := ⟨_, rfl⟩
      rw [← hcs] at o hlen hset
      by_cases hl0 : l.length = 0
      · have hb : strB l k = y9 := by unfold strB; rw [if_pos hl0, hy9]
        rw [hb] at hset
        simp [l45_0, p1, p6, show (k : Int) < m by omega, show k < m by omega, z1, z2, p5, wr1_of o hlen, p0, aL.len, hl0, z3]
        refine ⟨j, Nat.lt_succ_self j, by omega, x.put (Nat.le_refl _) _, ?_, by simp [p0], by simp, by simp, by simp [hk2]⟩
        rw [get_put_same hob, hk2, ← hset]
      · have hb : strB l k = l.getD (k % l.length) 0 := by unfold strB; rw [if_neg hl0]
        have hmod : k % l.length < l.length := Nat.mod_lt _ (by omega)
        have q1 : (k : Int).tmod (l.length : Int) = ((k % l.length : Nat) : Int) := by rw [Int.tmod_eq_emod_of_nonneg (by omega)]; rfl
        obtain ⟨r, hr⟩ : ∃ r, r = k % l.length := ⟨_, rfl⟩
        rw [← hr] at hb hmod q1
        obtain ⟨b, o', g1, g2, g3⟩ := aL.at_ _ hmod
        obtain ⟨b', o'', g1', g2', g3'⟩ := a.at_ _ hmod
        rw [g1] at g1'
        cases g1'
        have o2 : ∀ y, (g.put h.n (Blk.cells (cs.set k y) 5 false)).get h.n = some (.cells (cs.set k y) 5 false) := fun y => get_put_same hob
        have g4 : ∀ y, (g.put h.n y).rd1 b o' = some (.int .u8 (l.getD r 0 : Nat)) := fun y => by rw [← g2]; unfold H.rd1; rw [get_put_ne (by omega)]
        rw [hb] at hset
        obtain ⟨z, hz⟩ : ∃ z, z = l.getD r 0 := ⟨_, rfl⟩
        rw [← hz] at hset g4
        simp [l45_0, p1, p6, show (k : Int) < m by omega, show k < m by omega, z1, z2, p5, wr1_of o hlen, p0, aL.len, show ¬ (l.length : Int) = 0 by omega, show 0 < l.length by omega, q1, g1, g4, fun y v => wr1_of (v := v) (o2 y) (show k < _ by rw [List.length_set]; exact hlen), z3, hl0]
        refine ⟨j, Nat.lt_succ_self j, by omega, (x.put (Nat.le_refl _) _).put (Nat.le_refl _) _, ?_, by simp [p0], by simp, by simp, by simp [hk2]⟩
        rw [get_put_same (by rw [H.n_put]; exact hob), hk2, ← hset]
  · rintro ⟨x1, en, g⟩ ⟨hx, hj, x, o, p0, p1, p5, p6⟩
    simp only at hx x o p5
    subst hx
    simp [p5]
    simp only [Nat.sub_zero, fillTo_all] at o
    exact ⟨x, rfl, by rw [o]; simp [bytesV, strL]⟩

theorem strL_by {h : H} {b m : Nat} {k : Cap} {l : List Nat} (hl : ∀ i : Nat, i < l.length → l.getD i 0 < 256) (hb : h.get b = some (.cells (bytesV (strL l m)) 5 false)) : ByAt h (.sl b 0 m k) (strL l m) := by
  have := ByAt.of (k := k) hb (fun i hi => by rw [strL_length] at hi; rw [strL_get l m i hi]; exact strB_lt hl i)
  rw [strL_length] at this
  exact this

def fitL (has : Bool) (l : List Nat) (n : Nat) : List Nat := if has then strL l n else []
theorem fitting19_ok {h : H} {ha hl : Bool} {A L : V} {a l : List Nat} {c : Int} (aA : ByAt h A a) (aL : ByAt h L l) (la : a.length < 9223372036854775808) (ll : l.length < 9223372036854775808) {m : Nat} (hm : m ≤ 64) :
    RT (fun w h' => Ext h h' ∧ ∃ A' L', w = .agg (edges ha hl A' L' c) ∧ ByAt h' A' (fitL ha a m) ∧ ByAt h' L' (fitL hl l m) ∧ Fresh h.n A' ∧ Fresh h.n L') (KW 19 [.agg (edges ha hl A L c), .int .i64 m] h) := by
  unfold edges
  obtain ⟨h1, hh1⟩ : ∃ g, g = (h.new (.cells [.bool ha, .bool hl, A, L, .int .u8 c] 25 false)).new (.cells [.bool false, .bool false, .nils, .nils, .int .u8 0] 25 false) := ⟨_, rfl⟩
  have x1 : Ext h h1 := by rw [hh1]; exact ((Ext.refl h).new _).new _
  have hn1 : h1.n = h.n + 2 := by rw [hh1]; simp only [H.n_new]
  have g0 : h1.get h.n = some (.cells [.bool ha, .bool hl, A, L, .int .u8 c] 25 false) := by rw [hh1, get_new_lt (by rw [H.n_new]; omega), get_new_same]
  have g1 : h1.get (h.n + 1) = some (.cells [.bool false, .bool false, .nils, .nils, .int .u8 0] 25 false) := by rw [hh1, get_new_eq (by rw [H.n_new])]
  obtain ⟨h2, hh2⟩ : ∃ g, g = (h1.new (.cells [.bool false, .bool false, .nils, .nils, .int .u8 0] 25 false)).put h1.n (.cells [.bool ha, .bool hl, .nils, .nils, .int .u8 c] 25 false) := ⟨_, rfl⟩
  have x2 : Ext h1 h2 := by rw [hh2]; exact ((Ext.refl h1).new _).put (Nat.le_refl _) _
  have g2 : h2.get h1.n = some (.cells [.bool ha, .bool hl, .nils, .nils, .int .u8 c] 25 false) := by rw [hh2, get_put_same (by rw [H.n_new]; omega)]
  have g0' : h2.get h.n = _ := (x2.get _ (H.get_lt g0)).trans g0
  have g1' : h2.get (h.n + 1) = _ := (x2.get _ (H.get_lt g1)).trans g1
  have X2 := x1.trans x2
  have z0 : V.same (.bool ha) (.bool ha) = true := by simp [V.same]
  have gf : ∀ (h' : H) (A' L' : V), h'.get h1.n = some (.cells [.bool ha, .bool hl, A', L', .int .u8 c] 25 false) → h'.get (h.n + 1) = some (.cells [.bool false, .bool false, .nils, .nils, .int .u8 0] 25 false) →
      ∃ h'', h'.rdN h1.n 0 5 = some [.bool ha, .bool hl, A', L', .int .u8 c] ∧ h'.wrN (h.n + 1) 0 [.bool ha, .bool hl, A', L', .int .u8 c] = some h'' ∧ h''.rdN (h.n + 1) 0 5 = some [.bool ha, .bool hl, A', L', .int .u8 c] ∧ h'' = h'.put (h.n + 1) (.cells [.bool ha, .bool hl, A', L', .int .u8 c] 25 false) := by
    intro h' A' L' e1 e2
    refine ⟨_, by rw [rdN_of e1 (by simp)]; rfl, by rw [wrN_of e2 (by simp)]; rfl, ?_, rfl⟩
    rw [rdN_of (get_put_same (H.get_lt e2)) (by simp)]; rfl
  rw [w19, f19, s19]
  cases ha with
  | false =>
    cases hl with
    | false =>
      obtain ⟨h5, q1, q2, q3, q4⟩ := gf h2 .nils .nils g2 g1'
      simp [bx, ← hh1, nw, H.n_new, rd1_of g0, bl, fillW, splice, wrN_of (o := 0) get_new_same, ← hh2, rd1_of g0', q1, q2, resVs25, q3]
      exact ⟨by rw [q4]; exact X2.put (by omega) _, .nils, .nils, rfl, ByAt.nil _, ByAt.nil _, Fresh.nils _, Fresh.nils _⟩
    | true =>
      obtain ⟨v', h3, k1, x3, rfl, k3⟩ := (stretched45_ok (aL.ext X2) ll hm).elim
      have g3 : h3.get h1.n = _ := (x3.get _ (H.get_lt g2)).trans g2
      have g3' : h3.get (h.n + 1) = _ := (x3.get _ (H.get_lt g1')).trans g1'
      obtain ⟨h4, hh4⟩ : ∃ g, g = h3.put h1.n (.cells [.bool false, .bool true, .nils, .sl h2.n 0 m (.ex m), .int .u8 c] 25 false) := ⟨_, rfl⟩
      have hl2 := H.get_lt g2
      have e1 : h4.get h1.n = some (.cells [.bool false, .bool true, .nils, .sl h2.n 0 m (.ex m), .int .u8 c] 25 false) := by rw [hh4, get_put_same (H.get_lt g3)]
      have e2 : h4.get (h.n + 1) = some (.cells [.bool false, .bool false, .nils, .nils, .int .u8 0] 25 false) := by rw [hh4, get_put_ne (by omega), g3']
      obtain ⟨h5, q1, q2, q3, q4⟩ := gf h4 .nils _ e1 e2
      simp [bx, ← hh1, nw, H.n_new, rd1_of g0, bl, fillW, splice, wrN_of (o := 0) get_new_same, ← hh2, rd1_of g0', k1, wr1_of g3, ← hh4, q1, q2, resVs25, q3]
      refine ⟨by rw [q4, hh4]; exact ((X2.trans x3).put (by omega) _).put (by omega) _, .nils, _, rfl, ByAt.nil _, strL_by aL.lt ?_, Fresh.nils _, Fresh.sl (by omega)⟩
      rw [q4, get_put_ne (by omega), hh4, get_put_ne (by omega), k3]
  | true =>
    obtain ⟨v', h3, k1, x3, rfl, k3⟩ := (stretched45_ok (aA.ext X2) la hm).elim
    have g3 : h3.get h1.n = _ := (x3.get _ (H.get_lt g2)).trans g2
    have g3' : h3.get (h.n + 1) = _ := (x3.get _ (H.get_lt g1')).trans g1'
    have g03 : h3.get h.n = _ := (x3.get _ (H.get_lt g0')).trans g0'
    obtain ⟨h4, hh4⟩ : ∃ g, g = h3.put h1.n (.cells [.bool true, .bool hl, .sl h2.n 0 m (.ex m), .nils, .int .u8 c] 25 false) := ⟨_, rfl⟩
    have hl2 := H.get_lt g2
    have e1 : h4.get h1.n = some (.cells [.bool true, .bool hl, .sl h2.n 0 m (.ex m), .nils, .int .u8 c] 25 false) := by rw [hh4, get_put_same (H.get_lt g3)]
    have e2 : h4.get (h.n + 1) = some (.cells [.bool false, .bool false, .nils, .nils, .int .u8 0] 25 false) := by rw [hh4, get_put_ne (by omega), g3']
    have e3 : h4.get h.n = some (.cells [.bool true, .bool hl, A, L, .int .u8 c] 25 false) := by rw [hh4, get_put_ne (by omega), g03]
    have x4 : Ext h h4 := by rw [hh4]; exact (X2.trans x3).put (by omega) _
    have k4 : h4.get h2.n = some (.cells (bytesV (strL a m)) 5 false) := by rw [hh4, get_put_ne (by omega), k3]
    cases hl with
    | false =>
      obtain ⟨h5, q1, q2, q3, q4⟩ := gf h4 _ .nils e1 e2
      simp [bx, ← hh1, nw, H.n_new, rd1_of g0, bl, fillW, splice, wrN_of (o := 0) get_new_same, ← hh2, rd1_of g0', k1, wr1_of g3, ← hh4, rd1_of e3, q1, q2, resVs25, q3]
      refine ⟨by rw [q4]; exact x4.put (by omega) _, _, .nils, rfl, strL_by aA.lt ?_, ByAt.nil _, Fresh.sl (by omega), Fresh.nils _⟩
      rw [q4, get_put_ne (by omega), k4]
    | true =>
      obtain ⟨v', h6, k6, x6, rfl, k7⟩ := (stretched45_ok (aL.ext x4) ll hm).elim
      have g6 : h6.get h1.n = _ := (x6.get _ (H.get_lt e1)).trans e1
      have g6' : h6.get (h.n + 1) = _ := (x6.get _ (H.get_lt e2)).trans e2
      have k4' : h6.get h2.n = _ := (x6.get _ (H.get_lt k4)).trans k4
      have hl4 := H.get_lt k4
      obtain ⟨h7, hh7⟩ : ∃ g, g = h6.put h1.n (.cells [.bool true, .bool true, .sl h2.n 0 m (.ex m), .sl h4.n 0 m (.ex m), .int .u8 c] 25 false) := ⟨_, rfl⟩
      have e1' : h7.get h1.n = some (.cells [.bool true, .bool true, .sl h2.n 0 m (.ex m), .sl h4.n 0 m (.ex m), .int .u8 c] 25 false) := by rw [hh7, get_put_same (H.get_lt g6)]
      have e2' : h7.get (h.n + 1) = some (.cells [.bool false, .bool false, .nils, .nils, .int .u8 0] 25 false) := by rw [hh7, get_put_ne (by omega), g6']
      obtain ⟨h5, q1, q2, q3, q4⟩ := gf h7 _ _ e1' e2'
      simp [bx, ← hh1, nw, H.n_new, rd1_of g0, bl, fillW, splice, wrN_of (o := 0) get_new_same, ← hh2, rd1_of g0', k1, wr1_of g3, ← hh4, rd1_of e3, k6, wr1_of g6, ← hh7, q1, q2, resVs25, q3]
      refine ⟨by rw [q4, hh7]; exact ((x4.trans x6).put (by omega) _).put (by omega) _, _, _, rfl, strL_by aA.lt ?_, strL_by aL.lt ?_, Fresh.sl (by omega), Fresh.sl (by omega)⟩
      · rw [q4, get_put_ne (by omega), hh7, get_put_ne (by omega), k4']
      · rw [q4, get_put_ne (by omega), hh7, get_put_ne (by omega), k7]

def Dirs (mode delta : Int) : Bool := decide (delta = 0) || (decide (1 ≤ mode) && decide (mode ≤ 8))
theorem directs22_ok (mode delta : Int) (h : H) : KW 22 [.int .i64 mode, .int .i64 delta] h = some (.ret (.bool (Dirs mode delta)), h) := by
  rw [w22, f22, s22]
  unfold Dirs
  by_cases c1 : delta = 0
  · simp [c1, gl_t]
  · by_cases c2 : 1 ≤ mode
    · by_cases c3 : mode ≤ 8
      · simp [c1, c2, c3]
      · simp [c1, c2, c3]
    · simp [c1, c2, gl_t]
end Go.Proofs.Ytpjcmgmmolediaa
