/- Arguments: lists of what is to be coded, bytes. -/
import Derived.Test.YtfjghgjkpenanaaSae
import Derived.Test.YtfjghgjkpenanaaZArg
import Derived.SizedLaws
import Derived.OpenShut
set_option linter.unusedVariables false
set_option linter.unusedSimpArgs false
set_option maxRecDepth 20000
namespace Go.Proofs.Ytfjghgjkpenanaa
open Go Go.Zf Go.RowKit Go.WideShapes

structure Dd where
  b : Bool
  n : Int
  k : Int
  c : Int
  v : Int
instance : Inhabited Dd := ⟨⟨false, 0, 0, 0, 0⟩⟩
def Dd.cells (x : Dd) : List V := [.bool x.b, .int .i64 x.n, .int .i64 x.k, .int .i64 x.c, .int .i64 x.v]
def fit (n : Int) : Prop := -9223372036854775808 ≤ n ∧ n < 9223372036854775808
def Dd.fit (x : Dd) : Prop := Go.Proofs.Ytfjghgjkpenanaa.fit x.n ∧ Go.Proofs.Ytfjghgjkpenanaa.fit x.k ∧ Go.Proofs.Ytfjghgjkpenanaa.fit x.c ∧ Go.Proofs.Ytfjghgjkpenanaa.fit x.v
/-- A slice of these. -/
def DosAt (h : H) (v : V) (l : List Dd) : Prop :=
  (v = .nils ∧ l = []) ∨ ∃ b k c e ro, v = .sl b 0 l.length k ∧ h.get b = some (.cells c e ro) ∧ ∀ (i : Nat) (x : Dd), l[i]? = some x → x.fit ∧ i * 5 + 5 ≤ c.length ∧ (c.drop (i * 5)).take 5 = x.cells
theorem DosAt.ext {h h' : H} {v : V} {l : List Dd} (a : DosAt h v l) (x : Ext h h') : DosAt h' v l := by
  rcases a with a | ⟨b, k, c, e, ro, h1, h2, h3⟩
  · exact .inl a
  · exact .inr ⟨b, k, c, e, ro, h1, by rw [x.get b (H.get_lt h2), h2], h3⟩
theorem DosAt.len {h : H} {v : V} {l : List Dd} (a : DosAt h v l) : lnS v = some (.int .i64 l.length) := by
  rcases a with ⟨rfl, rfl⟩ | ⟨b, k, c, e, ro, rfl, h2, h3⟩ <;> simp
theorem DosAt.at {h : H} {v : V} {l : List Dd} (a : DosAt h v l) {i : Nat} {x : Dd} (hx : l[i]? = some x) :
    x.fit ∧ ∃ b o, iaS 5 v (.int .i64 i) = some (.ptr b o) ∧ h.rdN b o 5 = some x.cells ∧ h.rd1 b (o + 2) = some (.int .i64 x.k) ∧ h.rd1 b (o + 3) = some (.int .i64 x.c) ∧ h.rd1 b (o + 4) = some (.int .i64 x.v) := by
  rcases a with ⟨rfl, rfl⟩ | ⟨b, k, c, e, ro, rfl, h2, h3⟩
  · simp at hx
  · have hl := lt_of_get hx
    obtain ⟨h4, h5, h6⟩ := h3 i x hx
    have hg : ∀ j, j < 5 → h.rd1 b (i * 5 + j) = x.cells[j]? := fun j hj => by
      rw [rd1_of h2, ← h6, List.getElem?_take, if_pos hj, List.getElem?_drop]
    exact ⟨h4, b, i * 5, by simp [hl], by rw [rdN_of h2 h5, h6], hg 2 (by omega), hg 3 (by omega), hg 4 (by omega)⟩

theorem cells43 : Try.prog.cellsOf 43 = 5 := by kernel_rfl
theorem cells3 : Try.prog.cellsOf 3 = 1 := by kernel_rfl
theorem cells4 : Try.prog.cellsOf 4 = 1 := by kernel_rfl
def qDo (g : Nat → V) : Prop := ∃ x : Dd, x.fit ∧ g 0 = .bool x.b ∧ g 1 = .int .i64 x.n ∧ g 2 = .int .i64 x.k ∧ g 3 = .int .i64 x.c ∧ g 4 = .int .i64 x.v
theorem wf_i64 {n : Int} (h : (Lit.int .i64 n).wf = true) : fit n := by
  simp [Lit.wf, IntKind.min, IntKind.max, IntKind.signed, IntKind.bits] at h
  unfold fit; omega

theorem five {cs : List Value} (h : cs.length = 5) : ∃ a b c d e, cs = [a, b, c, d, e] := by
  match cs, h with
  | [a, b, c, d, e], _ => exact ⟨a, b, c, d, e, rfl⟩

/-- What a law's argument of these is. -/
theorem argDos {i : Inj} {h : H} {w : World} (a : ArgH i h w) {Hd : Type} {enc : TypeId × Value → Hd} {r : Reach} {b0 : Nat} {v : Value} {d : DataW Hd} {ps : List MemPlace}
    (hok : Value.okWide Try.prog w r b0 22 v) (hd : DataW.Trod enc Try.prog w 0 (fun _ => true) true 22 v d ps) :
    ∃ i' h' x l, ArgH i' h' w ∧ i.le i' ∧ VRel i' x v ∧ DosAt h' x l ∧ Ext h h' ∧ l.length < 9223372036854775808 ∧ ∀ m, m ≤ l.length → ∃ y, slS 5 x none (some (.int .i64 (m : Nat))) none = some y ∧ DosAt h' y (l.take m) := by
  rcases open_cells (z := 5) (Q := qDo) Try.underlying22 cells43 (by decide) hok hd (fun n cs y hy => by
    obtain ⟨xs, k, rfl, _, hcl, hxl, hf⟩ := DataW.trod_struct Try.underlying43 hy
    rw [cells43] at hcl
    obtain ⟨u0, u1, u2, u3, u4, rfl⟩ := five hcl
    have hx : ∀ j, j < 5 → ∃ y, xs[j]? = some y := fun j hj => ⟨xs[j]'(by rw [hxl]; exact hj), by simp⟩
    have g0 := hf 0 _ rfl
    have g1 := hf 1 _ rfl
    have g2 := hf 2 _ rfl
    have g3 := hf 3 _ rfl
    have g4 := hf 4 _ rfl
    obtain ⟨y0, hy0⟩ := hx 0 (by omega)
    obtain ⟨y1, hy1⟩ := hx 1 (by omega)
    obtain ⟨y2, hy2⟩ := hx 2 (by omega)
    obtain ⟨y3, hy3⟩ := hx 3 (by omega)
    obtain ⟨y4, hy4⟩ := hx 4 (by omega)
    rw [hy0] at g0; rw [hy1] at g1; rw [hy2] at g2; rw [hy3] at g3; rw [hy4] at g4
    simp [cells3, cells4] at g0 g1 g2 g3 g4
    obtain ⟨b, e0, _⟩ := DataW.trod_bool Try.underlying4 g0
    obtain ⟨n1, e1, _, f1⟩ := DataW.trod_int Try.underlying3 g1
    obtain ⟨n2, e2, _, f2⟩ := DataW.trod_int Try.underlying3 g2
    obtain ⟨n3, e3, _, f3⟩ := DataW.trod_int Try.underlying3 g3
    obtain ⟨n4, e4, _, f4⟩ := DataW.trod_int Try.underlying3 g4
    simp at e0 e1 e2 e3 e4
    subst e0 e1 e2 e3 e4
    refine ⟨fun j => if j = 0 then .bool b else if j = 1 then .int .i64 n1 else if j = 2 then .int .i64 n2 else if j = 3 then .int .i64 n3 else .int .i64 n4, fun j hj => ?_, ⟨b, n1, n2, n3, n4⟩, ⟨wf_i64 f1, wf_i64 f2, wf_i64 f3, wf_i64 f4⟩, rfl, rfl, rfl, rfl, rfl⟩
    match j, hj with
    | 0, _ => exact ⟨rfl, _, rfl, fun _ => .bool _⟩
    | 1, _ => exact ⟨rfl, _, rfl, fun _ => .int _ _⟩
    | 2, _ => exact ⟨rfl, _, rfl, fun _ => .int _ _⟩
    | 3, _ => exact ⟨rfl, _, rfl, fun _ => .int _ _⟩
    | 4, _ => exact ⟨rfl, _, rfl, fun _ => .int _ _⟩)
    (fun g g' hg ⟨x, q1, q2, q3, q4, q5, q6⟩ => ⟨x, q1, by rw [← hg 0 (by decide), q2], by rw [← hg 1 (by decide), q3], by rw [← hg 2 (by decide), q4], by rw [← hg 3 (by decide), q5], by rw [← hg 4 (by decide), q6]⟩) with rfl | ⟨B, off, len, cap, G, C, e', fr, rfl, s, els, sp, hd1, hd2⟩
  · exact ⟨i, h, .nils, [], a, fun _ _ h => h, .nils, .inl ⟨rfl, rfl⟩, Ext.refl h, by decide, fun m hm => ⟨.nils, by
      have : m = 0 := by simpa using hm
      subst this; rfl, .inl ⟨rfl, by simp⟩⟩⟩
  · obtain ⟨i', h1, h2, h3⟩ := a.slice s
    have hch : ∀ m, m < cap → ∃ x : Dd, x.fit ∧ G (m * 5) = .bool x.b ∧ G (m * 5 + 1) = .int .i64 x.n ∧ G (m * 5 + 2) = .int .i64 x.k ∧ G (m * 5 + 3) = .int .i64 x.c ∧ G (m * 5 + 4) = .int .i64 x.v := fun m hm => by
      obtain ⟨x, q1, q2, q3, q4, q5, q6⟩ := s.el m hm
      exact ⟨x, q1, q2, q3, q4, q5, q6⟩
    obtain ⟨q, hq⟩ := Go.Deep.choose_lt hch
    have hle := s.le
    have hmx := s.max
    have hall : ∀ (m : Nat) (x : Dd), ((List.range len).map q)[m]? = some x → x.fit ∧ m * 5 + 5 ≤ ((List.range (cap * 5)).map G).length ∧ (((List.range (cap * 5)).map G).drop (m * 5)).take 5 = x.cells := fun m x hm => by
      have hml : m < len := by have := lt_of_get hm; simpa using this
      have hqm : q m = x := by simp [hml] at hm; exact hm
      obtain ⟨q1, q2, q3, q4, q5, q6⟩ := hq m (by omega)
      rw [hqm] at q1 q2 q3 q4 q5 q6
      refine ⟨q1, by simp; omega, ?_⟩
      apply List.ext_getElem?
      intro j
      simp only [List.getElem?_take, List.getElem?_drop, List.getElem?_map, Dd.cells]
      match j with
      | 0 => simp [show m * 5 < cap * 5 by omega, q2]
      | 1 => simp [show m * 5 + 1 < cap * 5 by omega, q3]
      | 2 => simp [show m * 5 + 2 < cap * 5 by omega, q4]
      | 3 => simp [show m * 5 + 3 < cap * 5 by omega, q5]
      | 4 => simp [show m * 5 + 4 < cap * 5 by omega, q6]
      | j + 5 => simp; omega
    refine ⟨i', _, _, (List.range len).map q, h1, h2, h3, .inr ⟨h.n, .ex cap, _, _, _, by simp, get_new_same, hall⟩, (Ext.refl h).new _, by simp only [maxLen] at hmx; simp; omega, fun m hm => ?_⟩
    have hm' : m ≤ len := by simpa using hm
    refine ⟨.sl h.n 0 m (.ex cap), by simp [slS, sbV, optB, show (m : Int) ≤ cap by omega, show m ≤ cap by omega], .inr ⟨h.n, .ex cap, _, _, _, by simp [Nat.min_eq_left hm'], get_new_same, fun i x hx => ?_⟩⟩
    rw [List.getElem?_take] at hx
    split at hx
    · exact hall i x hx
    · cases hx
end Go.Proofs.Ytfjghgjkpenanaa
