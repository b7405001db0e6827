/- SymsAny: the law's core. -/
import Derived.Test.YtfjghgjkpenanaaSah
set_option linter.unusedVariables false
set_option linter.unusedSimpArgs false
set_option maxRecDepth 20000
namespace Go.Proofs.Ytfjghgjkpenanaa
open Go Go.Zf Go.RowKit Go.WideShapes

def qByte (g : Nat → V) : Prop := ∃ n : Nat, n < 256 ∧ g 0 = .int .u8 n
theorem wf_u8 {n : Int} (h : (Lit.int .u8 n).wf = true) : ∃ m : Nat, m < 256 ∧ n = m := by
  simp [Lit.wf, IntKind.min, IntKind.max, IntKind.signed, IntKind.bits] at h
  exact ⟨n.toNat, by omega, by omega⟩
theorem cells5 : Try.prog.cellsOf 5 = 1 := by kernel_rfl
/-- What a law's argument of bytes is. -/
theorem argBytes {i : Inj} {h : H} {w : World} (a : ArgH i h w) {Hd : Type} {enc : TypeId × Value → Hd} {r : Reach} {b0 : Nat} {v : Value} {d : DataW Hd} {ps : List MemPlace}
    (hok : Value.okWide Try.prog w r b0 44 v) (hd : DataW.Trod enc Try.prog w 0 (fun _ => true) true 44 v d ps) :
    ∃ i' h' x l, ArgH i' h' w ∧ i.le i' ∧ VRel i' x v ∧ SlB h' x l ∧ h.n ≤ h'.n ∧ (∀ c, c < h.n → h'.get c = h.get c) ∧ l.length < 9223372036854775808 ∧ (∀ y ∈ l, y < 256) ∧ (l = [] ∨ ∃ elems spare, d = .slice elems spare ∧ elems.length = l.length) ∧
      ∀ m, m ≤ l.length → ∃ y, slS 1 x none (some (.int .i64 (m : Nat))) none = some y ∧ SlB h' y (l.take m) := by
  rcases open_cells (z := 1) (Q := qByte) Try.underlying44 cells5 (by decide) hok hd (fun n cs y hy => by
    obtain ⟨n0, rfl, _, w0⟩ := DataW.trod_int Try.underlying5 hy
    obtain ⟨m0, l0, rfl⟩ := wf_u8 w0
    refine ⟨fun _ => .int .u8 m0, fun j hj => ?_, m0, l0, rfl⟩
    match j, hj with
    | 0, _ => exact ⟨rfl, _, rfl, fun _ => .int _ _⟩)
    (fun g g' hg ⟨n, q1, q2⟩ => ⟨n, q1, by rw [← hg 0 (by decide), q2]⟩) with rfl | ⟨B, off, len, cap, G, C, e', fr, rfl, s, els, sp, hd1, hd2⟩
  · exact ⟨i, h, .nils, [], a, fun _ _ h => h, .nils, .inl ⟨rfl, rfl⟩, Nat.le_refl _, fun _ _ => rfl, by decide, by simp, .inl rfl, fun m hm => ⟨.nils, by
      have : m = 0 := by simpa using hm
      subst this; rfl, .inl ⟨rfl, by simp⟩⟩⟩
  · obtain ⟨i', h1, h2, h3⟩ := a.slice s
    have hch : ∀ m, m < cap → ∃ q : Nat, q < 256 ∧ G m = .int .u8 q := fun m hm => by
      obtain ⟨n, q1, q2⟩ := s.el m hm
      exact ⟨n, q1, by simpa using q2⟩
    obtain ⟨q, hq⟩ := Go.Deep.choose_lt hch
    have hle := s.le
    have hmx := s.max
    refine ⟨i', _, _, (List.range len).map q, h1, h2, h3, .inr ⟨h.n, 0, .ex cap, _, _, _, by simp, get_new_same, by simpa using hle, ?_⟩, by rw [H.n_new]; omega, fun c hc => get_new_lt hc, by simp only [maxLen] at hmx; simp; omega, ?_, .inr ⟨els, sp, hd1, by simp [hd2]⟩, fun m hm => ?_⟩
    · apply List.ext_getElem?
      intro m
      by_cases hm : m < len
      · have := (hq m (by omega)).2
        simp [bytesV, hm, show m < cap by omega, this, List.getElem?_take]
      · simp [bytesV, hm, List.getElem?_take]
    · intro y hy
      simp at hy
      obtain ⟨m, hm, rfl⟩ := hy
      exact (hq m (by omega)).1
    · have hm' : m ≤ len := by simpa using hm
      refine ⟨.sl h.n 0 m (.ex cap), by simp [slS, sbV, optB, show (m : Int) ≤ cap by omega, show m ≤ cap by omega], .inr ⟨h.n, 0, .ex cap, _, _, _, by simp [Nat.min_eq_left hm'], get_new_same, by simp; omega, ?_⟩⟩
      apply List.ext_getElem?
      intro j
      by_cases hj : j < m
      · have := (hq j (by omega)).2
        simp [bytesV, hj, show j < cap by omega, show j < len by omega, show j < min m len by omega, this, List.getElem?_take]
      · simp [bytesV, hj, show ¬ j < min m len by omega, List.getElem?_take]

/-- The form's own reach, of bytes. -/
theorem reach {Hd : Type} {ts : List TypeId} {ds : List (DataW Hd)} (hk : (DataW.weightsEach Try.prog ts ds).all (· ≤ reachBytes) = true) {j : Nat} {d : DataW Hd} {l : List Nat} (ht : ts[j]? = some 44) (hd : ds[j]? = some d)
    (hl : l = [] ∨ ∃ elems spare, d = .slice elems spare ∧ elems.length = l.length) : l.length ≤ 140737488351232 := by
  rcases hl with rfl | ⟨elems, spare, rfl, h2⟩
  · simp
  · have h := sized_slice hk ht hd Try.underlying44
    rw [show Try.prog.bytesOf 5 = 1 by kernel_rfl] at h
    simp only [reachBytes] at h
    omega

theorem core6 {Hd : Type} {enc : TypeId × Value → Hd} {W : World} {base : Nat} {v0 v1 : Value} {d0 d1 : DataW Hd} {p0 p1 : List MemPlace}
    (hok : Value.okWide Try.prog W .any base 44 v0) (hd : DataW.Trod enc Try.prog W 0 (fun _ => true) true 44 v0 d0 p0)
    (hok1 : Value.okWide Try.prog W .any base 22 v1) (hd1 : DataW.Trod enc Try.prog W 0 (fun _ => true) true 22 v1 d1 p1)
    (hk : (DataW.weightsEach Try.prog [44, 22] [d0, d1]).all (· ≤ reachBytes) = true) :
    Calls Try.prog 6 #[v0, v1] W fun e W' => e = .returned (.bool true) ∧ Go.RowKit.Below W.heap.size W W' := by
  obtain ⟨i, h, x, l, a, _, hx, hB, n1, k1, hl, hb, hr, _⟩ := argBytes (ArgH.empty W) hok hd
  obtain ⟨i', h', y, ps, a', le, hy, hP, X, hpl⟩ := argDos a hok1 hd1
  have hl' := reach hk (j := 0) rfl rfl hr
  obtain ⟨w, h'', hrun, rfl, _⟩ := (any6_ok (hB.keep X.get) (by omega) hb hP).elim
  exact law_calls (us := [v0, v1]) (callW_ok mixed kp ov2_ok hrun) a'.rel (.cons (hx.mono le) (.cons hy .nil)) a'.dom a'.no
end Go.Proofs.Ytfjghgjkpenanaa
