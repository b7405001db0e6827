/- Arguments; two encoders side by side. -/
import Derived.Test.YtpikblkbeoophaaRl
import Derived.Test.YtpikblkbeoophaaZArg
import Derived.SizedLaws
set_option linter.unusedVariables false
set_option linter.unusedSimpArgs false
namespace Go.Proofs.Ytpikblkbeoophaa
open Go Go.Zf

/-- A slice of parts. -/
def PartsAt (h : H) (v : V) (ps : List (Nat × Nat)) : Prop :=
  (v = .nils ∧ ps = []) ∨ ∃ b k c e ro, v = .sl b 0 ps.length k ∧ h.get b = some (.cells c e ro) ∧
    ∀ (i : Nat) (lo hi : Nat), ps[i]? = some (lo, hi) → lo < 4294967296 ∧ hi < 4294967296 ∧ c[i * 2]? = some (.int .u32 lo) ∧ c[i * 2 + 1]? = some (.int .u32 hi)
theorem PartsAt.keep {h h' : H} {n : Nat} {v : V} {ps : List (Nat × Nat)} (a : PartsAt h v ps) (hk : ∀ c, c < h.n → h'.get c = h.get c) : PartsAt h' v ps := by
  rcases a with a | ⟨b, k, c, e, ro, h1, h2, h3⟩
  · exact .inl a
  · exact .inr ⟨b, k, c, e, ro, h1, by rw [hk b (H.get_lt h2), h2], h3⟩
theorem PartsAt.len {h : H} {v : V} {ps : List (Nat × Nat)} (a : PartsAt h v ps) : lnS v = some (.int .i64 ps.length) := by
  rcases a with ⟨rfl, rfl⟩ | ⟨b, k, c, e, ro, rfl, h2, h3⟩ <;> simp
theorem PartsAt.at {h : H} {v : V} {ps : List (Nat × Nat)} (a : PartsAt h v ps) {i lo hi : Nat} (hps : ps[i]? = some (lo, hi)) :
    ∃ b, iaS 2 v (.int .i64 i) = some (.ptr b (i * 2)) ∧ h.rd1 b (i * 2) = some (.int .u32 lo) ∧ h.rd1 b (i * 2 + 1) = some (.int .u32 hi) ∧ lo < 4294967296 ∧ hi < 4294967296 := by
  rcases a with ⟨rfl, rfl⟩ | ⟨b, k, c, e, ro, rfl, h2, h3⟩
  · simp at hps
  · have hl := (List.getElem?_eq_some_iff.mp hps).1
    obtain ⟨h4, h5, h6, h7⟩ := h3 i lo _ hps
    exact ⟨b, by simp [hl], by rw [rd1_of h2, h6], by rw [rd1_of h2, h7], h4, h5⟩

/-! Openers -/
def qByte (g : Nat → V) : Prop := ∃ n : Nat, n < 256 ∧ g 0 = .int .u8 n
def qPart (g : Nat → V) : Prop := ∃ lo hi : Nat, lo < 4294967296 ∧ hi < 4294967296 ∧ g 0 = .int .u32 lo ∧ g 1 = .int .u32 hi

theorem wf_u32 {n : Int} (h : (Lit.int .u32 n).wf = true) : ∃ m : Nat, m < 4294967296 ∧ n = m := by
  simp [Lit.wf, IntKind.min, IntKind.max, IntKind.signed, IntKind.bits] at h
  exact ⟨n.toNat, by omega, by omega⟩
theorem wf_u8 {n : Int} (h : (Lit.int .u8 n).wf = true) : ∃ m : Nat, m < 256 ∧ n = m := by
  simp [Lit.wf, IntKind.min, IntKind.max, IntKind.signed, IntKind.bits] at h
  exact ⟨n.toNat, by omega, by omega⟩

theorem cells31 : Try.prog.cellsOf 31 = 2 := by kernel_rfl
theorem cells29 : Try.prog.cellsOf 29 = 1 := by kernel_rfl
theorem cells5 : Try.prog.cellsOf 5 = 1 := by kernel_rfl
/-- What a law's argument of parts is. -/
theorem argParts {i : Inj} {h : H} {w : World} (a : ArgH i h w) {Hd : Type} {enc : TypeId × Value → Hd} {r : Reach} {b0 : Nat} {v : Value} {d : DataW Hd} {ps : List MemPlace}
    (hok : Value.okWide Try.prog w r b0 22 v) (hd : DataW.Trod enc Try.prog w 0 (fun _ => true) true 22 v d ps) :
    ∃ i' h' x l, ArgH i' h' w ∧ i.le i' ∧ VRel i' x v ∧ PartsAt h' x l ∧ h.n ≤ h'.n ∧ (∀ c, c < h.n → h'.get c = h.get c) ∧ l.length < 9223372036854775808 := by
  rcases open_cells (z := 2) (Q := qPart) Try.underlying22 cells31 (by decide) hok hd (fun n cs y hy => by
    obtain ⟨xs, k, rfl, _, hcl, hxl, hf⟩ := DataW.trod_struct Try.underlying31 hy
    rw [cells31] at hcl
    match cs, hcl with
    | [u0, u1], _ =>
      have g0 := hf 0 _ rfl
      have g1 := hf 1 _ rfl
      have hx0 : ∃ y0, xs[0]? = some y0 := ⟨xs[0]'(by rw [hxl]; decide), by simp⟩
      have hx1 : ∃ y1, xs[1]? = some y1 := ⟨xs[1]'(by rw [hxl]; decide), by simp⟩
      obtain ⟨y0, hy0⟩ := hx0
      obtain ⟨y1, hy1⟩ := hx1
      rw [hy0] at g0
      rw [hy1] at g1
      simp [cells29] at g0 g1
      obtain ⟨n0, e0, _, w0⟩ := DataW.trod_int Try.underlying29 g0
      obtain ⟨n1, e1, _, w1⟩ := DataW.trod_int Try.underlying29 g1
      simp at e0 e1
      obtain ⟨m0, l0, rfl⟩ := wf_u32 w0
      obtain ⟨m1, l1, rfl⟩ := wf_u32 w1
      refine ⟨fun j => if j = 0 then .int .u32 m0 else .int .u32 m1, fun j hj => ?_, m0, m1, l0, l1, rfl, rfl⟩
      match j, hj with
      | 0, _ => exact ⟨rfl, _, rfl, fun _ => by rw [e0]; exact .int _ _⟩
      | 1, _ => exact ⟨rfl, _, rfl, fun _ => by rw [e1]; exact .int _ _⟩)
    (fun g g' hg ⟨lo, hi, q1, q2, q3, q4⟩ => ⟨lo, hi, q1, q2, by rw [← hg 0 (by decide), q3], by rw [← hg 1 (by decide), q4]⟩) with rfl | ⟨B, off, len, cap, G, C, e', fr, rfl, s, els, sp, hd1, hd2⟩
  · exact ⟨i, h, .nils, [], a, fun _ _ h => h, .nils, .inl ⟨rfl, rfl⟩, Nat.le_refl _, fun _ _ => rfl, by decide⟩
  · obtain ⟨i', h1, h2, h3⟩ := a.slice s
    have hch : ∀ m, m < cap → ∃ q : Nat × Nat, q.1 < 4294967296 ∧ q.2 < 4294967296 ∧ G (m * 2) = .int .u32 q.1 ∧ G (m * 2 + 1) = .int .u32 q.2 := fun m hm => by
      obtain ⟨lo, hi, q1, q2, q3, q4⟩ := s.el m hm
      exact ⟨(lo, hi), q1, q2, q3, q4⟩
    obtain ⟨q, hq⟩ := Go.Deep.choose_lt hch
    have hle := s.le
    have hmx := s.max
    refine ⟨i', _, _, (List.range len).map q, h1, h2, h3, .inr ⟨h.n, .ex cap, _, _, _, by simp, get_new_same, fun m lo hi hm => ?_⟩, by rw [H.n_new]; omega, fun c hc => get_new_lt hc, by simp only [maxLen] at hmx; simp; omega⟩
    have hml : m < len := by
      have := (List.getElem?_eq_some_iff.mp hm).1
      simpa using this
    have hqm : q m = (lo, hi) := by simp [hml] at hm; exact hm
    obtain ⟨q1, q2, q3, q4⟩ := hq m (by omega)
    rw [hqm] at q1 q2 q3 q4
    refine ⟨q1, q2, ?_, ?_⟩
    · simp [show m * 2 < cap * 2 by omega, q3]
    · simp [show m * 2 + 1 < cap * 2 by omega, q4]

/-- What a law's argument of bytes is. -/
theorem argBytes {i : Inj} {h : H} {w : World} (a : ArgH i h w) {Hd : Type} {enc : TypeId × Value → Hd} {r : Reach} {b0 : Nat} {v : Value} {d : DataW Hd} {ps : List MemPlace}
    (hok : Value.okWide Try.prog w r b0 32 v) (hd : DataW.Trod enc Try.prog w 0 (fun _ => true) true 32 v d ps) :
    ∃ i' h' x l, ArgH i' h' w ∧ i.le i' ∧ VRel i' x v ∧ SlB h' x l ∧ h.n ≤ h'.n ∧ (∀ c, c < h.n → h'.get c = h.get c) ∧ l.length < 9223372036854775808 ∧ (∀ y ∈ l, y < 256) ∧ (l = [] ∨ ∃ elems spare, d = .slice elems spare ∧ elems.length = l.length) ∧
      ∀ m, m ≤ l.length → ∃ y, slS 1 x none (some (.int .i64 (m : Nat))) none = some y ∧ SlB h' y (l.take m) := by
  rcases open_cells (z := 1) (Q := qByte) Try.underlying32 cells5 (by decide) hok hd (fun n cs y hy => by
    obtain ⟨n0, rfl, _, w0⟩ := DataW.trod_int Try.underlying5 hy
    obtain ⟨m0, l0, rfl⟩ := wf_u8 w0
    refine ⟨fun _ => .int .u8 m0, fun j hj => ?_, m0, l0, rfl⟩
    match j, hj with
    | 0, _ => exact ⟨rfl, _, rfl, fun _ => .int _ _⟩)
    (fun g g' hg ⟨n, q1, q2⟩ => ⟨n, q1, by rw [← hg 0 (by decide), q2]⟩) with rfl | ⟨B, off, len, cap, G, C, e', fr, rfl, s, els, sp, hd1, hd2⟩
  · exact ⟨i, h, .nils, [], a, fun _ _ h => h, .nils, .inl ⟨rfl, rfl⟩, Nat.le_refl _, fun _ _ => rfl, by decide, by simp, .inl rfl, fun m hm => ⟨.nils, by
      have : m = 0 := by simpa using hm
      subst this; rfl, .inl ⟨rfl, by simp⟩⟩⟩
  · obtain ⟨i', h1, h2, h3⟩ := a.slice s
    have hch : ∀ m, m < cap → ∃ q : Nat, q < 256 ∧ G m = .int .u8 q := fun m hm => by
      obtain ⟨n, q1, q2⟩ := s.el m hm
      exact ⟨n, q1, by simpa using q2⟩
    obtain ⟨q, hq⟩ := Go.Deep.choose_lt hch
    have hle := s.le
    have hmx := s.max
    refine ⟨i', _, _, (List.range len).map q, h1, h2, h3, .inr ⟨h.n, 0, .ex cap, _, _, _, by simp, get_new_same, by simpa using hle, ?_⟩, by rw [H.n_new]; omega, fun c hc => get_new_lt hc, by simp only [maxLen] at hmx; simp; omega, ?_, .inr ⟨els, sp, hd1, by simp [hd2]⟩, fun m hm => ?_⟩
    · apply List.ext_getElem?
      intro m
      by_cases hm : m < len
      · have := (hq m (by omega)).2
        simp [bytesV, hm, show m < cap by omega, this, List.getElem?_take]
      · simp [bytesV, hm, List.getElem?_take]
    · intro y hy
      simp at hy
      obtain ⟨m, hm, rfl⟩ := hy
      exact (hq m (by omega)).1
    · have hm' : m ≤ len := by simpa using hm
      refine ⟨.sl h.n 0 m (.ex cap), by simp [slS, sbV, optB, show (m : Int) ≤ cap by omega, show m ≤ cap by omega], .inr ⟨h.n, 0, .ex cap, _, _, _, by simp [Nat.min_eq_left hm'], get_new_same, by simp; omega, ?_⟩⟩
      apply List.ext_getElem?
      intro j
      by_cases hj : j < m
      · have := (hq j (by omega)).2
        simp [bytesV, hj, show j < cap by omega, show j < len by omega, show j < min m len by omega, this, List.getElem?_take]
      · simp [bytesV, hj, show ¬ j < min m len by omega, List.getElem?_take]

/-- The form's own reach, of bytes. -/
theorem reach {Hd : Type} {ts : List TypeId} {ds : List (DataW Hd)} (hk : (DataW.weightsEach Try.prog ts ds).all (· ≤ reachBytes) = true) {j : Nat} {d : DataW Hd} {l : List Nat} (ht : ts[j]? = some 32) (hd : ds[j]? = some d)
    (hl : l = [] ∨ ∃ elems spare, d = .slice elems spare ∧ elems.length = l.length) : l.length ≤ 140737488351232 := by
  rcases hl with rfl | ⟨elems, spare, rfl, h2⟩
  · simp
  · have h := sized_slice hk ht hd Try.underlying32
    rw [show Try.prog.bytesOf 5 = 1 by kernel_rfl] at h
    simp only [reachBytes] at h
    omega
end Go.Proofs.Ytpikblkbeoophaa
