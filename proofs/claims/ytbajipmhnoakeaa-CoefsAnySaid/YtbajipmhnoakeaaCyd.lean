/- CoefsBack: its arguments. -/
import Derived.Test.YtbajipmhnoakeaaCyc
set_option linter.unusedVariables false
set_option linter.unusedSimpArgs false
set_option maxRecDepth 20000
namespace Go.Proofs.Ytbajipmhnoakeaa
open Go Go.Zf Go.RowKit Go.WideShapes
open Go.Zf (wi64)

theorem cells34 : Try.prog.cellsOf 34 = 4 := by kernel_rfl
theorem cells3 : Try.prog.cellsOf 3 = 1 := by kernel_rfl
theorem cells32 : Try.prog.cellsOf 32 = 1 := by kernel_rfl
theorem good22 : good Try.prog 5 22 = true := by kernel_rfl
theorem wf_i64 {n : Int} (h : (Lit.int .i64 n).wf = true) : -9223372036854775808 ≤ n ∧ n < 9223372036854775808 := by
  simp [Lit.wf, IntKind.min, IntKind.max, IntKind.signed, IntKind.bits] at h
  omega
theorem four {cs : List V} (h : cs.length = 4) : ∃ a b c d, cs = [a, b, c, d] := by
  match cs, h with
  | [a, b, c, d], _ => exact ⟨a, b, c, d, rfl⟩
section
variable {Hd : Type}
/-- Whole numbers that were handed in. -/
theorem rd_ints {h : H} {xs : List V} {d : DataW Hd} (a : Rd Try.prog h 32 xs d) : ∃ v l, xs = [v] ∧ IntsX (fun _ => False) h v l ∧ l.length ≤ maxLen := by
  obtain ⟨v, n, rfl, s, _⟩ := a.slice_inv Try.underlying32
  rw [cells3] at s
  have hch : ∀ j, j < n → ∃ x : Int, ∃ b o, iaS 1 v (.int .i64 j) = some (.ptr b o) ∧ h.rd1 b o = some (.int .i64 x) ∧ b < h.n := by
    intro j hj
    obtain ⟨b, o, p, h1, h2, ⟨d', h3⟩, h4, h5⟩ := s.at hj
    obtain ⟨x, rfl, _⟩ := h3.int_inv Try.underlying3
    exact ⟨x, b, o, h1, h5 0 _ rfl, h4⟩
  obtain ⟨f, hf⟩ := Go.Deep.choose_lt hch
  refine ⟨v, (List.range n).map f, rfl, ⟨by simpa using s.len, fun i x hi => ?_, s.cell, s.same, s.cells⟩, by simpa using s.1⟩
  have hin : i < n := by have := lt_of_get hi; simpa using this
  obtain ⟨b, o, h1, h2, h3⟩ := hf i hin
  have : x = f i := by simp [hin] at hi; exact hi.symm
  exact ⟨b, o, h1, by rw [this]; exact h2, fun h => h, h3⟩
theorem rd_do {h : H} {xs : List V} {d : DataW Hd} (a : Rd Try.prog h 34 xs d) : ∃ x, DoAt h xs x := by
  obtain ⟨hl, hf⟩ := a.struct_inv Try.underlying34
  rw [cells34] at hl
  obtain ⟨x0, x1, x2, x3, rfl⟩ := four hl
  obtain ⟨_, g0⟩ := hf 0 _ rfl
  obtain ⟨_, g1⟩ := hf 1 _ rfl
  obtain ⟨_, g2⟩ := hf 2 _ rfl
  obtain ⟨_, g3⟩ := hf 3 _ rfl
  simp [cells3, cells32] at g0 g1 g2 g3
  obtain ⟨n0, e0, _⟩ := g0.int_inv Try.underlying3
  obtain ⟨n1, e1, _⟩ := g1.int_inv Try.underlying3
  obtain ⟨n2, e2, _⟩ := g2.int_inv Try.underlying3
  obtain ⟨v, l, e3, hI, _⟩ := rd_ints g3
  simp at e0 e1 e2 e3
  subst e0 e1 e2 e3
  exact ⟨⟨n0, n1, n2, l⟩, _, rfl, hI⟩
theorem rd_dos {h : H} {xs : List V} {d : DataW Hd} (a : Rd Try.prog h 22 xs d) : ∃ (v : V) (l : List Dc), xs = [v] ∧ SlA h 4 v l.length (fun j p => ∀ x, l[j]? = some x → DoAt h p x) ∧ (d = .nil ∧ l.length = 0 ∨ ∃ es sp, d = .slice es sp ∧ es.length = l.length) := by
  obtain ⟨v, n, rfl, s, hd⟩ := a.slice_inv Try.underlying22
  rw [cells34] at s
  -- the pieces
  have hch : ∀ j, j < n → ∃ x : Dc, ∀ b o, iaS 4 v (.int .i64 j) = some (.ptr b o) → ∃ p, h.rdN b o 4 = some p ∧ DoAt h p x := by
    intro j hj
    obtain ⟨b, o, p, h1, h2, ⟨d', h3⟩, h4, h5⟩ := s.at hj
    obtain ⟨x, hx⟩ := rd_do h3
    exact ⟨x, fun b' o' h6 => by rw [h1] at h6; cases h6; exact ⟨p, h2, hx⟩⟩
  obtain ⟨f, hf⟩ := Go.Deep.choose_lt hch
  refine ⟨v, (List.range n).map f, rfl, ?_, ?_⟩
  · rw [List.length_map, List.length_range]
    refine ⟨s.1, ?_⟩
    rcases s.2 with h1 | ⟨b, cap, h1, h2, h3, h4⟩
    · exact .inl h1
    · refine .inr ⟨b, cap, h1, h2, h3, ?_⟩
      rcases h4 with h4 | ⟨c, ty, h5, h6, h7⟩
      · exact .inl h4
      · refine .inr ⟨c, ty, h5, h6, fun j hj x hx => ?_⟩
        have hl : j * 4 + 4 ≤ c.length := by omega
        obtain ⟨p, q1, q2⟩ := hf j hj b (j * 4) (by rw [h1]; simp [hj])
        rw [rdN_of h5 hl] at q1
        have e1 : x = f j := by simp [hj] at hx; exact hx.symm
        rw [Option.some.inj q1, e1]; exact q2
  · simpa using hd
end

theorem slA_take {h : H} {v : V} {l : List Dc} (A : SlA h 4 v l.length fun j p => ∀ x, l[j]? = some x → DoAt h p x) (hl : 6 ≤ l.length) : ∃ y, slS 4 v none (some (.int .i64 6)) none = some y ∧ SlA h 4 y (l.take 6).length fun j p => ∀ x, (l.take 6)[j]? = some x → DoAt h p x := by
  obtain ⟨y, h1, h2⟩ := A.take hl
  refine ⟨y, h1, ?_⟩
  rw [List.length_take, Nat.min_eq_left hl]
  refine h2.imp fun j p hj _ q x hx => q x ?_
  rw [List.getElem?_take, if_pos hj] at hx; exact hx
theorem back3_ok {h : H} {v : V} {ad : Bool} {l : List Dc} (A : SlA h 4 v l.length fun j p => ∀ x, l[j]? = some x → DoAt h p x) : RT (fun w h' => w = .bool true ∧ Ext h h') (KW 3 [v, .bool ad] h) := by
  by_cases hl : l.length ≤ 6
  · exact back3_short hl A ⟨_, A.len, .inl ⟨by omega, rfl⟩⟩
  · obtain ⟨y, h1, h2⟩ := slA_take A (by omega)
    exact back3_short (by rw [List.length_take]; omega) h2 ⟨_, A.len, .inr ⟨by omega, h1⟩⟩
theorem core3 {Hd : Type} {enc : TypeId × Value → Hd} {W : World} {base : Nat} {v0 v1 : Value} {d0 d1 : DataW Hd} {p0 p1 : List MemPlace} {k : Prop}
    (hok : Value.okWide Try.prog W .any base 22 v0) (hd : DataW.Trod enc Try.prog W 0 (fun _ => true) true 22 v0 d0 p0)
    (hok1 : Value.okWide Try.prog W .any base 4 v1) (hd1 : DataW.Trod enc Try.prog W 0 (fun _ => true) true 4 v1 d1 p1) (hk : k) :
    Calls Try.prog 3 #[v0, v1] W fun e W' => e = .returned (.bool true) ∧ Go.RowKit.Below W.heap.size W W' := by
  obtain ⟨i, h, x, a, le, _, _, hx, hr⟩ := argAny 5 good22 (ArgH.empty W) hd
  obtain ⟨b, rfl, _⟩ := Go.RowKit.open_bool Try.underlying4 hok1 hd1
  obtain ⟨v, l, rfl, A, _⟩ := rd_dos hr
  obtain ⟨u, hu, hv⟩ := hx.get (k := 0) rfl
  obtain ⟨w, h'', hrun, rfl, _⟩ := (back3_ok (ad := b) A).elim
  have hv0 : u = v0 := by
    obtain ⟨s0, s1, s2, s3, _⟩ := okWide_slice Try.underlying22 hok
    simp [Value.cells] at hu
    exact hu.symm
  rw [hv0] at hv
  exact law_calls (us := [v0, .bool b]) (callW_ok mixed kp ovC_ok hrun) a.rel (.cons hv (.cons (.bool _) .nil)) a.dom a.no
end Go.Proofs.Ytbajipmhnoakeaa
