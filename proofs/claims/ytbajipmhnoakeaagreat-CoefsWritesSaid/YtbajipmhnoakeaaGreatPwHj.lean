import Derived.Test.YtbajipmhnoakeaaGreatPwHi
set_option linter.unusedVariables false
set_option linter.unusedSimpArgs false
set_option maxRecDepth 20000
namespace Go.Proofs.YtbajipmhnoakeaaGreat
open Go Go.Zf Go.RowKit Go.WideShapes
open Go.Zf (wi64)
instance : Inhabited Dg := ⟨⟨0,0,0,[]⟩⟩
theorem cells36 : Tryz.prog.cellsOf 36 = 4 := by kernel_rfl
theorem cells3 : Tryz.prog.cellsOf 3 = 1 := by kernel_rfl
theorem cells34 : Tryz.prog.cellsOf 34 = 1 := by kernel_rfl
theorem good22 : good Tryz.prog 5 22 = true := by kernel_rfl
theorem four {cs : List V} (h : cs.length = 4) : ∃ a b c d,cs = [a,b,c,d] := by
 match cs,h with
 | [a,b,c,d],_ => exact ⟨a,b,c,d,rfl⟩
section
variable {Hd : Type}
theorem rd_ints {h : H} {xs : List V} {d : DataW Hd} (a : Rd Tryz.prog h 34 xs d) : ∃ v l,xs = [v] ∧ IntsX (fun _ => False) h v l ∧ l.length ≤ maxLen := by
 obtain ⟨v,n,rfl,s,_⟩ := a.slice_inv Tryz.underlying34
 rw [cells3] at s
 have hch : ∀ j,j < n → ∃ x : Int,∃ b o,iaS 1 v (.int .i64 j) = some (.ptr b o) ∧ h.rd1 b o = some (.int .i64 x) ∧ b < h.n := by
  intro j hj
  obtain ⟨b,o,p,h1,h2,⟨d',h3⟩,h4,h5⟩ := s.at hj
  obtain ⟨x,rfl,_⟩ := h3.int_inv Tryz.underlying3
  exact ⟨x,b,o,h1,h5 0 _ rfl,h4⟩
 obtain ⟨f,hf⟩ := Go.Deep.choose_lt hch
 refine ⟨v,(List.range n).map f,rfl,⟨by simpa using s.len,fun i x hi => ?_,s.cell,s.same,s.cells⟩,by simpa using s.1⟩
 have hin : i < n := by have := lt_of_get hi; simpa using this
 obtain ⟨b,o,h1,h2,h3⟩ := hf i hin
 have : x = f i := by simp [hin] at hi; exact hi.symm
 exact ⟨b,o,h1,by rw [this]; exact h2,fun h => h,h3⟩
end
end Go.Proofs.YtbajipmhnoakeaaGreat
