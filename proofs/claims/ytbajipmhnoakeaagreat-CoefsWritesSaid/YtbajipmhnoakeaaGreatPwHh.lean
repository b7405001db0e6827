import Derived.Test.YtbajipmhnoakeaaGreatPwHg
import Derived.Test.YtbajipmhnoakeaaGreatPwGaa
import Derived.Test.YtbajipmhnoakeaaGreatPwZNest
import Derived.SizedLaws
import Derived.OpenShut
set_option linter.unusedVariables false
set_option linter.unusedSimpArgs false
set_option maxRecDepth 20000
namespace Go.Proofs.YtbajipmhnoakeaaGreat
open Go Go.Zf Go.RowKit Go.WideShapes
open Go.Zf (wi64)
structure P2 (h1 g : H) (c r m : Nat) (st : St) (D F : Nat → Prop) : Prop where
 C : CoderAt D g c m st
 R : CoderRef F g r m st
 hD : ∀ b,D b → h1.n ≤ b ∧ b < g.n ∧ ¬ F b
 hF : ∀ b,F b → h1.n ≤ b ∧ b < g.n
section
variable {h1 g g' g1 g2 : H} {c r m m' : Nat} {st st' : St} {D F : Nat → Prop}
theorem P2.ext (a : P2 h1 g c r m st D F) (x : Ext g g') : P2 h1 g' c r m st D F := by
 have := x.n
 exact ⟨a.C.ext x,a.R.ext x,fun b hb => by have := a.hD b hb; exact ⟨this.1,by omega,this.2.2⟩,fun b hb => by have := a.hF b hb; omega⟩
theorem P2.step (a : P2 h1 g c r m st D F) (x1 : Ext h1 g) (C1 : ∃ E,CoderAt E g1 c m' st' ∧ ∀ b,E b → D b ∨ g.n ≤ b) (M1 : Mod D g g1) (R2 : ∃ E,CoderRef E g2 r m' st' ∧ ∀ b,E b → F b ∨ g1.n ≤ b) (M2 : Mod F g1 g2) :
  (∃ D F,P2 h1 g2 c r m' st' D F) ∧ Ext h1 g2 ∧ (∀ b,g.n ≤ b → b < g1.n → g2.get b = g1.get b) ∧ (∀ b,b < g.n → ¬ D b → ¬ F b → g2.get b = g.get b) := by
 obtain ⟨hC,hR,hD,hF⟩ := a
 obtain ⟨E1,C1,s1⟩ := C1
 obtain ⟨E2,R2,s2⟩ := R2
 have n1 := M1.n
 have n2 := M2.n
 have n0 := x1.n
 refine ⟨⟨fun b => E1 b ∧ b < g1.n,fun b => E2 b ∧ b < g2.n,?_,R2.mono fun b h1 h2 => ⟨h2,h1⟩,?_,?_⟩,⟨by omega,fun b hb => ?_⟩,fun b h1 h2 => ?_,fun b h1 h2 h3 => ?_⟩
 ·refine (C1.mono fun b h1 h2 => (⟨h2,h1⟩ : E1 b ∧ b < g1.n)).keep n2 fun b hb hb2 => M2.get b hb2 fun hf => ?_
  rcases s1 b hb.1 with e | e
  ·exact (hD b e).2.2 hf
  ·have := hF b hf; omega
 ·rintro b ⟨h1',h2'⟩
  have q : h1.n ≤ b := by rcases s1 b h1' with e | e; exact (hD b e).1; omega
  refine ⟨q,by omega,fun ⟨h3,_⟩ => ?_⟩
  rcases s2 b h3 with e | e
  ·rcases s1 b h1' with e' | e'
   ·exact (hD b e').2.2 e
   ·have := hF b e; omega
  ·omega
 ·rintro b ⟨h1',h2'⟩
  rcases s2 b h1' with e | e
  ·exact ⟨(hF b e).1,h2'⟩
  ·exact ⟨by omega,h2'⟩
 ·rw [M2.get b (by omega) (fun hf => by have := hF b hf; omega),M1.get b (by omega) (fun hd => by have := hD b hd; omega),x1.get b hb]
 ·exact M2.get b h2 fun hf => by have := hF b hf; omega
 ·rw [M2.get b (by omega) h3,M1.get b h1 h2]
end
structure Dg where
 s : Int
 p : Int
 q : Int
 l : List Int
theorem IntsX.keep0 {X : Nat → Prop} {h h' : H} {v : V} {l : List Int} (a : IntsX (fun _ => False) h v l) (x : Ext h h') (hx : ∀ b,b < h.n → ¬ X b) : IntsX X h' v l :=
 a.keep x.n (fun b hb _ => x.get b hb) (fun b hb _ => hx b hb)
theorem IntsX.nil' (X : Nat → Prop) (h : H) : IntsX X h .nils [] := ⟨rfl,fun i x hi => by simp at hi,rfl,rfl,rfl⟩
abbrev K4 : List Nat := [0,1,4,5,6,7,8,9,10,11,12,13,14,15]
structure I4 (h1 : H) (v : V) (n c r j : Nat) (e : E) (g : H) : Prop where
 hj : j ≤ n ∧ n - j ≤ 8
 x : Ext h1 g
 P : ∃ m st D F,P2 h1 g c r m st D F ∧ st.sd.writes = false ∧ m ≤ 50000 * (n - j)
 e1 : e.s K4 1 = v
 e5 : e.s K4 5 = .ptr c 0
 e7 : e.s K4 7 = .ptr r 0
 e9 : e.s K4 9 = .int .i64 ((n - j : Nat) : Int)
structure O4 (h1 : H) (c r : Nat) (s : Go.Zf.St) : Prop where
 hx : s.x = .ex 0
 x : Ext h1 s.h
 P : ∃ m st D F,P2 h1 s.h c r m st D F ∧ m ≤ 400000
 e5 : s.e.s K4 5 = .ptr c 0
 e7 : s.e.s K4 7 = .ptr r 0
end Go.Proofs.YtbajipmhnoakeaaGreat
