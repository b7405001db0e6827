/- The plain law: what a writer's codings are, what a reader of them makes. -/
import Derived.Test.YtbajipmhnoakeaaCr
import Derived.Test.YtbajipmhnoakeaaCpb
set_option linter.unusedVariables false
set_option linter.unusedSimpArgs false
set_option maxRecDepth 20000
namespace Go.Proofs.Ytbajipmhnoakeaa
open Go Go.Zf

namespace Pr
variable {α β : Type}
/-- What comes of it where each coding answers what it is handed. -/
def ech : Pr α → Option α × List Op
  | .done a => (some a, [])
  | .stop => (none, [])
  | .sym k c v f => ((f v.toNat).ech.1, .sym k c v.toNat :: (f v.toNat).ech.2)
  | .num n v f => ((f v.toNat).ech.1, .num n v.toNat :: (f v.toNat).ech.2)
theorem ech_bind (g : α → Pr β) : ∀ p : Pr α, (p.bind g).ech = match p.ech.1 with
    | some a => ((g a).ech.1, p.ech.2 ++ (g a).ech.2)
    | none => (none, p.ech.2)
  | .done a => by simp [bind, ech]
  | .stop => rfl
  | .sym k c v f => by
    have := ech_bind g (f v.toNat)
    simp only [bind, ech]
    rw [this]
    cases (f v.toNat).ech.1 <;> rfl
  | .num n v f => by
    have := ech_bind g (f v.toNat)
    simp only [bind, ech]
    rw [this]
    cases (f v.toNat).ech.1 <;> rfl
theorem ech_some {p : Pr α} {g : α → Pr β} {a : α} {l : List Op} (h : p.ech = (some a, l)) : (p.bind g).ech = ((g a).ech.1, l ++ (g a).ech.2) := by rw [ech_bind, h]

/-- Two chains that ask the same, whatever is answered. -/
def Sim : Pr α → Pr α → Prop
  | .done a, .done b => a = b
  | .stop, .stop => True
  | .sym k c _ f, .sym k' c' _ f' => k = k' ∧ c = c' ∧ ∀ x, Sim (f x) (f' x)
  | .num n _ f, .num n' _ f' => n = n' ∧ ∀ x, Sim (f x) (f' x)
  | _, _ => False
theorem Sim.bind {f g : α → Pr β} (h : ∀ a, Sim (f a) (g a)) : ∀ {p q : Pr α}, Sim p q → Sim (p.bind f) (q.bind g)
  | .done a, .done b, e => by have e : a = b := e; subst e; exact h a
  | .stop, .stop, _ => trivial
  | .sym k c v p, .sym k' c' v' q, ⟨e1, e2, e3⟩ => ⟨e1, e2, fun x => Sim.bind h (e3 x)⟩
  | .num n v p, .num n' v' q, ⟨e1, e2⟩ => ⟨e1, fun x => Sim.bind h (e2 x)⟩
  | .done _, .stop, e => e.elim
  | .done _, .sym _ _ _ _, e => e.elim
  | .done _, .num _ _ _, e => e.elim
  | .stop, .done _, e => e.elim
  | .stop, .sym _ _ _ _, e => e.elim
  | .stop, .num _ _ _, e => e.elim
  | .sym _ _ _ _, .done _, e => e.elim
  | .sym _ _ _ _, .stop, e => e.elim
  | .sym _ _ _ _, .num _ _ _, e => e.elim
  | .num _ _ _, .done _, e => e.elim
  | .num _ _ _, .stop, e => e.elim
  | .num _ _ _, .sym _ _ _ _, e => e.elim
theorem Sim.refl : ∀ p : Pr α, Sim p p
  | .done a => rfl
  | .stop => trivial
  | .sym k c v f => ⟨rfl, rfl, fun x => Sim.refl (f x)⟩
  | .num n v f => ⟨rfl, fun x => Sim.refl (f x)⟩
end Pr

theorem St.sym_w {st : St} {s : Sr} (hs : st.sd = wS s) (k c : Nat) (v : Int) : st.sym k c v = st.sym k c (v.toNat : Nat) ∧ st.symV k c v = v.toNat := by
  unfold St.sym St.symV
  rw [hs]
  simp only [Side.val, Int.toNat_natCast, and_self]
theorem St.sym_r {st : St} (hs : st.sd.writes = false) (k c : Nat) (v v' : Int) : st.sym k c v = st.sym k c v' ∧ st.symV k c v = st.symV k c v' := by
  unfold St.sym St.symV
  generalize st.sd = sd at hs
  cases sd with
  | w => cases hs
  | r => exact ⟨rfl, rfl⟩
theorem bits_r (j : Nat) : ∀ (v v' out : Nat) (sd : Side), sd.writes = false → bits j v out sd = bits j v' out sd := by
  induction j with
  | zero => intro v v' out sd hs; rfl
  | succ j ih =>
    intro v v' out sd hs
    cases sd with
    | w => cases hs
    | r rest code rng => simp only [bits, Side.bit]; exact ih v v' _ _ rfl
theorem St.num_r {st : St} (hs : st.sd.writes = false) (n v v' : Nat) : st.num n v = st.num n v' ∧ st.numV n v = st.numV n v' := by
  unfold St.num St.numV
  rw [bits_r n v v' 0 st.sd hs]
  exact ⟨rfl, rfl⟩

namespace Pr
variable {α : Type}
/-- A writer makes of it what it is handed. -/
theorem exec_w : ∀ (p : Pr α) {st : St} {s : Sr}, st.sd = wS s → SOk s → SetOk st.S → (∀ o ∈ p.ech.2, o.ok) → p.exec st = (p.ech.1, st.run p.ech.2)
  | .done a, st, s, hs, ok, so, ho => rfl
  | .stop, st, s, hs, ok, so, ho => rfl
  | .sym k c v f, st, s, hs, ok, so, ho => by
    obtain ⟨s', h1, h2, h3, h4, _⟩ := step_w hs ok so (ho (.sym k c v.toNat) (by simp [ech]))
    have e := St.sym_w hs k c v
    have ih := exec_w (f v.toNat) h1 h2 h4 fun o h => ho o (by simp [ech, h])
    rw [exec_sym, e.2, e.1]
    exact ih
  | .num n v f, st, s, hs, ok, so, ho => by
    obtain ⟨s', h1, h2, h3, h4, _, _, h5⟩ := step_w hs ok so (ho (.num n v.toNat) (by simp [ech]))
    have ih := exec_w (f v.toNat) h1 h2 h4 fun o h => ho o (by simp [ech, h])
    have e := (h5 s' h2 (Within.refl _ _ _)).2.2
    rw [exec_num, e]
    exact ih
/-- A reader of it makes the same. -/
theorem exec_r {T : Sr} (hT : SOk T) : ∀ (p q : Pr α) {st : St} {s : Sr}, Sim p q → st.sd = wS s → SOk s → SetOk st.S → (∀ o ∈ p.ech.2, o.ok) → (∃ s', (st.run p.ech.2).sd = wS s' ∧ WithinS s' T) →
    ∃ s', (st.run p.ech.2).sd = wS s' ∧ q.exec (mateS (bytes T.1 T.2.1) s st) = (p.ech.1, mateS (bytes T.1 T.2.1) s' (st.run p.ech.2))
  | .done a, .done b, st, s, e, hs, ok, so, ho, w => by
    have e : a = b := e
    subst e
    exact ⟨s, hs, rfl⟩
  | .stop, .stop, st, s, e, hs, ok, so, ho, w => ⟨s, hs, rfl⟩
  | .sym k c v f, .sym k' c' v' f', st, s, ⟨e1, e2, e3⟩, hs, ok, so, ho, w => by
    subst e1 e2
    obtain ⟨s', h1, h2, h3, h4, _, _, h5⟩ := step_w hs ok so (ho (.sym k c v.toNat) (by simp [ech]))
    obtain ⟨sT, w1, w2⟩ := w
    have hrun : st.run (Pr.sym k c v f).ech.2 = (st.sym k c (v.toNat : Nat)).run (f v.toNat).ech.2 := rfl
    rw [hrun] at w1 ⊢
    obtain ⟨s2, g1, g2, g3⟩ := run_within (f v.toNat).ech.2 h1 h2 h4 fun o h => ho o (by simp [ech, h])
    have hs2 : s2 = sT := by
      have := g1.symm.trans w1
      injection this with a b c
      exact Prod.ext a (Prod.ext b c)
    subst hs2
    obtain ⟨m1, m2, _⟩ := h5 T hT (Within.trans g3 w2)
    obtain ⟨s3, k1, k2⟩ := exec_r hT (f v.toNat) (f' v.toNat) (e3 _) h1 h2 h4 (fun o h => ho o (by simp [ech, h])) ⟨s2, w1, w2⟩
    refine ⟨s3, k1, ?_⟩
    have er := St.sym_r (st := mateS (bytes T.1 T.2.1) s st) rfl k c v' (-1)
    rw [exec_sym, er.2, er.1, m2, m1]
    exact k2
  | .num n v f, .num n' v' f', st, s, ⟨e1, e3⟩, hs, ok, so, ho, w => by
    subst e1
    obtain ⟨s', h1, h2, h3, h4, _, _, h5⟩ := step_w hs ok so (ho (.num n v.toNat) (by simp [ech]))
    obtain ⟨sT, w1, w2⟩ := w
    have hrun : st.run (Pr.num n v f).ech.2 = (st.num n v.toNat).run (f v.toNat).ech.2 := rfl
    rw [hrun] at w1 ⊢
    obtain ⟨s2, g1, g2, g3⟩ := run_within (f v.toNat).ech.2 h1 h2 h4 fun o h => ho o (by simp [ech, h])
    have hs2 : s2 = sT := by
      have := g1.symm.trans w1
      injection this with a b c
      exact Prod.ext a (Prod.ext b c)
    subst hs2
    obtain ⟨m1, m2, _⟩ := h5 T hT (Within.trans g3 w2)
    obtain ⟨s3, k1, k2⟩ := exec_r hT (f v.toNat) (f' v.toNat) (e3 _) h1 h2 h4 (fun o h => ho o (by simp [ech, h])) ⟨s2, w1, w2⟩
    refine ⟨s3, k1, ?_⟩
    have er := St.num_r (st := mateS (bytes T.1 T.2.1) s st) rfl n v'.toNat 0
    rw [exec_num, er.2, er.1, m2, m1]
    exact k2
end Pr
end Go.Proofs.Ytbajipmhnoakeaa
