/- Runs in which some functions' answers are given, where these are proved of the machine. (Ours.) -/
import Derived.Test.YtbajipmhnoakeaaZRow
set_option linter.unusedVariables false
set_option linter.unusedSimpArgs false
namespace Go.Zf
open Go.RowKit

/-- What some functions answer: given by ourselves, from what calls and loops are. -/
structure Ov where
  has : FuncId → Bool
  run : Oracle → Looper → FuncId → List V → H → Option (Rv × H)

def ovNone : Ov := ⟨fun _ => false, fun _ _ _ _ _ => none⟩

def runW (P : Program) (kp : FuncId → List Nat) (ov : Ov) : Nat → Oracle
  | 0, _, _, _ => none
  | n + 1, f, args, h => if ov.has f then ov.run (runW P kp ov n) (loopN (n + 1)) f args h else runF P kp (runW P kp ov n) (loopN (n + 1)) f args h

/-- Each given answer is the machine's. -/
def OvOK (P : Program) (ov : Ov) : Prop :=
  ∀ K, KOK P K → ∀ m f a h r h', ov.has f = true → ov.run K (loopN m) f a h = some (r, h') → CallOK P f a h r h' ∧ Enters P f ∧ h.n ≤ h'.n

variable {P : Program}

theorem HRel.below {i : Inj} {h : H} {w w' : World} (hr : HRel i h w) (hb : Below w.heap.size w w') : HRel i h w' where
  blk := fun b x hx => by
    have h1 := hr.blk b x hx
    cases x with
    | dead => trivial
    | cells c e ro =>
      obtain ⟨y, C, fr, g1, g2, g3, g4⟩ := h1
      exact ⟨y, C, fr, g1, g2, by rw [hb.block _ (hr.bound b y g1), g3], g4⟩
    | map es =>
      obtain ⟨y, E, clk, g1, g2, g3, g4⟩ := h1
      exact ⟨y, E, clk, g1, g2, by rw [hb.block _ (hr.bound b y g1), g3], g4⟩
  inj := hr.inj
  bound := fun b x hx => Nat.lt_of_lt_of_le (hr.bound b x hx) hb.size

theorem Fr.of_below {i : Inj} {h : H} {w w' : World} (hb : Below w.heap.size w w') : Fr i h w i h w' where
  n := Nat.le_refl _
  size := hb.size
  keep := fun B hB _ => hb.block B hB
  own := fun b x hx hi _ => ⟨b, x, hx, hi, rfl⟩
  live := fun b x hx hi _ => ⟨b, x, hx, hi, rfl⟩
  dom := fun _ _ => rfl
  os := ⟨hb.os, hb.tape⟩
  out := hb.output

/-- An answer that leaves memory as it is. -/
theorem over_ok {f : FuncId} {a : List V} {v : V} (ho : ∀ (i : Inj) (us : List Value), VsRel i a us → ∀ w : World, Calls P f us.toArray w fun e w' => ∃ u, e = .returned u ∧ VRel i v u ∧ Below w.heap.size w w') (h : H) : CallOK P f a h (.ret v) h := by
  intro i w us hr hv _
  refine (ho i us hv w).mono fun e w' ⟨u, h1, h2, h3⟩ => ⟨i, hr.below h3, Fr.of_below h3, ?_⟩
  subst h1
  exact ⟨u, rfl, h2⟩

theorem runW_ok (hD : DrawOK P) (kp : FuncId → List Nat) {ov : Ov} (ho : OvOK P ov) : ∀ n, KOK P (runW P kp ov n)
  | 0 => ⟨fun _ _ _ _ _ e => (by cases e), fun _ _ _ _ _ e => (by cases e), fun _ _ _ _ _ e => (by cases e)⟩
  | n + 1 => by
    have ih := runW_ok hD kp ho n
    have key : ∀ f args h r h', runW P kp ov (n + 1) f args h = some (r, h') → CallOK P f args h r h' ∧ Enters P f ∧ h.n ≤ h'.n := by
      intro f args h r h' e
      simp only [runW] at e
      split at e
      · exact ho _ ih (n + 1) _ _ _ _ _ (by assumption) e
      · exact call_sound hD kp ih (n + 1) e
    exact ⟨fun f args h r h' e => (key f args h r h' e).1, fun f args h r h' e => (key f args h r h' e).2.1, fun f args h r h' e => (key f args h r h' e).2.2⟩

/-- A law without arguments. -/
theorem closed_callsW (hm : P.follows .mixedOrders = true) (kp : FuncId → List Nat) {ov : Ov} (ho : OvOK P ov) (n : Nat) {f : FuncId} (hy : yes (runW P kp ov n f [] H.empty) = true) (w : World) :
    Calls P f #[] w fun e w' => e = .returned (.bool true) ∧ Below w.heap.size w w' := by
  unfold yes at hy
  split at hy
  · rename_i h' hrun
    exact law_calls ((runW_ok (draw_ok hm) kp ho n).ok _ _ _ _ _ hrun) (HRel.empty (fun _ => none) (fun _ => rfl) w) .nil (fun _ _ => rfl) fun b ⟨x, h1, _⟩ => by simp [H.get, H.empty] at h1
  · cases hy

end Go.Zf
