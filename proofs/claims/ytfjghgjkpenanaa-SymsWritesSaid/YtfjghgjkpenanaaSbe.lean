/- SymsBack: what a writer and a reader are like after so many things. -/
import Derived.Test.YtfjghgjkpenanaaSbd
set_option linter.unusedVariables false
set_option linter.unusedSimpArgs false
set_option maxRecDepth 20000
namespace Go.Proofs.Ytfjghgjkpenanaa
open Go Go.Zf
open Go.Zf (wi64)

def opOf (x : Dd) : Op := if x.b then .num x.may.n.toNat x.may.v.toNat else .sym x.may.k.toNat x.may.c.toNat x.may.v.toNat
theorem op_num {x : Dd} (hb : x.b = true) : ∃ n v : Nat, opOf x = .num n v ∧ (Op.num n v).ok ∧ x.may.b = true ∧ x.may.n = n ∧ x.may.v = v := by
  have h1 := may_fit hb
  have hm : x.may = ⟨true, x.n % 16, x.k, x.c, x.v % 2 ^ (x.n % 16).toNat⟩ := by unfold Dd.may; rw [if_pos hb]
  have h2 : (0 : Int) < 2 ^ (x.n % 16).toNat := Int.pow_pos (by decide)
  have h3 := Int.emod_nonneg x.v (show (2 : Int) ^ (x.n % 16).toNat ≠ 0 by omega)
  have h4 := Int.emod_lt_of_pos x.v h2
  obtain ⟨k, hk⟩ : ∃ k, k = (x.n % 16).toNat := ⟨_, rfl⟩
  rw [← hk] at hm h2 h3 h4
  rw [hm] at h1
  simp only at h1
  refine ⟨(x.n % 16).toNat, (x.v % 2 ^ k).toNat, ?_, ⟨by omega, ?_⟩, by rw [hm], by rw [hm]; simp only; omega, by rw [hm]; simp only; omega⟩
  · unfold opOf; rw [if_pos hb, hm]
  · rw [← hk]
    have h5 : ((x.v % 2 ^ k).toNat : Int) = x.v % 2 ^ k := Int.toNat_of_nonneg h3
    have h6 : (((2 ^ k : Nat) : Int)) = (2 : Int) ^ k := by simp
    omega
theorem op_sym {x : Dd} (hb : x.b = false) : ∃ k c v : Nat, opOf x = .sym k c v ∧ (Op.sym k c v).ok ∧ x.may.b = false ∧ x.may.k = k ∧ x.may.c = c ∧ x.may.v = v := by
  obtain ⟨b, n, k, c, v⟩ := x
  simp only at hb
  subst hb
  obtain ⟨K, cc, hK, hc, e1, e2, e3, e4⟩ := may_sym n k c v
  have hv := vl_le hK
  have e5 : (⟨false, n, k, c, v⟩ : Dd).may.v = v % 65536 % vl K := by
    have : (k % 32).toNat = K := by simp [Dd.may] at e1; omega
    simp [Dd.may, this]
  have h1 := Int.emod_nonneg (v % 65536) (show ((vl K : Nat) : Int) ≠ 0 by omega)
  have h2 := Int.emod_lt_of_pos (v % 65536) (show (0 : Int) < vl K by omega)
  refine ⟨K, cc, (v % 65536 % vl K).toNat, ?_, ⟨hK, hc, by omega⟩, e3, e1, e2, by rw [e5]; omega⟩
  unfold opOf
  rw [if_neg (by simp), e1, e2, e5]; simp
theorem opOf_ok (x : Dd) : (opOf x).ok := by
  cases hb : x.b with
  | true => obtain ⟨n, v, h1, h2, _⟩ := op_num hb; rw [h1]; exact h2
  | false => obtain ⟨k, c, v, h1, h2, _⟩ := op_sym hb; rw [h1]; exact h2

/-- The writer behind so many things. -/
def stI (l : List Dd) (ad : Bool) (i : Nat) : St := (newW defS ad).run ((l.map opOf).take i)
theorem stI_zero (l : List Dd) (ad : Bool) : stI l ad 0 = newW defS ad := by simp [stI, St.run]
theorem stI_succ {l : List Dd} {i : Nat} {x : Dd} (h : l[i]? = some x) (ad : Bool) : stI l ad (i + 1) = (stI l ad i).step (opOf x) := by
  have h' : (l.map opOf)[i]? = some (opOf x) := by simp [h]
  unfold stI St.run
  rw [take_snoc h', List.foldl_append]; rfl
theorem stI_w (l : List Dd) (ad : Bool) : ∀ i, i ≤ l.length → ∃ s, (stI l ad i).sd = wS s ∧ SOk s ∧ SetOk (stI l ad i).S ∧ (stI l ad i).ad = ad ∧ (ad = false → (stI l ad i).S = defS)
  | 0, _ => by
    rw [stI_zero]
    exact ⟨s0, rfl, s0_ok, defS_ok, rfl, fun _ => rfl⟩
  | i + 1, h => by
    obtain ⟨s, h1, h2, h3, h4, h5⟩ := stI_w l ad i (by omega)
    obtain ⟨x, hx⟩ := get_of_lt (l := l) (i := i) (by omega)
    obtain ⟨s', g1, g2, g3, g4, g5, g6, _⟩ := step_w h1 h2 h3 (opOf_ok x)
    rw [stI_succ hx]
    exact ⟨s', g1, g2, g4, by rw [g5, h4], fun ha => by rw [g6 (by rw [h4, ha]), h5 ha]⟩
def wOf : Side → Sr
  | .w out low rng => (out, low, rng)
  | .r _ _ _ => s0
theorem wOf_w (s : Sr) : wOf (wS s) = s := rfl
theorem stI_within (l : List Dd) (ad : Bool) {i : Nat} (hi : i ≤ l.length) {s T : Sr} (hs : (stI l ad i).sd = wS s) (hT : (stI l ad l.length).sd = wS T) : WithinS s T := by
  obtain ⟨s1, h1, h2, h3, h4, h5⟩ := stI_w l ad i hi
  obtain ⟨T1, g1, g2, g3⟩ := run_within ((l.map opOf).drop i) h1 h2 h3 fun o ho => by
    obtain ⟨x, _, rfl⟩ := List.mem_map.mp (List.mem_of_mem_drop ho)
    exact opOf_ok x
  have e : (stI l ad i).run ((l.map opOf).drop i) = stI l ad l.length := by
    unfold stI St.run
    rw [← List.foldl_append, List.take_append_drop, List.take_of_length_le (by simp)]
  rw [e, hT] at g1
  rw [hs] at h1
  have e1 : s = s1 := by have := congrArg wOf h1; exact this
  have e2 : T = T1 := by have := congrArg wOf g1; exact this
  rw [e1, e2]; exact g3
/-- The reader behind so many things. -/
def rdI (l : List Dd) (ad : Bool) (B : List Nat) (i : Nat) : St := mateS B (wOf (stI l ad i).sd) (stI l ad i)
theorem rdI_S (l : List Dd) (ad : Bool) (B : List Nat) (i : Nat) : (rdI l ad B i).S = (stI l ad i).S := rfl
theorem rdI_n (l : List Dd) (ad : Bool) (B : List Nat) (i : Nat) : (rdI l ad B i).n = (stI l ad i).n := rfl
theorem rdI_wr (l : List Dd) (ad : Bool) (B : List Nat) (i : Nat) : (rdI l ad B i).sd.writes = false := rfl
theorem rdI_zero {l : List Dd} {ad : Bool} {T : Sr} (hT : (stI l ad l.length).sd = wS T) : newR (bytes T.1 T.2.1) defS ad = rdI l ad (bytes T.1 T.2.1) 0 := by
  obtain ⟨T1, h1, h2, _⟩ := stI_w l ad l.length (Nat.le_refl _)
  have e2 : T1 = T := by rw [h1] at hT; have := congrArg wOf hT; exact this
  subst e2
  have w : WithinS s0 T1 := stI_within l ad (Nat.zero_le _) (by rw [stI_zero]; rfl) h1
  rw [newR_mate h2 w defS ad, rdI, stI_zero]
  rfl
theorem stI_num {l : List Dd} (ad : Bool) {i : Nat} {x : Dd} (hx : l[i]? = some x) {n v : Nat} (ho : opOf x = .num n v) :
    (stI l ad i).num n v = stI l ad (i + 1) ∧ (stI l ad i).numV n v = v ∧ ∀ T, (stI l ad l.length).sd = wS T → (rdI l ad (bytes T.1 T.2.1) i).num n 0 = rdI l ad (bytes T.1 T.2.1) (i + 1) ∧ (rdI l ad (bytes T.1 T.2.1) i).numV n 0 = v := by
  have hil := lt_of_get hx
  obtain ⟨s, h1, h2, h3, h4, h5⟩ := stI_w l ad i (by omega)
  have ok := opOf_ok x
  have hsu := stI_succ hx ad
  rw [ho] at ok hsu
  obtain ⟨s', g1, g2, g3, g4, g5, g6, g7⟩ := step_w h1 h2 h3 ok
  rw [← hsu] at g1 g7
  have e : (stI l ad i).num n v = stI l ad (i + 1) := by rw [stI_succ hx, ho]; rfl
  refine ⟨e, (g7 s' g2 (Within.refl _ _ _)).2.2, fun T hT => ?_⟩
  obtain ⟨T1, k1, k2, _⟩ := stI_w l ad l.length (Nat.le_refl _)
  have e2 : T1 = T := by rw [k1] at hT; have := congrArg wOf hT; exact this
  subst e2
  have w := stI_within l ad (i := i + 1) hil g1 k1
  have := g7 T1 k2 w
  unfold rdI
  rw [h1, g1]
  exact ⟨this.1, this.2.1⟩
theorem stI_sym {l : List Dd} (ad : Bool) {i : Nat} {x : Dd} (hx : l[i]? = some x) {k c v : Nat} (ho : opOf x = .sym k c v) :
    (stI l ad i).sym k c v = stI l ad (i + 1) ∧ (stI l ad i).symV k c v = v ∧ ∀ T, (stI l ad l.length).sd = wS T → (rdI l ad (bytes T.1 T.2.1) i).sym k c (-1) = rdI l ad (bytes T.1 T.2.1) (i + 1) ∧ (rdI l ad (bytes T.1 T.2.1) i).symV k c (-1) = v := by
  have hil := lt_of_get hx
  obtain ⟨s, h1, h2, h3, h4, h5⟩ := stI_w l ad i (by omega)
  have ok := opOf_ok x
  have hsu := stI_succ hx ad
  rw [ho] at ok hsu
  obtain ⟨s', g1, g2, g3, g4, g5, g6, g7⟩ := step_w h1 h2 h3 ok
  rw [← hsu] at g1 g7
  have e : (stI l ad i).sym k c v = stI l ad (i + 1) := by rw [stI_succ hx, ho]; rfl
  refine ⟨e, (g7 s' g2 (Within.refl _ _ _)).2.2, fun T hT => ?_⟩
  obtain ⟨T1, k1, k2, _⟩ := stI_w l ad l.length (Nat.le_refl _)
  have e2 : T1 = T := by rw [k1] at hT; have := congrArg wOf hT; exact this
  subst e2
  have w := stI_within l ad (i := i + 1) hil g1 k1
  have := g7 T1 k2 w
  unfold rdI
  rw [h1, g1]
  exact ⟨this.1, this.2.1⟩
/-- append of one element: the slice is a new one. -/
theorem push1n {p e bytes : Nat} {h : H} {v : V} {cs : List V} {n : Nat} (x : V) (g : GrowV p h v e 1 cs n) (hp : p ≤ h.n) (hb : (n + 1) * bytes ≤ 140737488355328) :
    ∃ v' h', apZ e 1 bytes (h.new (.cells [x] e false)) v (.sl h.n 0 1 (.ex 1)) = some (v', h') ∧ GrowV h.n h' v' e 1 (cs ++ [x]) (n + 1) ∧ h.n ≤ h'.n ∧ (∀ c, c < h.n → (∀ o n k, v ≠ .sl c o n k) → h'.get c = h.get c) := by
  have g1 := g.ext ((Ext.refl h).new (.cells [x] e false))
  obtain ⟨v', h', k1, k2, k3, k4, k5⟩ := apZ_grow (y := .sl h.n 0 1 (.ex 1)) (m := 1) (new := [x]) (bytes := bytes) g1 (by rw [H.n_new]; omega) rfl (by
    unfold firstV; simp only [Nat.mul_one]; rw [rdN_of get_new_same (by simp)]; rfl) (by simp) hb
  have hfr : ∀ c o n k, v' = .sl c o n k → h.n ≤ c := by
    rcases k5 with ⟨rfl, rfl⟩ | k5
    · rcases k2 with ⟨_, h2, _⟩ | ⟨b, e1, _, _, _⟩
      · omega
      · rcases g1 with ⟨f1, _⟩ | ⟨b', f1, _, _, _⟩
        · rw [f1] at e1; cases e1
        · rw [f1] at e1; simp at e1
    · intro c o n k e
      have := k5 c o n k e
      rw [H.n_new] at this; omega
  refine ⟨v', h', k1, ?_, by rw [H.n_new] at k3; omega, fun c hc hv => by rw [k4 c (by rw [H.n_new]; omega) hv, get_new_lt hc]⟩
  rcases k2 with ⟨_, h2, _⟩ | ⟨b, e1, e2, e3, e4⟩
  · omega
  · exact .inr ⟨b, e1, e2, e3, hfr _ _ _ _ e1⟩
end Go.Proofs.Ytfjghgjkpenanaa
