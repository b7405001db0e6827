/- The length of what is left of an amount, and an amount. -/
import Derived.Test.YtbajipmhnoakeaaCg
set_option linter.unusedVariables false
set_option linter.unusedSimpArgs false
set_option maxRecDepth 20000
namespace Go.Proofs.Ytbajipmhnoakeaa
open Go Go.Zf
open Go.Zf (wi64)

section cd
variable {D0 : Nat → Prop} {h0 h h' : H} {q c ob L m : Nat} {vs : V} {B : BD} {st : St} {lv : List Int}

abbrev K66 : List Nat := [0, 1, 4, 5, 6, 7, 8]
structure I66 (D0 : Nat → Prop) (h0 : H) (q c L : Nat) (B : BD) (lv : List Int) (X M : Nat) (R : Option Nat × St) (j : Nat) (e : E) (g : H) : Prop where
  j1 : 1 ≤ j
  j2 : j ≤ 21
  C : ∃ st, Cd D0 h0 c L B g (M - j) st lv ∧ (lenP B.wr X j (21 - j)).exec st = R
  e0 : e.s K66 0 = .ptr q 0
  e5 : e.s K66 5 = .int .i64 (X : Nat)
  e6 : e.s K66 6 = .int .i64 ((21 - j : Nat) : Int)
  e7 : e.s K66 7 = .int .i64 (Nat.log2 X : Nat)
/-- Behind the noughts. -/
structure O66 (D0 : Nat → Prop) (h0 : H) (q c L : Nat) (B : BD) (lv : List Int) (X M : Nat) (R : Option Nat × St) (e : E) (g : H) : Prop where
  ex : ∃ k st, k ≤ 20 ∧ (B.wr = true → k = Nat.log2 X) ∧ Cd D0 h0 c L B g M st lv ∧ (Pr.num k (if B.wr then (X : Int) - 2 ^ k else 0) fun v => Pr.done (2 ^ k + v - 1)).exec st = R ∧ e.s K66 6 = .int .i64 (k : Nat)
  e0 : e.s K66 0 = .ptr q 0
  e5 : e.s K66 5 = .int .i64 (X : Nat)

theorem loop66 (S : Base D0 h0 q c ob vs L B) {X M : Nat} {R : Option Nat × St} (hX : X ≠ 0) (hX2 : X < 4194304) (hM : M < 100000000) (hM2 : 21 ≤ M) {e : E} {g : H} (hi : I66 D0 h0 q c L B lv X M R 21 e g) :
    ∃ s, loopZ (l66_0 KW loopZ) e g = some s ∧ ((s.x = .ex 0 ∧ O66 D0 h0 q c L B lv X M R s.e s.h) ∨ (s.x = .pn (.iface 88 (.agg [.int .i64 4])) ∧ R.1 = none ∧ Cd D0 h0 c L B s.h M R.2 lv)) := by
  refine loop_run (body := l66_0 KW loopZ) (I66 D0 h0 q c L B lv X M R) (fun s => (s.x = .ex 0 ∧ O66 D0 h0 q c L B lv X M R s.e s.h) ∨ (s.x = .pn (.iface 88 (.agg [.int .i64 4])) ∧ R.1 = none ∧ Cd D0 h0 c L B s.h M R.2 lv)) ?_ 21 e g hi
  intro j e g hi
  obtain ⟨j1, j2, ⟨st, a, hR⟩, e0, e5, e6, e7⟩ := hi
  obtain ⟨f, rfl⟩ : ∃ f, j = f + 1 := ⟨j - 1, by omega⟩
  obtain ⟨k, hk⟩ : ∃ k, k = 21 - (f + 1) := ⟨_, rfl⟩
  rw [← hk] at hR e6
  have hb := flag51_ok (decide ((k : Int) = (Nat.log2 X : Nat))) g
  obtain ⟨fl, hfl⟩ : ∃ fl : Nat, fl = if k = Nat.log2 X then 1 else 0 := ⟨_, rfl⟩
  have hfl2 : fl < 2 := by rw [hfl]; split <;> omega
  have e1 : (if decide ((k : Int) = (Nat.log2 X : Nat)) = true then (1 : Int) else 0) = (fl : Int) := by
    rw [hfl]
    by_cases hc : k = Nat.log2 X
    · simp [hc]
    · simp [hc]; omega
  rw [e1] at hb
  obtain ⟨w, g1, a1, rfl, C1⟩ := (num54_ok S a (n := 1) (v := (fl : Int)) (by omega) (by decide) (fun _ => by omega)).elim
  rw [Int.toNat_natCast] at a1 C1
  rw [show ((1 : Nat) : Int) = 1 from rfl] at a1
  have hlt := St.numV_lt a.C.ok.2.1 (n := 1) (v := fl) (by omega)
  unfold lenP at hR
  have hR' : (if st.numV 1 fl = 0 then lenP B.wr X f (k + 1) else Pr.num k (if B.wr then (X : Int) - 2 ^ k else 0) fun v => Pr.done (2 ^ k + v - 1)).exec (st.num 1 fl) = R := by
    rw [← hR]
    have : (if k = Nat.log2 X then (1 : Int) else 0) = ((fl : Nat) : Int) := by rw [hfl]; split <;> rfl
    rw [Pr.exec_num, this, Int.toNat_natCast]
  have C1 := C1.more (m' := M - f) (by omega) (by omega)
  by_cases c0 : st.numV 1 fl = 0
  · rw [if_pos c0] at hR'
    have z1 : IntKind.i64.wrap ((k : Int) + 1) = ((k + 1 : Nat) : Int) := by rw [wi64 (by omega) (by omega)]; omega
    by_cases c1 : k = 20
    · have hf : f = 0 := by omega
      subst hf
      simp [l66_0, e6, e7, hb, e0, a1, c0, z1, -Int.natCast_add, show (20 : Int) < ((k + 1 : Nat) : Int) by omega, bl, fillW, splice, panV_i, bc_pan, sq_pn, blk_pn]
      refine .inr ⟨rfl, ?_, ?_⟩
      · rw [← hR']; rfl
      · rw [← hR']; exact C1
    · simp [l66_0, e6, e7, hb, e0, a1, c0, z1, -Int.natCast_add, show ¬ (20 : Int) < ((k + 1 : Nat) : Int) by omega]
      refine ⟨f, by omega, by omega, by omega, ⟨_, C1, ?_⟩, by simp [e0], by simp [e5], ?_, by simp [e7]⟩
      · rw [← hR', show 21 - f = k + 1 by omega]
      · simp [show 21 - f = k + 1 by omega]
  · rw [if_neg c0] at hR'
    have hwk : B.wr = true → k = Nat.log2 X := by
      intro hw
      have hw2 : st.sd.writes = true := by rw [a.wr, hw]
      have := St.numV_w hw2 1 fl (by omega)
      rw [this] at c0
      by_cases hc : k = Nat.log2 X
      · exact hc
      · rw [if_neg hc] at hfl; omega
    simp [l66_0, e6, e7, hb, e0, a1, c0]
    exact .inl ⟨rfl, ⟨k, _, by omega, hwk, C1.more (by omega) hM, hR', by simp [e6]⟩, by simp [e0], by simp [e5]⟩

theorem length66_ok (S : Base D0 h0 q c ob vs L B) (a : Cd D0 h0 c L B h m st lv) {left : Int} (hl : -4194304 < left ∧ left < 4194303) (hm : m + 41 < 100000000) :
    RP (fun w h' => ∃ v st', (lenP B.wr ((imax left 0).toNat + 1) 21 0).exec st = (some v, st') ∧ v < 2097152 ∧ w = .int .i64 (v : Nat) ∧ Cd D0 h0 c L B h' (m + 41) st' lv)
      (fun h' => ∃ st', (lenP B.wr ((imax left 0).toNat + 1) 21 0).exec st = (none, st') ∧ Cd D0 h0 c L B h' (m + 41) st' lv) (KW 66 [.ptr q 0, .int .i64 left] h) := by
  have hi := imax_b left 0
  obtain ⟨X, hX⟩ : ∃ X, X = (imax left 0).toNat + 1 := ⟨_, rfl⟩
  have z1 : IntKind.i64.wrap (imax left 0 + 1) = (X : Int) := by rw [wi64 (by omega) (by omega)]; omega
  have z2 : IntKind.u64.wrap (X : Int) = X := wu64 (by omega) (by omega)
  have l63 := len63_ok (x := X) (by omega) (by omega) h
  have lb : Nat.log2 X < 32 := (Nat.log2_lt (by omega)).2 (by omega)
  have lb2 := log2_b (x := X) (by omega)
  have z3 : IntKind.i64.wrap (((Nat.log2 X + 1 : Nat) : Int) - 1) = (Nat.log2 X : Nat) := by rw [wi64 (by omega) (by omega)]; omega
  rw [← hX]
  obtain ⟨R, hR⟩ : ∃ R, R = (lenP B.wr X 21 0).exec st := ⟨_, rfl⟩
  rw [← hR, w66, f66, s66]
  have q0 : h.rd1 q 0 = some (.ptr c 0) := by rw [rd1_of (a.gq S)]; rfl
  simp [maxV_i, -maxV2, z1, z2, l63, z3, -Int.natCast_add]
  obtain ⟨s, r1, hs⟩ := loop66 S (lv := lv) (X := X) (M := m + 21) (R := R) (by omega) (by omega) (by omega) (by omega) (e := ⟨[.ptr q 0, .int .i64 left, .int .i64 0, .int .i64 X, .int .i64 0, .int .i64 (Nat.log2 X : Nat), .tup []], 7, .int .i64 (Nat.log2 X : Nat)⟩) (g := h)
    ⟨by omega, by omega, ⟨st, by rw [Nat.add_sub_cancel]; exact a, hR.symm⟩, by simp, by simp, by simp, by simp⟩
  rw [r1]
  obtain ⟨sx, se, sh⟩ := s
  rcases hs with ⟨hx, ⟨k, st1, k1, k2, C1, hR1, e6⟩, e0, e5⟩ | ⟨hx, hR1, C1⟩
  · simp only at hx
    subst hx
    simp only [K66] at e6 e0 e5
    have p0 := Nat.two_pow_pos k
    have p1 : (2 : Nat) ^ k ≤ 1048576 := Nat.pow_le_pow_right (by decide) (by omega : k ≤ 20)
    have pc := two_pow_cast k
    have mk : min k 64 = k := by omega
    have z4 : IntKind.i64.wrap ((2 : Int) ^ k) = 2 ^ k := wi64 (by omega) (by omega)
    have z5 : IntKind.i64.wrap ((X : Int) - 2 ^ k) = (X : Int) - 2 ^ k := wi64 (by omega) (by omega)
    have q1 : sh.rd1 q 0 = some (.ptr c 0) := by rw [rd1_of (C1.gq S)]; rfl
    have w26 := writes26_ok C1.C
    rw [C1.wr] at w26
    obtain ⟨rest, hrest⟩ : ∃ r, r = if B.wr then (X : Int) - 2 ^ k else 0 := ⟨_, rfl⟩
    rw [← hrest] at hR1
    have hrb : B.wr = true → 0 ≤ rest ∧ rest < 2 ^ k := by
      intro hw
      have hk := k2 hw
      rw [← hk] at lb2
      rw [hrest, if_pos hw]
      have := Nat.pow_succ 2 k
      have e3 : ((2 ^ (k + 1) : Nat) : Int) = 2 * 2 ^ k := by rw [Nat.pow_succ]; omega
      omega
    obtain ⟨w, g1, a1, rfl, C2⟩ := (num54_ok S C1 (n := k) (v := rest) (by omega) (by omega) hrb).elim
    have hlt := St.numV_lt C1.C.ok.2.1 (n := k) (v := rest.toNat) (by omega)
    obtain ⟨v, hv⟩ : ∃ v, v = st1.numV k rest.toNat := ⟨_, rfl⟩
    rw [← hv] at a1 hlt
    have hR2 : R = (some (2 ^ k + v - 1), st1.num k rest.toNat) := by rw [← hR1, hv]; rfl
    have z6 : IntKind.i64.wrap ((2 : Int) ^ k + v) = 2 ^ k + v := wi64 (by omega) (by omega)
    have z7 : IntKind.i64.wrap ((2 : Int) ^ k + v - 1) = ((2 ^ k + v - 1 : Nat) : Int) := by rw [wi64 (by omega) (by omega)]; omega
    cases hw : B.wr with
    | true =>
      rw [hw, if_pos rfl] at hrest
      rw [hw] at w26
      simp [e0, q1, w26, e6, mk, IntKind.bits, z4, e5, z5, show ¬ (k : Int) < 0 by omega]
      rw [← hrest]
      simp [a1, mk, show ¬ (k : Int) < 0 by omega, z4, z6, z7, IntKind.bits, -Int.natCast_add]
      exact ⟨_, _, hR2, by omega, rfl, C2.more (by omega) hm⟩
    | false =>
      rw [hw, if_neg (by simp)] at hrest
      rw [hw] at w26
      rw [hrest] at a1
      simp [e0, q1, w26, e6, a1, mk, IntKind.bits, show ¬ (k : Int) < 0 by omega, z4, z6, z7, -Int.natCast_add]
      exact ⟨_, _, hR2, by omega, rfl, C2.more (by omega) hm⟩
  · simp only at hx
    subst hx
    simp [blk_pn, sq_pn, fin_pn]
    refine ⟨rfl, R.2, ?_, C1.more (by omega) hm⟩
    rw [← hR1]
end cd
end Go.Proofs.Ytbajipmhnoakeaa
