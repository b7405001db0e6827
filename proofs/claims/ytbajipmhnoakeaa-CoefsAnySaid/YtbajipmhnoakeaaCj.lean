/- An amount. -/
import Derived.Test.YtbajipmhnoakeaaCi
set_option linter.unusedVariables false
set_option linter.unusedSimpArgs false
set_option maxRecDepth 20000
namespace Go.Proofs.Ytbajipmhnoakeaa
open Go Go.Zf
open Go.Zf (wi64)

section cd
variable {D0 : Nat → Prop} {h0 h h' : H} {q c ob L m : Nat} {vs : V} {B : BD} {st : St} {lv : List Int}

abbrev K56 : List Nat := [0, 1, 2, 6, 7, 9, 10, 11, 45]
structure I56 (D0 : Nat → Prop) (h0 : H) (q c L : Nat) (B : BD) (lv : List Int) (a : Int) (more M : Nat) (R : Option Nat × St) (j : Nat) (e : E) (g : H) : Prop where
  j2 : j ≤ 4
  ex : ∃ sum st, sum ≤ 3 + 3 * (4 - j) ∧ Cd D0 h0 c L B g (M - j) st lv ∧ (amoP B a more j sum).exec st = R ∧ e.s K56 10 = .int .i64 (sum : Nat)
  e0 : e.s K56 0 = .ptr q 0
  e7 : e.s K56 7 = .int .i64 (more : Nat)
  e9 : e.s K56 9 = .int .i64 a
  e45 : e.s K56 45 = .int .i64 ((4 - j : Nat) : Int)
structure O56 (D0 : Nat → Prop) (h0 : H) (q c L : Nat) (B : BD) (lv : List Int) (a : Int) (more M : Nat) (R : Option Nat × St) (s : Go.Zf.St) : Prop where
  ex : ∃ sum st, sum ≤ 15 ∧ Cd D0 h0 c L B s.h M st lv ∧ s.e.s K56 10 = .int .i64 (sum : Nat) ∧
    ((s.x = .ex 0 ∧ R = (some sum, st)) ∨ (s.x = .ex 2 ∧ (amoP B a more 0 sum).exec st = R ∧ s.e.s K56 0 = .ptr q 0 ∧ s.e.s K56 9 = .int .i64 a))

theorem loop56 (S : Base D0 h0 q c ob vs L B) {a : Int} {more M : Nat} {R : Option Nat × St} (ha : 0 ≤ a ∧ a ≤ 1048576) (hmo : more ≤ 6) (hM : M < 100000000) (hM2 : 4 ≤ M) {e : E} {g : H} (hi : I56 D0 h0 q c L B lv a more M R 4 e g) :
    ∃ s, loopZ (l56_0 KW loopZ) e g = some s ∧ O56 D0 h0 q c L B lv a more M R s := by
  refine loop_run (body := l56_0 KW loopZ) (I56 D0 h0 q c L B lv a more M R) (O56 D0 h0 q c L B lv a more M R) ?_ 4 e g hi
  intro j e g hi
  obtain ⟨j2, ⟨sum, st, hsum, C, hR, e10⟩, e0, e7, e9, e45⟩ := hi
  cases j with
  | zero =>
    rw [Nat.sub_zero] at e45 C
    simp [l56_0, e45]
    exact ⟨sum, st, by omega, C, by simp [e10], .inr ⟨rfl, hR, by simp [e0], by simp [e9]⟩⟩
  | succ j =>
    obtain ⟨i, hi⟩ : ∃ i, i = 4 - (j + 1) := ⟨_, rfl⟩
    rw [← hi] at e45
    have q2 : g.rd1 q 2 = some (.int .i64 (B.colour : Nat)) := by rw [rd1_of (C.gq S)]; rfl
    have hcol := S.colour
    have z1 : IntKind.i64.wrap (7 * (B.colour : Int)) = 7 * (B.colour : Int) := wi64 (by omega) (by omega)
    have z2 : IntKind.i64.wrap (7 * (B.colour : Int) + more) = ((7 * B.colour + more : Nat) : Int) := by rw [wi64 (by omega) (by omega)]; omega
    have z3 : IntKind.i64.wrap (a - sum) = a - sum := wi64 (by omega) (by omega)
    have m1 := imax_b (a - sum) 0
    have m2 := imin_b (imax (a - sum) 0) 3
    obtain ⟨x, hx⟩ : ∃ x, x = 7 * B.colour + more := ⟨_, rfl⟩
    rw [← hx] at z2
    have hc29 : cx 29 = 14 := by decide
    have hv29 : vl 29 = 4 := by decide
    have hv : 0 ≤ imin (imax (a - sum) 0) 3 ∧ imin (imax (a - sum) 0) 3 < vl 29 := by rw [hv29]; omega
    obtain ⟨w, g1, a1, rfl, C1⟩ := (sym50_ok S C (k := 29) (x := x) (v := imin (imax (a - sum) 0) 3) (by omega) (by decide) (by rw [hc29]; omega) hv).elim
    have hlt := St.symV_lt C.C.ok.1 (k := 29) (x := x) (v := imin (imax (a - sum) 0) 3) (by decide) (by rw [hc29]; omega) (fun _ => hv)
    rw [hv29] at hlt
    unfold amoP at hR
    rw [Pr.exec_sym, ← hx] at hR
    obtain ⟨s, hs⟩ : ∃ s, s = st.symV 29 x (imin (imax (a - sum) 0) 3) := ⟨_, rfl⟩
    rw [← hs] at a1 hlt hR
    rw [show ((29 : Nat) : Int) = 29 from rfl] at a1
    have z4 : IntKind.i64.wrap ((sum : Int) + s) = ((sum + s : Nat) : Int) := by rw [wi64 (by omega) (by omega)]; omega
    have z5 : IntKind.i64.wrap ((i : Int) + 1) = ((4 - j : Nat) : Int) := by rw [wi64 (by omega) (by omega)]; omega
    have C1 := C1.more (m' := M - j) (by omega) (by omega)
    by_cases c3 : s < 3
    · rw [if_pos c3, Pr.exec_done] at hR
      simp [l56_0, e45, show (i : Int) < 4 by omega, e0, q2, z1, e7, z2, e9, e10, z3, maxV_i, -maxV2, minV_i, -minV2, a1, z4, -Int.natCast_add, show (s : Int) < 3 by omega, c3]
      refine ⟨sum + s, _, by omega, C1.more (by omega) hM, by simp, .inl ⟨rfl, hR.symm⟩⟩
    · rw [if_neg c3] at hR
      simp [l56_0, e45, show (i : Int) < 4 by omega, e0, q2, z1, e7, z2, e9, e10, z3, maxV_i, -maxV2, minV_i, -minV2, a1, z4, -Int.natCast_add, show ¬ (s : Int) < 3 by omega, c3, z5]
      refine ⟨j, by omega, by omega, ⟨sum + s, _, by omega, C1, hR, by simp⟩, by simp, by simp, by simp, by simp⟩

theorem amount56_ok (S : Base D0 h0 q c ob vs L B) (C : Cd D0 h0 c L B h m st lv) {at_ said : Nat} (hat : at_ < B.n * B.n) (hs : said ≤ 3) (hm : m + 45 < 100000000) :
    RP (fun w h' => ∃ v st', (amountP B lv at_ said).exec st = (some v, st') ∧ v < 4194304 ∧ w = .int .i64 (v : Nat) ∧ Cd D0 h0 c L B h' (m + 45) st' lv)
      (fun h' => ∃ st', (amountP B lv at_ said).exec st = (none, st') ∧ Cd D0 h0 c L B h' (m + 45) st' lv) (KW 56 [.ptr q 0, .int .i64 at_, .int .i64 said] h) := by
  rw [w56, f56, s56]
  unfold amountP
  by_cases c3 : said < 3
  · rw [if_pos c3, Pr.exec_done]
    simp [show (said : Int) < 3 by omega, c3]
    exact ⟨_, _, ⟨rfl, rfl⟩, by omega, rfl, C.more (by omega) hm⟩
  · rw [if_neg c3]
    have hs3 : said = 3 := by omega
    subst hs3
    have q6 : h.rd1 q 6 = some (.sl L 0 (B.n * B.n) (.ex (B.n * B.n))) := by rw [rd1_of (C.gq S)]; rfl
    have q1 : h.rd1 q 1 = some (.int .i64 (B.size : Nat)) := by rw [rd1_of (C.gq S)]; rfl
    obtain ⟨w, g1, a1, rfl, x1⟩ := (more65_ok (at_ := at_) S.size C.l (by rw [C.ll, S.n]) (by rw [← S.n]; exact hat)).elim
    rw [← S.n, C.ll] at a1
    have C1 := C.ext S x1
    have p5 : g1.rd1 q 5 = some vs := by rw [rd1_of (C1.gq S)]; rfl
    obtain ⟨b, o, s1, s2⟩ := C1.s S hat
    have hsb := S.src at_
    have hab := iabs_b (B.src.getD at_ 0)
    obtain ⟨sv, hsv⟩ : ∃ sv, sv = B.src.getD at_ 0 := ⟨_, rfl⟩
    rw [← hsv] at s2 hsb hab ⊢
    have z1 : IntKind.i64.wrap (-sv) = -sv := wi64 (by omega) (by omega)
    have ck1 : ∀ {β : Type} (y : Option β), ck (some vs) vs y = y := fun y => ck_eq y rfl S.hs.same
    have mb := moreP_b lv B.n at_
    obtain ⟨more, hmo⟩ : ∃ more, more = moreP lv B.n at_ := ⟨_, rfl⟩
    rw [← hmo] at a1 mb ⊢
    obtain ⟨R, hR⟩ : ∃ R, R = (amoP B (iabs sv) more 4 3).exec st := ⟨_, rfl⟩
    rw [← hR]
    obtain ⟨s, r1, ⟨sum, st1, hsum, C2, e10, hcase⟩⟩ := loop56 S (lv := lv) (a := iabs sv) (more := more) (M := m + 4) (R := R) (by omega) mb.1 (by omega) (by omega)
      (e := ⟨[.ptr q 0, .int .i64 at_, .int .i64 3, .int .i64 0, .int .i64 more, .int .i64 (iabs sv), .int .i64 3, .tup [], .int .i64 0], 45, .int .i64 0⟩) (g := g1)
      ⟨Nat.le_refl _, ⟨3, st, by omega, by rw [Nat.add_sub_cancel]; exact C1, hR.symm, by simp⟩, by simp, by simp, by simp, by simp⟩
    obtain ⟨sx, se, sh⟩ := s
    simp only [K56] at e10
    have hz : maxV [V.int .i64 sv, V.int .i64 (-sv)] = some (.int .i64 (iabs sv)) := maxV_i _ _ _
    simp [q6, q1, a1, p5, s1, s2, z1, hz, -maxV2, ck1]
    rw [loopZ_eq]
    simp only [l56_1]
    simp [r1]
    rcases hcase with ⟨hx, hR1⟩ | ⟨hx, hR1, e0, e9⟩
    · simp only at hx
      subst hx
      simp [e10]
      exact ⟨sum, st1, by rw [hR1], by omega, rfl, C2.more (by omega) hm⟩
    · simp only at hx
      subst hx
      simp only [K56] at e0 e9
      have z2 : IntKind.i64.wrap (iabs sv - sum) = iabs sv - sum := wi64 (by omega) (by omega)
      unfold amoP at hR1
      rcases (length66_ok S C2 (left := iabs sv - sum) (by omega) (by omega)).elim with ⟨w, g2, a2, v, st2, b1, b2, rfl, C3⟩ | ⟨g2, a2, st2, b1, C3⟩
      · rw [Pr.exec_some b1, Pr.exec_done] at hR1
        have z3 : IntKind.i64.wrap ((sum : Int) + v) = ((sum + v : Nat) : Int) := by rw [wi64 (by omega) (by omega)]; omega
        simp [e9, e10, e0, z2, a2, z3, -Int.natCast_add]
        exact ⟨_, _, hR1.symm, by omega, rfl, C3.more (by omega) hm⟩
      · rw [Pr.exec_none b1] at hR1
        simp [e9, e10, e0, z2, a2, bc_pan, sq_pn, blk_pn, fin_pn]
        exact ⟨rfl, st2, hR1.symm, C3.more (by omega) hm⟩
end cd
end Go.Proofs.Ytbajipmhnoakeaa
