/- Signs; where the levels end. -/
import Derived.Test.YtbajipmhnoakeaaCm
set_option linter.unusedVariables false
set_option linter.unusedSimpArgs false
set_option maxRecDepth 20000
namespace Go.Proofs.Ytbajipmhnoakeaa
open Go Go.Zf
open Go.Zf (wi64)

theorem slS_hi (b N en : Nat) (h : en ≤ N) : slS 1 (.sl b 0 N (.ex N)) none (some (.int .i64 (en : Nat))) none = some (.sl b 0 en (.ex N)) := by
  simp [slS, optB, sbV, h]

section cd
variable {D0 : Nat → Prop} {h0 h h' : H} {q c ob L m : Nat} {vs : V} {B : BD} {st : St} {lv : List Int}

abbrev K42 : List Nat := [0, 1, 5, 6, 12, 13, 14]
structure I42 (D0 : Nat → Prop) (h0 : H) (q c ob L : Nat) (B : BD) (en M : Nat) (lvF : List Int) (stF : St) (j : Nat) (e : E) (g : H) : Prop where
  hj : j ≤ en
  ex : ∃ lv st, Cd D0 h0 c L B g (M - j) st lv ∧ (sgsP B ((B.ord.take en).drop (en - j)) lv).exec st = (some lvF, stF)
  e0 : e.s K42 0 = .ptr q 0
  e12 : e.s K42 12 = .sl ob 0 en (.ex (B.n * B.n))
  e13 : e.s K42 13 = .int .i64 (en : Nat)
  e14 : e.s K42 14 = .int .i64 ((en - j : Nat) : Int)

theorem signs42_ok (S : Base D0 h0 q c ob vs L B) (C : Cd D0 h0 c L B h m st lv) {en : Nat} (hen : en ≤ B.n * B.n) (hm : m + en < 100000000) {lvF : List Int} {stF : St} (hR : (sgsP B (B.ord.take en) lv).exec st = (some lvF, stF)) :
    RT (fun w h' => Cd D0 h0 c L B h' (m + en) stF lvF) (KW 42 [.ptr q 0, .int .i64 en] h) := by
  have hnn := S.nn
  have q4 : h.rd1 q 4 = some (.sl ob 0 (B.n * B.n) (.ex (B.n * B.n))) := by rw [rd1_of (C.gq S)]; rfl
  rw [w42, f42, s42]
  simp [q4, slS_hi _ _ _ hen]
  refine loop_in (C := fun o => RT _ (fin Try.prog _ _ (blk 0 o))) (I42 D0 h0 q c ob L B en (m + en) lvF stF) (fun s => s.x = .ex 0 ∧ Cd D0 h0 c L B s.h (m + en) stF lvF) ?_ en
    ⟨Nat.le_refl _, ⟨lv, st, by rw [Nat.add_sub_cancel]; exact C, by rw [Nat.sub_self]; exact hR⟩, by simp, by simp, by simp, by simp⟩ ?_
  · intro j e g hi
    obtain ⟨hj, ⟨lv, st, C, hR⟩, e0, e12, e13, e14⟩ := hi
    have hol : (B.ord.take en).length = en := by rw [List.length_take, S.ordl]; omega
    cases j with
    | zero =>
      rw [Nat.sub_zero] at e14
      simp [l42_0, e14, e13]
      rw [Nat.sub_zero, List.drop_of_length_le (by omega)] at hR
      have hR : (some lv, st) = (some lvF, stF) := hR
      cases hR
      exact ⟨rfl, C⟩
    | succ j =>
      obtain ⟨i, hi⟩ : ∃ i, i = en - (j + 1) := ⟨_, rfl⟩
      rw [← hi] at e14 hR
      have hien : i < en := by omega
      have hi2 : i < B.n * B.n := by omega
      obtain ⟨o1, hat⟩ := C.o S hi2
      have hdrop : (B.ord.take en).drop i = B.ord.getD i 0 :: (B.ord.take en).drop (i + 1) := by
        rw [List.drop_eq_getElem_cons (by omega)]
        congr 1
        simp [List.getD, show i < B.ord.length by rw [S.ordl]; omega]
      rw [hdrop] at hR
      obtain ⟨at_, hat_⟩ : ∃ at_, at_ = B.ord.getD i 0 := ⟨_, rfl⟩
      rw [← hat_] at o1 hat hR
      have q6 : g.rd1 q 6 = some (.sl L 0 (B.n * B.n) (.ex (B.n * B.n))) := by rw [rd1_of (C.gq S)]; rfl
      have q5 : g.rd1 q 5 = some vs := by rw [rd1_of (C.gq S)]; rfl
      have q2 : g.rd1 q 2 = some (.int .i64 (B.colour : Nat)) := by rw [rd1_of (C.gq S)]; rfl
      have q3 : g.rd1 q 3 = some (.int .i64 (B.sign : Nat)) := by rw [rd1_of (C.gq S)]; rfl
      have rl := C.l.rd (i := at_) (by rw [C.ll]; exact hat)
      have lb := C.l.bd at_
      obtain ⟨y, hy⟩ : ∃ y, y = lv.getD at_ 0 := ⟨_, rfl⟩
      rw [← hy] at rl lb
      have hat64 : (at_ : Int) < B.n * B.n := by rw [← Int.natCast_mul]; omega
      have zi : IntKind.i64.wrap ((i : Int) + 1) = ((i + 1 : Nat) : Int) := by rw [wi64 (by omega) (by omega)]; omega
      unfold sgsP at hR
      by_cases cy : y = 0
      · rw [if_pos (by rw [← hy]; exact cy)] at hR
        rw [cy] at rl
        simp [l42_0, e14, e13, show (i : Int) < en by omega, hien, e12, o1, e0, q6, hat64, hat, rl, zi, -Int.natCast_add]
        exact ⟨j, by omega, by omega, ⟨lv, st, C.more (by omega) (by omega), by rw [show en - j = i + 1 by omega]; exact hR⟩, by simp [e0], by simp [e12], by simp [e13], by simp [show en - j = i + 1 by omega]⟩
      · rw [if_neg (by rw [← hy]; exact cy), ← hy] at hR
        obtain ⟨b, o, s1, s2⟩ := C.s S hat
        obtain ⟨sv, hsv⟩ : ∃ sv, sv = B.src.getD at_ 0 := ⟨_, rfl⟩
        rw [← hsv] at s2
        have f51 := flag51_ok (decide (sv < 0)) g
        obtain ⟨fl, hfl⟩ : ∃ fl : Nat, fl = if sv < 0 then 1 else 0 := ⟨_, rfl⟩
        have hfl2 : fl < 2 := by rw [hfl]; split <;> omega
        have hfi : (if sv < 0 then (1 : Int) else 0) = (fl : Int) := by rw [hfl]; split <;> rfl
        have f51' : (if decide (sv < 0) = true then (1 : Int) else 0) = (fl : Int) := by rw [← hfi]; simp
        rw [f51'] at f51
        have hcol := S.colour
        have hsig := S.sign
        have z1 : IntKind.i64.wrap (3 * (B.colour : Int)) = 3 * (B.colour : Int) := wi64 (by omega) (by omega)
        have z2 : IntKind.i64.wrap (3 * (B.colour : Int) + B.sign) = ((3 * B.colour + B.sign : Nat) : Int) := by rw [wi64 (by omega) (by omega)]; omega
        have z3 : IntKind.i64.wrap (-y) = -y := wi64 (by omega) (by omega)
        unfold belowP at hR
        rw [← hsv, hfi] at hR
        -- behind the sign
        have key : ∀ g1 st1 bl, Cd D0 h0 c L B g1 (m + en - (j + 1) + 1) st1 lv → (sgsP B ((B.ord.take en).drop (i + 1)) (if bl = 1 then lv.set at_ (-y) else lv)).exec st1 = (some lvF, stF) →
            g1.rd1 q 6 = some (.sl L 0 (B.n * B.n) (.ex (B.n * B.n))) ∧ g1.rd1 L at_ = some (.int .i64 y) ∧ ∃ g2, g1.wr1 L at_ (.int .i64 (-y)) = some g2 ∧
            (∃ lv st, Cd D0 h0 c L B (if bl = 1 then g2 else g1) (m + en - j) st lv ∧ (sgsP B ((B.ord.take en).drop (en - j)) lv).exec st = (some lvF, stF)) := by
          intro g1 st1 bl C1 hR1
          obtain ⟨k1, C2⟩ := C1.set S (i := at_) (v := -y) hat (by omega)
          refine ⟨by rw [rd1_of (C1.gq S)]; rfl, by rw [C1.l.rd (by rw [C1.ll]; exact hat), hy], _, k1, ?_⟩
          rw [show en - j = i + 1 by omega]
          by_cases cb : bl = 1
          · rw [if_pos cb] at hR1 ⊢; exact ⟨_, _, C2.more (by omega) (by omega), hR1⟩
          · rw [if_neg cb] at hR1 ⊢; exact ⟨_, _, C1.more (by omega) (by omega), hR1⟩
        by_cases ca : at_ = 0
        · rw [if_pos ca] at hR
          have hR : (sgsP B ((B.ord.take en).drop (i + 1)) (if st.symV 30 (3 * B.colour + B.sign) (fl : Int) = 1 then lv.set at_ (-y) else lv)).exec (st.sym 30 (3 * B.colour + B.sign) (fl : Int)) = (some lvF, stF) := hR
          obtain ⟨w, g1, a1, rfl, C1⟩ := (sym50_ok S C (k := 30) (x := 3 * B.colour + B.sign) (v := (fl : Int)) (by omega) (by decide) (by show _ < 6; omega) ⟨by omega, by show (fl : Int) < 2; omega⟩).elim
          obtain ⟨r6, rL, g2, k1, I2⟩ := key g1 _ _ C1 hR
          rw [show ((30 : Nat) : Int) = 30 from rfl] at a1
          obtain ⟨bl, hbl⟩ : ∃ bl, bl = st.symV 30 (3 * B.colour + B.sign) (fl : Int) := ⟨_, rfl⟩
          rw [← hbl] at a1 I2
          by_cases cb : bl = 1
          · rw [if_pos cb] at I2
            rw [cb] at a1
            subst ca
            have s1' : iaS 1 vs (.int .i64 0) = some (.ptr b o) := s1
            have hat64' : (0 : Int) < (B.n : Int) * B.n := hat64
            simp [s1', hat64', l42_0, e14, e13, show (i : Int) < en by omega, hien, e12, o1, e0, q6, hat64, hat, rl, cy, q5, s1, s2, f51, q2, q3, z1, z2, -Int.natCast_add, a1, r6, rL, z3, k1, zi, -Int.natCast_mul]
            exact ⟨j, by omega, by omega, I2, by simp [e0], by simp [e12], by simp [e13], by simp [show en - j = i + 1 by omega]⟩
          · rw [if_neg cb] at I2
            subst ca
            have s1' : iaS 1 vs (.int .i64 0) = some (.ptr b o) := s1
            have hat64' : (0 : Int) < (B.n : Int) * B.n := hat64
            simp [s1', hat64', l42_0, e14, e13, show (i : Int) < en by omega, hien, e12, o1, e0, q6, hat64, hat, rl, cy, q5, s1, s2, f51, q2, q3, z1, z2, -Int.natCast_add, a1, r6, rL, z3, k1, zi, cb, show ¬ (bl : Int) = 1 by omega]
            exact ⟨j, by omega, by omega, I2, by simp [e0], by simp [e12], by simp [e13], by simp [show en - j = i + 1 by omega]⟩
        · rw [if_neg ca] at hR
          have hR : (sgsP B ((B.ord.take en).drop (i + 1)) (if st.numV 1 (fl : Int).toNat = 1 then lv.set at_ (-y) else lv)).exec (st.num 1 (fl : Int).toNat) = (some lvF, stF) := hR
          obtain ⟨w, g1, a1, rfl, C1⟩ := (num54_ok S C (n := 1) (v := (fl : Int)) (by omega) (by decide) (fun _ => by omega)).elim
          obtain ⟨r6, rL, g2, k1, I2⟩ := key g1 _ _ C1 hR
          rw [show ((1 : Nat) : Int) = 1 from rfl] at a1
          obtain ⟨bl, hbl⟩ : ∃ bl, bl = st.numV 1 (fl : Int).toNat := ⟨_, rfl⟩
          rw [← hbl] at a1 I2
          by_cases cb : bl = 1
          · rw [if_pos cb] at I2
            rw [cb] at a1
            simp [l42_0, e14, e13, show (i : Int) < en by omega, hien, e12, o1, e0, q6, hat64, hat, rl, cy, q5, s1, s2, f51, ca, -Int.natCast_add, a1, r6, rL, z3, k1, zi]
            exact ⟨j, by omega, by omega, I2, by simp [e0], by simp [e12], by simp [e13], by simp [show en - j = i + 1 by omega]⟩
          · rw [if_neg cb] at I2
            simp [l42_0, e14, e13, show (i : Int) < en by omega, hien, e12, o1, e0, q6, hat64, hat, rl, cy, q5, s1, s2, f51, ca, -Int.natCast_add, a1, r6, rL, z3, k1, zi, cb, show ¬ (bl : Int) = 1 by omega]
            exact ⟨j, by omega, by omega, I2, by simp [e0], by simp [e12], by simp [e13], by simp [show en - j = i + 1 by omega]⟩
  · rintro ⟨sx, se, sh⟩ ⟨h1, C⟩
    simp only at h1
    subst h1
    simp
    exact C
end cd
end Go.Proofs.Ytbajipmhnoakeaa
