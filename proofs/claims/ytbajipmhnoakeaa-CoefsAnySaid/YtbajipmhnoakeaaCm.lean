/- All amounts. -/
import Derived.Test.YtbajipmhnoakeaaCj
set_option linter.unusedVariables false
set_option linter.unusedSimpArgs false
set_option maxRecDepth 20000
namespace Go.Proofs.Ytbajipmhnoakeaa
open Go Go.Zf
open Go.Zf (wi64)

section cd
variable {D0 : Nat → Prop} {h0 h h' : H} {q c ob L m : Nat} {vs : V} {B : BD} {st : St} {lv : List Int}

abbrev K41 : List Nat := [0, 1, 4, 5, 6, 7, 8]
structure I41 (D0 : Nat → Prop) (h0 : H) (q c L : Nat) (B : BD) (en M : Nat) (R : Option (List Int) × St) (j : Nat) (e : E) (g : H) : Prop where
  hj : j ≤ en
  ex : ∃ lv st, Cd D0 h0 c L B g (M - 46 * j) st lv ∧ (amsP B en j lv).exec st = R
  e0 : e.s K41 0 = .ptr q 0
  e1 : e.s K41 1 = .int .i64 (en : Nat)
  e4 : e.s K41 4 = .int .i64 ((j : Int) - 1)

/-- What a first symbol says of an amount. -/
theorem said_run (S : Base D0 h0 q c ob vs L B) {st : St} (ok : SetOk st.S) (en i : Nat) (lv : List Int) : ∃ said st', (saidP B en i lv).exec st = (some said, st') ∧ said ≤ 3 := by
  have hab := iabs_b (B.src.getD (B.ord.getD i 0) 0)
  have m2 := imin_b (iabs (B.src.getD (B.ord.getD i 0) 0)) 3
  have m1 := imax_b (imin (iabs (B.src.getD (B.ord.getD i 0) 0)) 3 - 1) 0
  have hcol := S.colour
  have mb := (baseP_b lv B.n (B.ord.getD i 0)).1
  have hv27 : vl 27 = 3 := by decide
  have hv28 : vl 28 = 4 := by decide
  unfold saidP
  split
  · have := St.symV_lt ok (k := 27) (x := B.colour) (v := imax (imin (iabs (B.src.getD (B.ord.getD i 0) 0)) 3 - 1) 0) (by decide) (by show B.colour < 2; omega) (fun _ => by rw [hv27]; omega)
    rw [hv27] at this
    exact ⟨_, _, rfl, by omega⟩
  · have := St.symV_lt ok (k := 28) (x := 5 * B.colour + baseP lv B.n (B.ord.getD i 0)) (v := imin (iabs (B.src.getD (B.ord.getD i 0) 0)) 3) (by decide) (by show _ < 10; omega) (fun _ => by rw [hv28]; omega)
    rw [hv28] at this
    exact ⟨_, _, rfl, by omega⟩

/-- How the amounts end: all are known, or they stop. -/
def AmEnd (D0 : Nat → Prop) (h0 : H) (c L : Nat) (B : BD) (M : Nat) (R : Option (List Int) × St) (ok : Bool) (h' : H) : Prop :=
  if ok then ∃ lvF stF, R = (some lvF, stF) ∧ Cd D0 h0 c L B h' M stF lvF else ∃ lvF stF, R = (none, stF) ∧ Cd D0 h0 c L B h' M stF lvF
theorem amounts41_any (S : Base D0 h0 q c ob vs L B) (C : Cd D0 h0 c L B h m st lv) {en : Nat} (hen : en ≤ B.n * B.n) (hm : m + 46 * en < 100000000) {R : Option (List Int) × St} (hR : (amsP B en en lv).exec st = R) :
    RP (fun w h' => AmEnd D0 h0 c L B (m + 46 * en) R true h') (fun h' => AmEnd D0 h0 c L B (m + 46 * en) R false h') (KW 41 [.ptr q 0, .int .i64 en] h) := by
  have hnn := S.nn
  have z0 : IntKind.i64.wrap ((en : Int) - 1) = (en : Int) - 1 := wi64 (by omega) (by omega)
  rw [w41, f41, s41]
  simp [z0]
  refine loop_in (C := fun o => RP _ _ (fin Try.prog _ _ (blk 0 o))) (I41 D0 h0 q c L B en (m + 46 * en) R) (fun s => (s.x = .ex 0 ∧ AmEnd D0 h0 c L B (m + 46 * en) R true s.h) ∨ (s.x = .pn (.iface 88 (.agg [.int .i64 4])) ∧ AmEnd D0 h0 c L B (m + 46 * en) R false s.h)) ?_ en
    ⟨Nat.le_refl _, ⟨lv, st, by rw [Nat.add_sub_cancel]; exact C, hR⟩, by simp, by simp, by simp⟩ ?_
  · intro j e g hi
    obtain ⟨hj, ⟨lv, st, C, hR⟩, e0, e1, e4⟩ := hi
    cases j with
    | zero =>
      simp at e4
      simp [l41_0, e4]
      have hR : (some lv, st) = R := hR
      subst hR
      exact .inl ⟨rfl, lv, st, rfl, C⟩
    | succ i =>
      have he4 : ((i + 1 : Nat) : Int) - 1 = (i : Int) := by omega
      rw [he4] at e4
      have hi : i < B.n * B.n := by omega
      have q4 : g.rd1 q 4 = some (.sl ob 0 (B.n * B.n) (.ex (B.n * B.n))) := by rw [rd1_of (C.gq S)]; rfl
      have q5 : g.rd1 q 5 = some vs := by rw [rd1_of (C.gq S)]; rfl
      have q2 : g.rd1 q 2 = some (.int .i64 (B.colour : Nat)) := by rw [rd1_of (C.gq S)]; rfl
      have q6 : g.rd1 q 6 = some (.sl L 0 (B.n * B.n) (.ex (B.n * B.n))) := by rw [rd1_of (C.gq S)]; rfl
      have q1 : g.rd1 q 1 = some (.int .i64 (B.size : Nat)) := by rw [rd1_of (C.gq S)]; rfl
      obtain ⟨o1, hat⟩ := C.o S hi
      obtain ⟨said, st1, b1, b2⟩ := said_run S C.C.ok.1 en i lv
      unfold amsP at hR
      rw [Pr.exec_some b1] at hR
      unfold saidP at b1
      obtain ⟨at_, hat_⟩ : ∃ at_, at_ = B.ord.getD i 0 := ⟨_, rfl⟩
      rw [← hat_] at o1 hat b1 hR
      obtain ⟨b, o, s1, s2⟩ := C.s S hat
      have hsb := S.src at_
      have hab := iabs_b (B.src.getD at_ 0)
      obtain ⟨sv, hsv⟩ : ∃ sv, sv = B.src.getD at_ 0 := ⟨_, rfl⟩
      rw [← hsv] at s2 hsb hab b1
      have z1 : IntKind.i64.wrap (-sv) = -sv := wi64 (by omega) (by omega)
      have hz : maxV [V.int .i64 sv, V.int .i64 (-sv)] = some (.int .i64 (iabs sv)) := maxV_i _ _ _
      have ck1 : ∀ {β : Type} (y : Option β), ck (some vs) vs y = y := fun y => ck_eq y rfl S.hs.same
      have m2 := imin_b (iabs sv) 3
      have m1 := imax_b (imin (iabs sv) 3 - 1) 0
      have hcol := S.colour
      have hv27 : vl 27 = 3 := by decide
      have hv28 : vl 28 = 4 := by decide
      have hi64 : (i : Int) < B.n * B.n := by rw [← Int.natCast_mul]; omega
      have hat64 : (at_ : Int) < B.n * B.n := by rw [← Int.natCast_mul]; omega
      have zi : IntKind.i64.wrap ((i : Int) - 1) = (i : Int) - 1 := wi64 (by omega) (by omega)
      have hM : m + 46 * en - 46 * (i + 1) + 46 = m + 46 * en - 46 * i := by omega
      -- behind the first symbol
      have key : ∀ g1, Cd D0 h0 c L B g1 (m + 46 * en - 46 * (i + 1) + 1) st1 lv → g1.rd1 q 6 = some (.sl L 0 (B.n * B.n) (.ex (B.n * B.n))) ∧ ((∃ v st2 g2, KW 56 [.ptr q 0, .int .i64 at_, .int .i64 said] g1 = some (.ret (.int .i64 (v : Nat)), g2) ∧ v < 4194304 ∧ Cd D0 h0 c L B g2 (m + 46 * en - 46 * i) st2 lv ∧ (amsP B en i (lv.set at_ v)).exec st2 = R ∧
          g2.rd1 q 6 = some (.sl L 0 (B.n * B.n) (.ex (B.n * B.n)))) ∨ ∃ g2, KW 56 [.ptr q 0, .int .i64 at_, .int .i64 said] g1 = some (.pan (.iface 88 (.agg [.int .i64 4])), g2) ∧ AmEnd D0 h0 c L B (m + 46 * en) R false g2) := by
        intro g1 C1
        have r1 : g1.rd1 q 6 = some (.sl L 0 (B.n * B.n) (.ex (B.n * B.n))) := by rw [rd1_of (C1.gq S)]; rfl
        refine ⟨r1, ?_⟩
        rcases (amount56_ok S C1 hat b2 (by omega)).elim with ⟨w, g2, a2, v, st2, d1, d2, rfl, C2⟩ | ⟨g2, a2, st2, d1, C2⟩
        · rw [Pr.exec_some d1] at hR
          exact .inl ⟨v, st2, g2, a2, d2, C2.more (by omega) (by omega), hR, by rw [rd1_of (C2.gq S)]; rfl⟩
        · rw [Pr.exec_none d1] at hR
          exact .inr ⟨g2, a2, lv, st2, hR.symm, C2.more (by omega) (by omega)⟩
      by_cases cl : i + 1 = en
      · rw [if_pos cl] at b1
        have hen1 : (i : Int) = (en : Int) - 1 := by omega
        obtain ⟨w, g1, a1, rfl, C1⟩ := (sym50_ok S C (k := 27) (x := B.colour) (v := imax (imin (iabs sv) 3 - 1) 0) (by omega) (by decide) (by show B.colour < 2; omega) (by rw [hv27]; omega)).elim
        rw [Pr.exec_sym, Pr.exec_done] at b1
        cases b1
        obtain ⟨r1, key⟩ := key g1 C1
        rw [show ((27 : Nat) : Int) = 27 from rfl] at a1
        obtain ⟨s, hs⟩ : ∃ s, s = st.symV 27 B.colour (imax (imin (iabs sv) 3 - 1) 0) := ⟨_, rfl⟩
        rw [← hs] at a1 key b2
        have z2 : IntKind.i64.wrap (1 + (s : Int)) = ((1 + s : Nat) : Int) := by rw [wi64 (by omega) (by omega)]; omega
        have z3 : IntKind.i64.wrap (imin (iabs sv) 3 - 1) = imin (iabs sv) 3 - 1 := wi64 (by omega) (by omega)
        have zen : IntKind.i64.wrap ((en : Int) - 1) = (i : Int) := by rw [wi64 (by omega) (by omega)]; omega
        rcases key with ⟨v, st2, g2, a2, d2, C2, hR2, r2⟩ | ⟨g2, a2, hE⟩
        rotate_left
        · simp [l41_0, e4, e0, q4, hi64, hi, o1, q5, s1, s2, z1, hz, -maxV2, -minV2, minV_i, ck1, e1, zen, z3, maxV_i, q2, a1, z2, -Int.natCast_add, a2, r1, hat64, hat, bc_pan, sq_pn]
          exact .inr ⟨rfl, hE⟩
        obtain ⟨k1, C3⟩ := C2.set S (i := at_) (v := (v : Int)) hat (by omega)
        obtain ⟨g3, hg3⟩ : ∃ y, y = g2.put L (.cells (intsV (lv.set at_ (v : Int))) 3 false) := ⟨_, rfl⟩
        rw [← hg3] at k1 C3
        simp [l41_0, e4, e0, q4, hi64, hi, o1, q5, s1, s2, z1, hz, -maxV2, -minV2, minV_i, ck1, e1, zen, z3, maxV_i, q2, a1, z2, -Int.natCast_add, a2, r1, r2, hat64, hat, k1, zi]
        exact ⟨i, by omega, by omega, ⟨_, _, C3, hR2⟩, by simp, by simp [e1], by simp⟩
      · rw [if_neg cl] at b1
        have hen1 : ¬ (i : Int) = (en : Int) - 1 := by omega
        obtain ⟨w, gb, ab, rfl, xb⟩ := (base55_ok (at_ := at_) S.size C.l (by rw [C.ll, S.n]) (by rw [← S.n]; exact hat)).elim
        rw [← S.n, C.ll] at ab
        have Cb := C.ext S xb
        have p2 : gb.rd1 q 2 = some (.int .i64 (B.colour : Nat)) := by rw [rd1_of (Cb.gq S)]; rfl
        have mb := (baseP_b lv B.n at_).1
        obtain ⟨ba, hba⟩ : ∃ ba, ba = baseP lv B.n at_ := ⟨_, rfl⟩
        rw [← hba] at ab b1 mb
        have z4 : IntKind.i64.wrap (5 * (B.colour : Int)) = 5 * (B.colour : Int) := wi64 (by omega) (by omega)
        have z5 : IntKind.i64.wrap (5 * (B.colour : Int) + ba) = ((5 * B.colour + ba : Nat) : Int) := by rw [wi64 (by omega) (by omega)]; omega
        obtain ⟨w, g1, a1, rfl, C1⟩ := (sym50_ok S Cb (k := 28) (x := 5 * B.colour + ba) (v := imin (iabs sv) 3) (by omega) (by decide) (by show _ < 10; omega) (by rw [hv28]; omega)).elim
        rw [Pr.exec_sym, Pr.exec_done] at b1
        cases b1
        obtain ⟨r1, key⟩ := key g1 C1
        rw [show ((28 : Nat) : Int) = 28 from rfl] at a1
        have zen : IntKind.i64.wrap ((en : Int) - 1) = (en : Int) - 1 := wi64 (by omega) (by omega)
        rcases key with ⟨v, st2, g2, a2, d2, C2, hR2, r2⟩ | ⟨g2, a2, hE⟩
        rotate_left
        · simp [l41_0, e4, e0, q4, hi64, hi, o1, q5, s1, s2, z1, hz, -maxV2, -minV2, minV_i, ck1, e1, zen, hen1, q6, q1, ab, p2, z4, z5, a1, -Int.natCast_add, a2, r1, hat64, hat, bc_pan, sq_pn]
          exact .inr ⟨rfl, hE⟩
        obtain ⟨k1, C3⟩ := C2.set S (i := at_) (v := (v : Int)) hat (by omega)
        obtain ⟨g3, hg3⟩ : ∃ y, y = g2.put L (.cells (intsV (lv.set at_ (v : Int))) 3 false) := ⟨_, rfl⟩
        rw [← hg3] at k1 C3
        simp [l41_0, e4, e0, q4, hi64, hi, o1, q5, s1, s2, z1, hz, -maxV2, -minV2, minV_i, ck1, e1, zen, hen1, q6, q1, ab, p2, z4, z5, a1, -Int.natCast_add, a2, r1, r2, hat64, hat, k1, zi]
        exact ⟨i, by omega, by omega, ⟨_, _, C3, hR2⟩, by simp, by simp [e1], by simp⟩
  · rintro ⟨sx, se, sh⟩ (⟨h1, C⟩ | ⟨h1, C⟩)
    · simp only at h1
      subst h1
      simp
      exact C
    · simp only at h1
      subst h1
      simp [blk_pn, fin_pn]
      exact ⟨rfl, C⟩
theorem amounts41_ok (S : Base D0 h0 q c ob vs L B) (C : Cd D0 h0 c L B h m st lv) {en : Nat} (hen : en ≤ B.n * B.n) (hm : m + 46 * en < 100000000) {lvF : List Int} {stF : St} (hR : (amsP B en en lv).exec st = (some lvF, stF)) :
    RT (fun w h' => Cd D0 h0 c L B h' (m + 46 * en) stF lvF) (KW 41 [.ptr q 0, .int .i64 en] h) := by
  rcases (amounts41_any S C hen hm hR).elim with ⟨w, h', e, lv', st', h1, h2⟩ | ⟨h', e, lv', st', h1, h2⟩
  · cases h1; rw [e]; exact h2
  · cases h1
end cd
end Go.Proofs.Ytbajipmhnoakeaa
