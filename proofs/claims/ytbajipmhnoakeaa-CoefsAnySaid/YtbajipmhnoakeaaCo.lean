/- Where the levels end. -/
import Derived.Test.YtbajipmhnoakeaaCn
set_option linter.unusedVariables false
set_option linter.unusedSimpArgs false
set_option maxRecDepth 20000
namespace Go.Proofs.Ytbajipmhnoakeaa
open Go Go.Zf
open Go.Zf (wi64)

/-- A size's numbers: so many places, so many classes. -/
theorem size_facts {s : Nat} (hs : sizeOk s) : ∃ K, sideP s * sideP s = 2 ^ K ∧ K ≤ 10 ∧ 4 ≤ K ∧ vl (ekP s) = K + 1 ∧ ekP s < 32 ∧ cx (ekP s) = 2 := by
  rcases hs with rfl | rfl | rfl | rfl | rfl
  · exact ⟨4, by decide, by decide, by decide, by decide, by decide, by decide⟩
  · exact ⟨6, by decide, by decide, by decide, by decide, by decide, by decide⟩
  · exact ⟨8, by decide, by decide, by decide, by decide, by decide, by decide⟩
  · exact ⟨10, by decide, by decide, by decide, by decide, by decide, by decide⟩
  · exact ⟨10, by decide, by decide, by decide, by decide, by decide, by decide⟩
theorem endTo_le (B : BD) : ∀ i, endTo B i ≤ i
  | 0 => Nat.le_refl _
  | i + 1 => by unfold endTo; split; exact Nat.le_refl _; exact Nat.le_trans (endTo_le B i) (Nat.le_succ _)
theorem cls_b {e K : Nat} (h0 : 1 ≤ e) (h : e ≤ 2 ^ K) (hK : 1 ≤ K) : clsP e ≤ K := by
  unfold clsP
  split
  · omega
  · have := (Nat.log2_lt (n := e - 1) (by omega)).2 (by omega : e - 1 < 2 ^ K)
    omega
theorem ext_b {e : Nat} (h0 : 1 ≤ e) (hc : clsP e ≠ 0) : 0 ≤ extP e ∧ extP e < 2 ^ (clsP e - 1) ∧ 2 ^ (clsP e - 1) + 1 + (extP e).toNat = e := by
  have h1 : e ≠ 1 := fun h => hc (by rw [h]; rfl)
  have hb := log2_b (x := e - 1) (by omega)
  unfold extP
  rw [if_neg h1]
  have e1 : clsP e - 1 = Nat.log2 (e - 1) := by unfold clsP; rw [if_neg h1]; rfl
  rw [e1]
  have pc := two_pow_cast (Nat.log2 (e - 1))
  have ps := Nat.pow_succ 2 (Nat.log2 (e - 1))
  omega

section cd
variable {D0 : Nat → Prop} {h0 h h' : H} {q c ob L m : Nat} {vs : V} {B : BD} {st : St} {lv : List Int}

abbrev K40 : List Nat := [0, 2, 3, 4, 5, 6, 8, 13, 14, 15]
structure I40 (g0 : H) (q ob : Nat) (B : BD) (j : Nat) (e : E) (g : H) : Prop where
  hj : j ≤ B.n * B.n
  hg : g = g0
  e0 : e.s K40 0 = .ptr q 0
  e3 : e.s K40 3 = .int .i64 (endTo B (B.n * B.n - j) : Nat)
  e13 : e.s K40 13 = .sl ob 0 (B.n * B.n) (.ex (B.n * B.n))
  e14 : e.s K40 14 = .int .i64 ((B.n * B.n : Nat) : Int)
  e15 : e.s K40 15 = .int .i64 ((B.n * B.n - j : Nat) : Int)
theorem loop40 (S : Base D0 h0 q c ob vs L B) (C : Cd D0 h0 c L B h m st lv) {e : E} {g : H} (hi : I40 h q ob B (B.n * B.n) e g) :
    ∃ e', loopZ (l40_0 KW loopZ) e g = some ⟨.ex 0, e', h⟩ ∧ I40 h q ob B 0 e' h := by
  have hnn := S.nn
  have loop := loop_run (body := l40_0 KW loopZ) (I40 h q ob B) (fun s => s.x = .ex 0 ∧ I40 h q ob B 0 s.e s.h) (fun j e g hi => by
    obtain ⟨hj, hg, e0, e3, e13, e14, e15⟩ := hi
    subst hg
    obtain ⟨N, hN⟩ : ∃ N, N = B.n * B.n := ⟨_, rfl⟩
    rw [← hN] at e14 e15 e3 e13 hj
    cases j with
    | zero =>
      rw [Nat.sub_zero] at e15
      simp [l40_0, e15, e14]
      refine ⟨rfl, by omega, rfl, by simp [e0], by simp [e3, ← hN], by simp [e13, ← hN], by rw [← hN]; simp [e14], by rw [← hN]; simp [e15]⟩
    | succ j =>
      obtain ⟨i, hi⟩ : ∃ i, i = N - (j + 1) := ⟨_, rfl⟩
      rw [← hi] at e15 e3
      have hiN : i < N := by omega
      obtain ⟨o1, hat⟩ := C.o S (i := i) (by omega)
      obtain ⟨b, o, s1, s2⟩ := C.s S hat
      have q5 : g.rd1 q 5 = some vs := by rw [rd1_of (C.gq S)]; rfl
      have zi : IntKind.i64.wrap ((i : Int) + 1) = ((i + 1 : Nat) : Int) := by rw [wi64 (by omega) (by omega)]; omega
      have hen : endTo B (i + 1) = if B.src.getD (B.ord.getD i 0) 0 ≠ 0 then i + 1 else endTo B i := rfl
      obtain ⟨at_, hat_⟩ : ∃ at_, at_ = B.ord.getD i 0 := ⟨_, rfl⟩
      rw [← hat_] at o1 hat s1 s2 hen
      obtain ⟨sv, hsv⟩ : ∃ sv, sv = B.src.getD at_ 0 := ⟨_, rfl⟩
      rw [← hsv] at s2 hen
      have hj1 : B.n * B.n - j = i + 1 := by omega
      have hiN' : (i : Int) < (N : Int) := by omega
      by_cases c0 : sv = 0
      · rw [if_neg (by simp [c0])] at hen
        subst c0
        simp [l40_0, e15, e14, hiN', hiN, e13, o1, e0, q5, s1, s2, zi, -Int.natCast_add]
        exact ⟨j, by omega, by omega, rfl, by simp [e0], by rw [hj1, hen]; simp [e3], by simp [e13, ← hN], by rw [← hN]; simp [e14], by rw [hj1]; simp⟩
      · rw [if_pos c0] at hen
        simp [l40_0, e15, e14, hiN', hiN, e13, o1, e0, q5, s1, s2, zi, c0, -Int.natCast_add]
        exact ⟨j, by omega, by omega, rfl, by simp [e0], by rw [hj1, hen]; simp, by simp [e13, ← hN], by rw [← hN]; simp [e14], by rw [hj1]; simp⟩)
    (B.n * B.n) e g hi
  obtain ⟨s, h1, h2, h3⟩ := loop
  obtain ⟨sx, se, sh⟩ := s
  have hg := h3.hg
  simp only at h2 hg h3
  subst h2
  subst hg
  exact ⟨se, h1, h3⟩

theorem end40_ok (S : Base D0 h0 q c ob vs L B) (C : Cd D0 h0 c L B h m st lv) (hm : m + 12 < 100000000) :
    RT (fun w h' => ∃ en st', (endP B).exec st = (some en, st') ∧ en ≤ B.n * B.n ∧ w = .int .i64 (en : Nat) ∧ Cd D0 h0 c L B h' (m + 12) st' lv) (KW 40 [.ptr q 0] h) := by
  have hnn := S.nn
  have hcol := S.colour
  obtain ⟨K, f1, f2, f3, f4, f5, f6⟩ := size_facts S.size
  rw [← S.n] at f1
  have q4 : h.rd1 q 4 = some (.sl ob 0 (B.n * B.n) (.ex (B.n * B.n))) := by rw [rd1_of (C.gq S)]; rfl
  have q1 : h.rd1 q 1 = some (.int .i64 (B.size : Nat)) := by rw [rd1_of (C.gq S)]; rfl
  have q2 : h.rd1 q 2 = some (.int .i64 (B.colour : Nat)) := by rw [rd1_of (C.gq S)]; rfl
  rw [w40, f40, s40]
  obtain ⟨N, hN⟩ : ∃ N, N = B.n * B.n := ⟨_, rfl⟩
  obtain ⟨e', r1, I⟩ := loop40 S C (e := ⟨[.ptr q 0, .int .i64 0, .int .i64 0, .tup [], .tup [], .tup [], .tup [], .sl ob 0 (B.n * B.n) (.ex (B.n * B.n)), .int .i64 ((B.n * B.n : Nat) : Int), .int .i64 0], 15, .int .i64 0⟩) (g := h)
    ⟨Nat.le_refl _, rfl, by simp, by simp [endTo], by simp, by simp, by simp⟩
  obtain ⟨_, _, e0, e3, e13, e14, e15⟩ := I
  rw [Nat.sub_zero] at e3
  simp only [K40] at e0 e3
  rw [← hN] at r1 q4 e3
  simp [q4, -Int.natCast_mul]
  rw [r1]
  -- the end of what is handed in
  have hol := S.ordl
  rw [← hN] at hol
  unfold endP
  rw [hol]
  have hle := endTo_le B N
  obtain ⟨E, hE⟩ : ∃ E, E = endTo B N := ⟨_, rfl⟩
  rw [← hE] at e3 hle ⊢
  have fb := flag51_ok (decide ((8 : Int) < B.size)) h
  have fz := flag51_ok (decide ((E : Int) = 0)) h
  obtain ⟨fl, hfl⟩ : ∃ fl : Nat, fl = if 8 < B.size then 1 else 0 := ⟨_, rfl⟩
  have hfl2 : fl ≤ 1 := by rw [hfl]; split <;> omega
  have hfi : (if decide ((8 : Int) < B.size) = true then (1 : Int) else 0) = (fl : Int) := by rw [hfl]; by_cases hc : 8 < B.size <;> simp [hc] <;> omega
  rw [hfi] at fb
  obtain ⟨zf, hzf⟩ : ∃ zf : Nat, zf = if E = 0 then 1 else 0 := ⟨_, rfl⟩
  have hzf2 : zf ≤ 1 := by rw [hzf]; split <;> omega
  have hzi : (if decide ((E : Int) = 0) = true then (1 : Int) else 0) = (zf : Int) := by rw [hzf]; by_cases hc : E = 0 <;> simp [hc]
  rw [hzi] at fz
  have hzi2 : (if E = 0 then (1 : Int) else 0) = (zf : Int) := by rw [hzf]; split <;> rfl
  rw [hzi2, ← hfl]
  obtain ⟨x, hx⟩ : ∃ x, x = 2 * B.colour + fl := ⟨_, rfl⟩
  have z1 : IntKind.i64.wrap (2 * (B.colour : Int)) = 2 * (B.colour : Int) := wi64 (by omega) (by omega)
  have z2 : IntKind.i64.wrap (2 * (B.colour : Int) + fl) = (x : Int) := by rw [wi64 (by omega) (by omega)]; omega
  rw [← hx]
  have hv22 : vl 22 = 2 := by decide
  have hc22 : cx 22 = 4 := by decide
  obtain ⟨w, g1, a1, rfl, C1⟩ := (sym50_ok S C (k := 22) (x := x) (v := (zf : Int)) (by omega) (by decide) (by rw [hc22]; omega) (by rw [hv22]; omega)).elim
  rw [show ((22 : Nat) : Int) = 22 from rfl] at a1
  rw [Pr.exec_sym]
  obtain ⟨z, hz⟩ : ∃ z, z = st.symV 22 x (zf : Int) := ⟨_, rfl⟩
  rw [← hz] at a1 ⊢
  have fz' : KW 51 [.bool (decide (E = 0))] h = some (.ret (.int .i64 zf), h) := by
    rw [← fz]; congr 3; simp
  by_cases cz : z = 1
  · rw [if_pos cz, Pr.exec_done]
    rw [cz] at a1
    simp [e0, q1, fb, e3, fz', q2, z1, z2, a1]
    exact ⟨0, _, ⟨rfl, rfl⟩, by omega, rfl, C1.more (by omega) hm⟩
  · rw [if_neg cz]
    have e1 : (E : Int) < 1 ↔ E = 0 := by omega
    have hmx : imax (E : Int) 1 = ((max E 1 : Nat) : Int) := by unfold imax; split <;> omega
    obtain ⟨M, hM⟩ : ∃ M, M = max E 1 := ⟨_, rfl⟩
    rw [← hM] at hmx ⊢
    have hM1 : 1 ≤ M := by omega
    have hM2 : M ≤ 2 ^ K := by omega
    have hM3 : M ≤ 1024 := by omega
    obtain ⟨y, cl⟩ := class52_ok hM1 hM3 g1
    have p1 : g1.rd1 q 1 = some (.int .i64 (B.size : Nat)) := by rw [rd1_of (C1.gq S)]; rfl
    have p2 : g1.rd1 q 2 = some (.int .i64 (B.colour : Nat)) := by rw [rd1_of (C1.gq S)]; rfl
    have hcls := cls_b hM1 hM2 (by omega)
    have hvc : (0 : Int) ≤ (clsP M : Nat) ∧ ((clsP M : Nat) : Int) < vl (ekP B.size) := by rw [f4]; omega
    obtain ⟨w, g2, a2, rfl, C2⟩ := (sym50_ok S C1 (k := ekP B.size) (x := B.colour) (v := (clsP M : Nat)) (by omega) f5 (by rw [f6]; omega) hvc).elim
    have hlt := St.symV_lt C1.C.ok.1 (k := ekP B.size) (x := B.colour) (v := (clsP M : Nat)) f5 (by rw [f6]; omega) (fun _ => hvc)
    rw [f4] at hlt
    rw [Pr.exec_sym]
    obtain ⟨st1, hst1⟩ : ∃ s, s = st.sym 22 x (zf : Int) := ⟨_, rfl⟩
    rw [← hst1] at C1 C2 a2 hlt ⊢
    obtain ⟨cc, hcc⟩ : ∃ cc, cc = st1.symV (ekP B.size) B.colour ((clsP M : Nat) : Int) := ⟨_, rfl⟩
    rw [← hcc] at a2 hlt ⊢
    obtain ⟨st2, hst2⟩ : ∃ s, s = st1.sym (ekP B.size) B.colour ((clsP M : Nat) : Int) := ⟨_, rfl⟩
    rw [← hst2] at C2 ⊢
    have k53 := kind53_ok B.size g1
    by_cases cc0 : cc = 0
    · rw [if_pos cc0, Pr.exec_done]
      rw [cc0] at a2
      simp [e0, q1, fb, e3, fz', q2, z1, z2, a1, cz, show ¬ (z : Int) = 1 by omega, maxV_i, -maxV2, hmx, cl, p1, k53, p2, a2]
      exact ⟨1, _, ⟨rfl, rfl⟩, by omega, rfl, C2.more (by omega) hm⟩
    · rw [if_neg cc0]
      obtain ⟨k, hk⟩ : ∃ k, cc = k + 1 := ⟨cc - 1, by omega⟩
      have hk10 : k ≤ 9 := by omega
      have hwr : B.wr = true → 0 ≤ extP M ∧ extP M < 2 ^ k := by
        intro hw
        have hw1 : st1.sd.writes = true := by rw [C1.wr, hw]
        have := St.symV_w hw1 (ekP B.size) B.colour ((clsP M : Nat) : Int)
        rw [← hcc, Int.toNat_natCast] at this
        have := ext_b hM1 (by omega)
        rw [show clsP M - 1 = k by omega] at this
        omega
      rw [show cc - 1 = k by omega, Pr.exec_num, Pr.exec_done]
      obtain ⟨w, g3, a3, rfl, C3⟩ := (num54_ok S C2 (n := k) (v := extP M) (by omega) (by omega) hwr).elim
      have hnlt := St.numV_lt C2.C.ok.2.1 (n := k) (v := (extP M).toNat) (by omega)
      obtain ⟨X, hX⟩ : ∃ X, X = st2.numV k (extP M).toNat := ⟨_, rfl⟩
      rw [← hX] at a3 hnlt ⊢
      have pk : (2 : Nat) ^ k ≤ 512 := Nat.pow_le_pow_right (by decide) hk10
      have pc := two_pow_cast k
      have p0 := Nat.two_pow_pos k
      have z3 : IntKind.i64.wrap ((cc : Int) - 1) = (k : Int) := by rw [wi64 (by omega) (by omega)]; omega
      have mk : min k 64 = k := by omega
      have z4 : IntKind.i64.wrap ((2 : Int) ^ k) = 2 ^ k := wi64 (by omega) (by omega)
      have z5 : IntKind.i64.wrap ((2 : Int) ^ k + 1) = 2 ^ k + 1 := wi64 (by omega) (by omega)
      have z6 : IntKind.i64.wrap ((2 : Int) ^ k + 1 + X) = ((2 ^ k + 1 + X : Nat) : Int) := by rw [wi64 (by omega) (by omega)]; omega
      have hend : 2 ^ k + 1 + X ≤ B.n * B.n := by
        rw [f1]
        have : 2 ^ (k + 1) ≤ 2 ^ K := Nat.pow_le_pow_right (by decide) (by omega)
        rw [Nat.pow_succ] at this
        omega
      simp [e0, q1, fb, e3, fz', q2, z1, z2, a1, cz, show ¬ (z : Int) = 1 by omega, maxV_i, -maxV2, hmx, cl, p1, k53, p2, a2, cc0, show ¬ (cc : Int) = 0 by omega, z3, a3, mk, IntKind.bits, z4, z5, z6, -Int.natCast_add, show ¬ (k : Int) < 0 by omega]
      exact ⟨_, _, ⟨rfl, rfl⟩, hend, rfl, C3.more (by omega) hm⟩
end cd
end Go.Proofs.Ytbajipmhnoakeaa
