/- The document's coder: Bits. -/
import Derived.Test.YtfjghgjkpenanaaSal
set_option linter.unusedVariables false
set_option linter.unusedSimpArgs false
set_option maxRecDepth 20000
namespace Go.Proofs.Ytfjghgjkpenanaa
open Go Go.Zf
open Go.Zf (wi64)

structure I45 (h0 : H) (Ds : Nat → Prop) (p m n : Nat) (v : Int) (vo vi : V) (st0 : Side) (j : Nat) (e : E) (g : H) : Prop where
  hj : j ≤ n
  md : Mod Ds h0 g
  q : ∃ sd out, SideRef (grow Ds h0 g) g (m + (n - j)) vo vi sd ∧ SideOk (m + (n - j)) sd ∧ sd.writes = st0.writes ∧ out < pw (n - j) ∧ bits j v.toNat out sd = bits n v.toNat 0 st0 ∧ e.s [0, 1, 2, 6, 7, 8, 9, 10, 11] 8 = .int .i64 (out : Nat)
  e0 : e.s [0, 1, 2, 6, 7, 8, 9, 10, 11] 0 = .ptr p 0
  e1 : e.s [0, 1, 2, 6, 7, 8, 9, 10, 11] 1 = .int .i64 n
  e2 : e.s [0, 1, 2, 6, 7, 8, 9, 10, 11] 2 = .int .i64 v
  e9 : e.s [0, 1, 2, 6, 7, 8, 9, 10, 11] 9 = .int .i64 ((j : Int) - 1)

theorem loop45 {Ds : Nat → Prop} {h : H} {p m n : Nat} {v : Int} {vo vi vs ba bn : V} {sd0 : Side} (hp : h.get p = some (.cells [vo, vi, vs, ba, bn] 51 false)) (hDp : ¬ Ds p) (hn : n ≤ 30) (hm : m + n < 100000000) (hv : sd0.writes = true → 0 ≤ v) {e : E} {g : H} (hi : I45 h Ds p m n v vo vi sd0 n e g) :
    ∃ e' g', loopZ (l45_0 KW loopZ) e g = some ⟨.ex 0, e', g'⟩ ∧ I45 h Ds p m n v vo vi sd0 0 e' g' := by
  have loop := loop_run (body := l45_0 KW loopZ) (I45 h Ds p m n v vo vi sd0) (fun s => s.x = .ex 0 ∧ I45 h Ds p m n v vo vi sd0 0 s.e s.h)
    (fun j e g hi => by
      obtain ⟨hj, md, ⟨sd, out, q1, q2, q3, q4, q5, e8⟩, e0, e1, e2, e9⟩ := hi
      have hpl := H.get_lt hp
      have hpg : g.get p = _ := (md.get p hpl hDp).trans hp
      have hgn := md.n
      cases j with
      | zero =>
        simp [l45_0, e9]
        exact ⟨rfl, hj, md, ⟨sd, out, q1, q2, q3, q4, q5, by simp [e8]⟩, by simp [e0], by simp [e1], by simp [e2], by simp [e9]⟩
      | succ j =>
        obtain ⟨i, hi⟩ : ∃ i, i = n - (j + 1) := ⟨_, rfl⟩
        have hi2 : n - j = i + 1 := by omega
        rw [← hi] at q1 q2 q4
        have e9' : e.s [0, 1, 2, 6, 7, 8, 9, 10, 11] 9 = .int .i64 (j : Nat) := by rw [e9]; simp
        have hbm := Side.bit_may (v := v.toNat / 2 ^ j % 2) (by omega) sd
        have hpw : pw i ≤ pw 30 := Nat.pow_le_pow_right (by decide) (by omega)
        have hpw2 : pw (i + 1) = 2 * pw i := by simp [pw, Nat.pow_succ, Nat.mul_comm]
        have hp30 : pw 30 = 1073741824 := by decide
        have hmin : min j IntKind.i64.bits = j := Nat.min_eq_left (by rw [show IntKind.i64.bits = 64 from rfl]; omega)
        obtain ⟨b, hbe⟩ : ∃ b, b = sd.bit (v.toNat / 2 ^ j % 2) := ⟨_, rfl⟩
        rw [← hbe] at hbm
        have z4 : IntKind.i64.wrap ((out : Int) * 2) = out * 2 := wi64 (by omega) (by omega)
        have z5 : IntKind.i64.wrap ((out : Int) * 2 + b) = ((2 * out + b : Nat) : Int) := by rw [wi64 (by omega) (by omega)]; omega
        have z6 : IntKind.i64.wrap ((j : Int) - 1) = (j : Int) - 1 := wi64 (by omega) (by omega)
        have z7 : IntKind.u32.wrap (b : Int) = b := wu32 (by omega) (by omega)
        have z8 : IntKind.u32.wrap ((b : Int) * 16384) = b * 16384 := wu32 (by omega) (by omega)
        have z9 : IntKind.i64.wrap ((b : Int) + 1) = b + 1 := wi64 (by omega) (by omega)
        have z10 : IntKind.u32.wrap ((b : Int) + 1) = b + 1 := wu32 (by omega) (by omega)
        have z11 : IntKind.u32.wrap (((b : Int) + 1) * 16384) = b * 16384 + 16384 := by rw [wu32 (by omega) (by omega)]; omega
        have fin : ∀ (g1 : H) (e' : E), SideRef (grow (grow Ds h g) g g1) g1 (m + i + 1) vo vi (sd.code (b * 16384) (b * 16384 + 16384)) → Mod (grow Ds h g) g g1 → e'.s [0, 1, 2, 6, 7, 8, 9, 10, 11] 0 = .ptr p 0 → e'.s [0, 1, 2, 6, 7, 8, 9, 10, 11] 1 = .int .i64 n → e'.s [0, 1, 2, 6, 7, 8, 9, 10, 11] 2 = .int .i64 v → e'.s [0, 1, 2, 6, 7, 8, 9, 10, 11] 8 = .int .i64 ((2 * out + b : Nat) : Int) → e'.s [0, 1, 2, 6, 7, 8, 9, 10, 11] 9 = .int .i64 ((j : Int) - 1) → I45 h Ds p m n v vo vi sd0 j e' g1 := by
          intro g1 e' s1 M1 b0 b1 b2 b8 b9
          have M2 : Mod Ds h g1 := md.trans M1
          have M1n := M1.n
          refine ⟨by omega, M2, ⟨_, 2 * out + b, (s1.mono fun d hd hdd => ?_).more (by omega), ?_, by rw [Side.code_writes]; exact q3, by rw [hi2, hpw2]; omega, ?_, b8⟩, b0, b1, b2, b9⟩
          · rcases hdd with (hd1 | hd1) | hd1
            · exact .inl hd1
            · exact .inr ⟨hd1.1, hd⟩
            · exact .inr ⟨by omega, hd⟩
          · rw [hi2, ← Nat.add_assoc]; exact Side.code_ok q2 (by omega) hbm.2
          · rw [← q5, bits, ← hbe]
        cases sd with
        | w o lo r =>
          obtain ⟨e70, rfl, rfl, E1⟩ := q1
          have hv0 := hv (by rw [← q3]; rfl)
          obtain ⟨nv, rfl⟩ : ∃ nv : Nat, v = nv := ⟨v.toNat, by omega⟩
          have hbv : b = nv / 2 ^ j % 2 := by rw [hbe, Int.toNat_natCast]; rfl
          have hfd : ((nv : Int).fdiv (2 ^ j)) = ((nv / 2 ^ j : Nat) : Int) := by
            rw [Int.fdiv_eq_ediv_of_nonneg _ (Int.pow_nonneg (by decide))]; simp
          obtain ⟨qq, hqq⟩ : ∃ qq, qq = nv / 2 ^ j := ⟨_, rfl⟩
          rw [← hqq] at hfd hbv
          have hmd : (qq : Int).tmod 2 = (b : Nat) := by rw [hbv]; exact Int.ofNat_tmod qq 2
          obtain ⟨g1, a70, s1, M1⟩ := put70_ok E1 q2 hbm.2.1 hbm.2.2
          simp at a70
          simp [l45_0, e9', show ¬ (j : Int) < 0 by omega, e0, e1, e2, e8, rd1_of hpg, hmin, hfd, hmd, z7, z8, z9, z10, z11, a70, z4, z5, z6]
          exact ⟨j, Nat.lt_succ_self j, fin g1 _ ⟨_, rfl, rfl, s1⟩ M1 (by simp [e0]) (by simp [e1]) (by simp [e2]) (by simp [z4, z5]) (by simp [z6])⟩
        | r o lo r =>
          obtain ⟨e70, rfl, rfl, E1⟩ := q1
          have hE := E1
          obtain ⟨at_, ra, _, _⟩ := E1
          have a71 := value22_ok ra q2.1
          obtain ⟨g1, a73, s1, M1⟩ := take73_ok hE q2 hbm.2.1 hbm.2.2.1 hbm.2.2.2
          have hbv : b = value lo r / 16384 := by rw [hbe]; rfl
          have hd : ((value lo r : Nat) : Int).tdiv 16384 = (b : Int) := by rw [Int.tdiv_eq_ediv_of_nonneg (by omega), hbv]; simp
          have zb : IntKind.i64.wrap (b : Int) = b := wi64 (by omega) (by omega)
          simp at a73
          simp [l45_0, e9', show ¬ (j : Int) < 0 by omega, e0, e1, e2, e8, rd1_of hpg, a71, hd, zb, z7, z8, z9, z10, z11, a73, z4, z5, z6]
          exact ⟨j, Nat.lt_succ_self j, fin g1 _ ⟨_, rfl, rfl, s1.mono fun b hb hd => .inl hd⟩ M1 (by simp [e0]) (by simp [e1]) (by simp [e2]) (by simp [z4, z5]) (by simp [z6])⟩)
  obtain ⟨⟨x, e', g'⟩, r1, r2, r3⟩ := loop n e g hi
  simp only at r2 r3
  subst r2
  exact ⟨e', g', r1, r3⟩

theorem bits45_ok {D : Nat → Prop} {h : H} {p m n : Nat} {st : St} {v : Int} (a : CoderRef D h p m st) (hn : n ≤ 30) (hm : m + n < 100000000) (hv : st.sd.writes = true → 0 ≤ v ∧ v < pw n) :
    RT (fun w h' => w = .tup [.int .i64 (st.numV n v.toNat : Nat), .int .i64 0] ∧ CoderRef (grow D h h') h' p (m + n) (st.num n v.toNat) ∧ Mod D h h') (KW 45 [.ptr p 0, .int .i64 n, .int .i64 v] h) := by
  obtain ⟨vo, vi, vs, Ds, Dw, h1, h2, h3, h4, h5, h6, h7, h8, h9⟩ := a
  have hpl := H.get_lt h1
  have hDp : ¬ Ds p := fun hb => (h8 p hb).2.1 rfl
  obtain ⟨e', g', r1, I⟩ := loop45 (v := v) (n := n) (m := m) h1 hDp hn hm (fun hw => (hv hw).1)
    (e := ⟨[.ptr p 0, .int .i64 n, .int .i64 v, .int .i64 0, .int .i64 0, .int .i64 0, .int .i64 ((n : Int) - 1), .tup [], .tup []], 9, .int .i64 ((n : Int) - 1)⟩) (g := h)
    ⟨Nat.le_refl _, Mod.refl _ _, ⟨st.sd, 0, by rw [Nat.sub_self]; exact h3.mono fun b _ hb => .inl hb, by rw [Nat.sub_self]; exact h4, rfl, by rw [Nat.sub_self]; decide, rfl, by simp⟩, by simp, by simp, by simp, by simp⟩
  obtain ⟨_, md, ⟨sd, out, q1, q2, q3, q4, q5, e8⟩, e0, e1, e2, e9⟩ := I
  have q5' : (out, sd) = bits n v.toNat 0 st.sd := q5
  have hout : out = st.numV n v.toNat := by rw [St.numV, ← q5']
  have hsd : sd = (st.num n v.toNat).sd := by rw [St.num, ← q5']
  rw [Nat.sub_zero] at q1 q2
  have mn := md.n
  have hp' : g'.get p = _ := (md.get p hpl hDp).trans h1
  obtain ⟨g5, hg5⟩ : ∃ x, x = g'.put p (.cells [vo, vi, vs, .bool st.ad, .int .i64 (st.n + n)] 51 false) := ⟨_, rfl⟩
  have hw5 : g'.wr1 p 4 (.int .i64 (st.n + n)) = some g5 := by rw [wr1_of hp' (by simp), hg5]; rfl
  have zn : IntKind.i64.wrap (st.n + n) = st.n + n := wi64 (by omega) (by omega)
  have z1 : IntKind.i64.wrap ((n : Int) - 1) = (n : Int) - 1 := wi64 (by omega) (by omega)
  have hfin : CoderRef (grow D h g5) g5 p (m + n) (st.num n v.toNat) ∧ Mod D h g5 := by
    have hn5 : g5.n = g'.n := by rw [hg5, H.n_put]
    refine ⟨⟨vo, vi, vs, grow Ds h g', Dw, ?_, .inl h2, ?_, ?_, ?_, h6, ?_, fun b hb => ?_, fun b hb => ?_⟩, ⟨by omega, fun d hd hdd => ?_⟩⟩
    · rw [hg5, get_put_same (H.get_lt hp')]; rfl
    · rw [← hsd]
      exact q1.keep fun b hb hb2 => by
        rw [hg5, get_put_ne]; rintro rfl
        rcases hb with hb | hb
        · exact hDp hb
        · omega
    · rw [← hsd]; exact q2
    · exact h5.keep fun b hb hb2 => by rw [hg5, get_put_ne (h9 b hb).2.1, md.get b hb2 (h9 b hb).2.2.2]
    · show 0 ≤ st.n + n ∧ st.n + n ≤ 100 * ((m + n : Nat) : Int); omega
    · rcases hb with hb | hb
      · have := h8 b hb; exact ⟨.inl this.1, this.2.1, by omega⟩
      · exact ⟨.inr ⟨by omega, by omega⟩, by omega, by omega⟩
    · have := h9 b hb
      refine ⟨.inl this.1, this.2.1, by omega, ?_⟩
      rintro (h | h)
      · exact this.2.2.2 h
      · omega
    · rw [hg5, get_put_ne (fun e => hdd (by rw [e]; exact h2)), md.get d hd (fun hb => hdd (h8 d hb).1)]
  rw [← hout]
  rw [w45, f45, s45]
  cases hsdc : st.sd with
  | r o lo rr =>
    rw [hsdc] at h3
    obtain ⟨e, rfl, rfl, _⟩ := h3
    simp [show ¬ (n : Int) < 0 by omega, show ¬ (30 : Int) < n by omega, show ¬ 30 < n by omega, rd1_of h1, gl_t, z1, r1, e0, rd1_of hp', e1, zn, hw5, e8]
    exact ⟨rfl, hfin⟩
  | w o lo rr =>
    rw [hsdc] at h3
    obtain ⟨e, rfl, rfl, _⟩ := h3
    have hv1 := hv (by rw [hsdc]; rfl)
    have hmin : min n IntKind.i64.bits = n := Nat.min_eq_left (by rw [show IntKind.i64.bits = 64 from rfl]; omega)
    have hpl30 : pw n ≤ 1073741824 := by rw [show 1073741824 = pw 30 from rfl]; exact Nat.pow_le_pow_right (by decide) hn
    obtain ⟨P, hP⟩ : ∃ P, P = pw n := ⟨_, rfl⟩
    have hpw : (2 : Int) ^ n = P := by rw [hP, pw]; simp
    rw [← hP] at hv1 hpl30
    have zp : IntKind.i64.wrap (P : Int) = P := wi64 (by omega) (by omega)
    simp [show ¬ (n : Int) < 0 by omega, show ¬ (30 : Int) < n by omega, show ¬ 30 < n by omega, rd1_of h1, show ¬ v < 0 by omega, hmin, hpw, zp, show ¬ (P : Int) ≤ v by omega, gl_t, z1, r1, e0, rd1_of hp', e1, zn, hw5, e8]
    exact ⟨rfl, hfin⟩

theorem bits45_bad {D : Nat → Prop} {h : H} {p m : Nat} {st : St} {n v : Int} (a : CoderRef D h p m st) (no : ¬ (0 ≤ n ∧ n ≤ 30 ∧ (st.sd.writes = true → 0 ≤ v ∧ v < pw n.toNat))) : KW 45 [.ptr p 0, .int .i64 n, .int .i64 v] h = some (.ret (.tup [.int .i64 0, .int .i64 2]), h) := by
  obtain ⟨vo, vi, vs, Ds, Dw, h1, h2, h3, h4, h5, h6, h7, h8, h9⟩ := a
  rw [w45, f45, s45]
  by_cases c1 : n < 0
  · simp [c1, gl_t, gk_t]
  · by_cases c2 : 30 < n
    · simp [c1, c2, gl_t, gk_t]
    · cases hsd : st.sd with
      | r o lo r => rw [hsd] at no; exact (no ⟨by omega, by omega, fun h => by cases h⟩).elim
      | w o lo r =>
        rw [hsd] at no h3
        obtain ⟨e, rfl, rfl, _⟩ := h3
        by_cases c3 : v < 0
        · simp [c1, c2, rd1_of h1, c3, gl_t]
        · have c4 : (pw n.toNat : Int) ≤ v := by
            by_cases c4 : (pw n.toNat : Int) ≤ v
            · exact c4
            · exact (no ⟨by omega, by omega, fun _ => ⟨by omega, by omega⟩⟩).elim
          obtain ⟨k, rfl⟩ : ∃ k : Nat, n = k := ⟨n.toNat, by omega⟩
          rw [Int.toNat_natCast] at c4
          have hmin : min k IntKind.i64.bits = k := Nat.min_eq_left (by rw [show IntKind.i64.bits = 64 from rfl]; omega)
          have hpl30 : pw k ≤ 1073741824 := by rw [show 1073741824 = pw 30 from rfl]; exact Nat.pow_le_pow_right (by decide) (by omega)
          obtain ⟨P, hP⟩ : ∃ P, P = pw k := ⟨_, rfl⟩
          have hpw : (2 : Int) ^ k = P := by rw [hP, pw]; simp
          rw [← hP] at c4 hpl30
          have zp : IntKind.i64.wrap (P : Int) = P := wi64 (by omega) (by omega)
          simp [c1, c2, show ¬ 30 < k by omega, rd1_of h1, c3, hmin, hpw, zp, c4, gl_t]
end Go.Proofs.Ytfjghgjkpenanaa
