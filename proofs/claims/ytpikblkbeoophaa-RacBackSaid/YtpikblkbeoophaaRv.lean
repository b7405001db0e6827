/- RacBack. -/
import Derived.Test.YtpikblkbeoophaaRu
set_option linter.unusedVariables false
set_option linter.unusedSimpArgs false
namespace Go.Proofs.Ytpikblkbeoophaa
open Go Go.Zf

def mp (p : Nat × Nat) : Nat × Nat := may p.1 p.2
theorem mp_ok (p : Nat × Nat) : (mp p).1 < (mp p).2 ∧ (mp p).2 ≤ 32768 := may_ok p.1 p.2
theorem mps_ok (l : List (Nat × Nat)) : ∀ p ∈ l.map mp, p.1 < p.2 ∧ p.2 ≤ 32768 := fun p hp => by
  obtain ⟨q, _, rfl⟩ := List.mem_map.mp hp
  exact mp_ok q
/-- m parts from the i-th on. -/
def mids (ps : List (Nat × Nat)) (i m : Nat) : List (Nat × Nat) := ((ps.drop i).take m).map mp
theorem mids_zero (ps : List (Nat × Nat)) (i : Nat) : mids ps i 0 = [] := by simp [mids]
theorem mids_succ {ps : List (Nat × Nat)} {i lo hi : Nat} (m : Nat) (hps : ps[i]? = some (lo, hi)) : mids ps i (m + 1) = may lo hi :: mids ps (i + 1) m := by
  have hl := (List.getElem?_eq_some_iff.mp hps).1
  unfold mids
  rw [List.drop_eq_getElem_cons hl, List.take_succ_cons, List.map_cons]
  congr 1
  have := List.getElem?_eq_getElem hl
  rw [hps] at this
  simp only [Option.some.injEq] at this
  rw [← this]; rfl
theorem puts_cons (s : St) (p : Nat × Nat) (l : List (Nat × Nat)) : puts s (p :: l) = puts (putS s p) l := rfl
theorem putS_def (s : St) (lo hi : Nat) : putS s (lo, hi) = put s.1 s.2.1 s.2.2 lo hi := rfl
theorem mids_ok (ps : List (Nat × Nat)) (i m : Nat) : ∀ p ∈ mids ps i m, p.1 < p.2 ∧ p.2 ≤ 32768 := mps_ok _
theorem bytes_def (out : List Nat) (low : Nat) : bytes out low = (emits 4 out low).1.take (trimN (emits 4 out low).1 (out.length + 4)) := rfl
theorem puts_nil (s : St) : puts s [] = s := rfl
attribute [local irreducible] putS puts at_ take value mids dread part may abt bytes
theorem putS_len {s : St} {p : Nat × Nat} (h : SOk s) (h2 : p.1 < p.2) (h3 : p.2 ≤ 32768) : (putS s p).1.length ≤ s.1.length + 2 := by
  have h4 := (put_at h h2 h3).2.1
  have h5 := (part_bounds h.2.1 h.2.2.1 h2 h3).2
  have h6 := steps3 h5
  rw [h4]; omega
theorem mid_within {s : St} {lo hi : Nat} {rs : List (Nat × Nat)} (h : SOk s) (h2 : lo < hi) (h3 : hi ≤ 32768) (hr : ∀ p ∈ rs, p.1 < p.2 ∧ p.2 ≤ 32768) :
    Within (at_ s.1 s.2.1 + (part s.2.2 lo hi).1) (part s.2.2 lo hi).2 s.1.length (at_ (puts (putS s (lo, hi)) rs).1 (puts (putS s (lo, hi)) rs).2.1) (puts (putS s (lo, hi)) rs).2.2 (puts (putS s (lo, hi)) rs).1.length := by
  obtain ⟨g1, g2, g3, g4⟩ := put_at h h2 h3
  refine Within.trans ⟨steps 3 (part s.2.2 lo hi).2, g2, Nat.le_of_eq g3.symm, ?_⟩ (puts_within rs g1 hr).2
  rw [g3, g4, ← Nat.add_mul]
  exact Nat.le_refl _

/-- An encoder in blocks of its own, from n on. -/
def EOne (h : H) (n p : Nat) (s : St) : Prop := ∃ v, EncAt h p 52 v s.1 s.2.1 (.int .u32 s.2.2) ∧ (∀ c, fp p v c → n ≤ c) ∧ n ≤ h.n
theorem EOne.keep {h h' : H} {n p : Nat} {s : St} (a : EOne h n p s) (hk : ∀ c, c < h.n → h'.get c = h.get c) (hn : h.n ≤ h'.n) : EOne h' n p s := by
  obtain ⟨v, a1, a2, a3⟩ := a
  exact ⟨v, a1.keep fun c _ hc => hk c hc, a2, by omega⟩
theorem eone_put {h : H} {n p : Nat} {s : St} (a : EOne h n p s) (hs : SOk s) (hlen : s.1.length < 1099511627000) {lo hi : Nat} (h2 : lo < hi) (h3 : hi ≤ 32768) :
    ∃ h', KK 12 [.ptr p 0, .int .u32 lo, .int .u32 hi] h = some (.ret (.int .i64 0), h') ∧ EOne h' n p (putS s (lo, hi)) ∧ ∀ c, c < n → h'.get c = h.get c := by
  obtain ⟨v, a1, a2, a3⟩ := a
  obtain ⟨h', v', k1, k2, k3⟩ := put12_ok a1 hs.2 hlen h2 h3
  have hn := k3.fr.1
  refine ⟨h', k1, ⟨v', by rw [putS_def]; exact k2, fun c hc => ?_, by omega⟩, fun c hc => k3.fr.2 c (by omega) fun hf => by have := a2 c hf; omega⟩
  rcases k3.fp c hc with h4 | h4
  · exact a2 c h4
  · omega

theorem parts_keep {h h' : H} {n : Nat} {lv : V} {ps : List (Nat × Nat)} (hP : PartsAt h lv ps) (hlv : ∀ b o l k, lv = .sl b o l k → b < n) (hk : ∀ c, c < n → h'.get c = h.get c) : PartsAt h' lv ps := by
  rcases hP with a | ⟨b', k', c', e', ro', e1, e2, e3⟩
  · exact .inl a
  · exact .inr ⟨b', k', c', e', ro', e1, by rw [hk b' (hlv _ _ _ _ e1), e2], e3⟩

theorem loop5_0 {lv : V} {ps : List (Nat × Nat)} {n P N : Nat} (hpl : N ≤ ps.length) (hN : N ≤ 400) (hlv : ∀ b o l k, lv = .sl b o l k → b < n) : ∀ (m i : Nat) (h : H) (e : E) (s : St), i + m = N → PartsAt h lv ps →
    EOne h n P s → SOk s → s.1.length ≤ 2 * i →
    e.s [0, 2, 3, 4, 5, 6, 7, 8, 9, 10, 11, 12] 0 = lv → e.s [0, 2, 3, 4, 5, 6, 7, 8, 9, 10, 11, 12] 3 = .ptr P 0 → e.s [0, 2, 3, 4, 5, 6, 7, 8, 9, 10, 11, 12] 4 = .int .i64 N → e.s [0, 2, 3, 4, 5, 6, 7, 8, 9, 10, 11, 12] 5 = .int .i64 i →
    ∃ e' h', loopZ (l5_0 KK loopZ) e h = some ⟨.ex 0, e', h'⟩ ∧ EOne h' n P (puts s (mids ps i m)) ∧ PartsAt h' lv ps ∧ (puts s (mids ps i m)).1.length ≤ 2 * N ∧
      e'.s [0, 2, 3, 4, 5, 6, 7, 8, 9, 10, 11, 12] 0 = lv ∧ e'.s [0, 2, 3, 4, 5, 6, 7, 8, 9, 10, 11, 12] 3 = .ptr P 0 ∧ e'.s [0, 2, 3, 4, 5, 6, 7, 8, 9, 10, 11, 12] 4 = .int .i64 N := by
  intro m
  induction m with
  | zero =>
    intro i h e s hm hP hE hs hlen h0 h3 h4 h5
    have hi : ¬ i < N := by omega
    rw [loopZ_eq]
    simp [l5_0, h0, h3, h4, h5, hi, show ¬ (i : Int) < N by omega]
    exact ⟨_, _, ⟨rfl, rfl⟩, by rw [mids_zero, puts_nil]; exact hE, hP, by rw [mids_zero, puts_nil]; omega, by simp, by simp, by simp⟩
  | succ m ih =>
    intro i h e s hm hP hE hs hlen h0 h3 h4 h5
    have hi : i < N := by omega
    obtain ⟨lo, hi', hps⟩ : ∃ lo hi, ps[i]? = some (lo, hi) := ⟨_, _, List.getElem?_eq_getElem (show i < ps.length by omega)⟩
    obtain ⟨b, b1, b2, b3, b4⟩ := hP.rd2 hps
    obtain ⟨m1, m2⟩ := may_ok lo hi'
    obtain ⟨f1, f2, f3, a1, a2, a3, a4, a5, a6, a7⟩ := may_new (h := h) b3 b4
    have hnn : n ≤ h.n := by obtain ⟨_, _, _, g⟩ := hE; exact g
    obtain ⟨g1, k1, k2, k3⟩ := eone_put (hE.keep a7 (by omega)) hs (by omega) m1 m2
    rw [mids_succ m hps, puts_cons]
    have hs' := (put_at hs m1 m2).1
    have hl' := putS_len (p := may lo hi') hs m1 m2
    have hP' := parts_keep (h' := g1) hP hlv fun c hc => by rw [k3 c hc, a7 c (by omega)]
    have hwr : IntKind.i64.wrap ((i : Int) + 1) = ((i + 1 : Nat) : Int) := by rw [wi64 (by omega) (by omega)]; simp
    obtain ⟨i1, hi1⟩ : ∃ i1, i1 = i + 1 := ⟨_, rfl⟩
    rw [← hi1] at hwr ⊢
    obtain ⟨my, hmy⟩ : ∃ my, my = may lo hi' := ⟨_, rfl⟩
    have hst : putS s (may lo hi') = putS s ((may lo hi').1, (may lo hi').2) := rfl
    rw [← hst, ← hmy] at k2 hs'
    rw [← hmy] at a1 a3 a4 k1 hl' ⊢
    rw [loopZ_eq]
    simp [l5_0, h0, h3, h4, h5, hi, show (i : Int) < N by omega, b1, b2, a1, a2, a3, rd1_of a4, k1, hwr]
    exact ih i1 g1 ⟨[lv, _, .ptr P 0, .int .i64 N, .int .i64 i1, _, _, _, _, _, _, _], 5, .int .i64 i1⟩ (putS s my) (by omega) hP' k2 hs' (by omega) (by simp) (by simp) (by simp) (by simp)

theorem loop5_1 {lv : V} {ps : List (Nat × Nat)} {n P N : Nat} {B : List Nat} {t : St} (hpl : N ≤ ps.length) (hN : N ≤ 400) (hlv : ∀ b o l k, lv = .sl b o l k → b < n) (hB : B = bytes t.1 t.2.1) (ht : SOk t) : ∀ (m i : Nat) (h : H) (e : E) (s : St) (rest : List Nat) (code rng : Nat), i + m = N → PartsAt h lv ps →
    DOne h n P rest code rng → DInv code rng → rest = B.drop (s.1.length + 4) → code = pre B (s.1.length + 4) - at_ s.1 s.2.1 → rng = s.2.2 → SOk s → puts s (mids ps i m) = t →
    e.s [0, 2, 3, 4, 5, 6, 7, 8, 9, 10, 11, 12] 0 = lv → e.s [0, 2, 3, 4, 5, 6, 7, 8, 9, 10, 11, 12] 8 = .ptr P 0 → e.s [0, 2, 3, 4, 5, 6, 7, 8, 9, 10, 11, 12] 4 = .int .i64 N → e.s [0, 2, 3, 4, 5, 6, 7, 8, 9, 10, 11, 12] 9 = .int .i64 i →
    ∃ e' h', loopZ (l5_1 KK loopZ) e h = some ⟨.ex 2, e', h'⟩ := by
  intro m
  induction m with
  | zero =>
    intro i h e s rest code rng hm hP hD hI hrest hcode hrng hs hput h0 h8 h4 h9
    have hi : ¬ i < N := by omega
    rw [loopZ_eq]
    simp [l5_1, h0, h8, h4, h9, hi, show ¬ (i : Int) < N by omega]
  | succ m ih =>
    intro i h e s rest code rng hm hP hD hI hrest hcode hrng hs hput h0 h8 h4 h9
    have hi : i < N := by omega
    obtain ⟨lo, hi', hps⟩ : ∃ lo hi, ps[i]? = some (lo, hi) := ⟨_, _, List.getElem?_eq_getElem (show i < ps.length by omega)⟩
    obtain ⟨b, b1, b2, b3, b4⟩ := hP.rd2 hps
    obtain ⟨m1, m2⟩ := may_ok lo hi'
    obtain ⟨f1, f2, f3, a1, a2, a3, a4, a5, a6, a7⟩ := may_new (h := h) b3 b4
    have hnn : n ≤ h.n := by obtain ⟨_, _, g1, g2⟩ := hD; omega
    rw [mids_succ m hps, puts_cons] at hput
    have hmid := mid_within hs m1 m2 (mids_ok ps (i + 1) m)
    have hst : putS s (may lo hi') = putS s ((may lo hi').1, (may lo hi').2) := rfl
    rw [← hst, hput] at hmid
    have hlie := bytes_lie ht hmid
    rw [← hB] at hlie
    obtain ⟨⟨q1, q2⟩, q3⟩ := dec_step hs m1 m2 hlie
    rw [← hcode, ← hrng] at q1 q2
    rw [← hcode, ← hrng, ← hrest, ← hst] at q3
    have hs' := (put_at hs m1 m2).1
    rw [← hst] at hs'
    have hD0 := hD.keep a7 (by omega)
    have hv := value21_ok hD0.choose_spec.1 hI
    obtain ⟨g1, k1, k2, k3, k4⟩ := done_take hD0 hI q1 q2 m2
    have hP' := parts_keep (h' := g1) hP hlv fun c hc => by
      have := hD0.choose_spec.2.1
      rw [k4.2 c (by omega), a7 c (by omega)]
    have hwr : IntKind.i64.wrap ((i : Int) + 1) = ((i + 1 : Nat) : Int) := by rw [wi64 (by omega) (by omega)]; simp
    obtain ⟨i1, hi1⟩ : ∃ i1, i1 = i + 1 := ⟨_, rfl⟩
    rw [← hi1] at hwr hput
    obtain ⟨vl, hvl⟩ : ∃ x, x = value code rng := ⟨_, rfl⟩
    rw [← hvl] at hv q1 q2
    obtain ⟨tk, htk⟩ : ∃ tk, tk = take rest code rng (may lo hi').1 (may lo hi').2 := ⟨_, rfl⟩
    rw [← htk] at k2 k3 q3
    obtain ⟨my, hmy⟩ : ∃ my, my = may lo hi' := ⟨_, rfl⟩
    rw [← hmy] at a1 a3 a4 k1 q1 q2 q3 hput hs'
    obtain ⟨u, hu⟩ : ∃ u, u = putS s my := ⟨_, rfl⟩
    rw [← hu] at q3 hs' hput
    obtain ⟨tr, tc, tg⟩ := tk
    dsimp only at k2 k3
    simp only [Prod.mk.injEq] at q3
    obtain ⟨t1, t2, t3⟩ := q3
    rw [loopZ_eq]
    simp [l5_1, h0, h8, h4, h9, hi, show (i : Int) < N by omega, b1, b2, a1, a2, a3, hv, rd1_of a4, k1, hwr, show ¬ (vl : Int) < my.1 by omega, show ¬ vl < my.1 by omega, show ¬ (my.2 : Int) ≤ vl by omega, show ¬ my.2 ≤ vl by omega]
    exact ih i1 g1 ⟨[lv, _, _, .int .i64 N, _, _, _, .ptr P 0, .int .i64 i1, _, _, _], 9, .int .i64 i1⟩ (u) tr tc tg (by omega) hP' k2 k3 t1 t2 t3 hs' hput (by simp) (by simp) (by simp) (by simp)

theorem back5_ok {h : H} {lv : V} {ps : List (Nat × Nat)} (hP : PartsAt h lv ps) (hpl : ps.length < 9223372036854775808) : ∃ h', KK 5 [lv] h = some (.ret (.bool true), h') := by
  obtain ⟨h1, w1, w2, w3⟩ := works17_ok h
  obtain ⟨h2, a2, b2, m2, d2⟩ := new10_ok h1
  have hP2 : PartsAt h2 lv ps := hP.keep (n := 0) fun c hc => by rw [d2 c (by omega), w3 c hc]
  have hlv : ∀ b o l k, lv = .sl b o l k → b < h1.n := fun b o l k e => by
    rcases hP with ⟨g, _⟩ | ⟨b', k', c', e', ro', g1, g2, g3⟩
    · rw [g] at e; cases e
    · rw [g1] at e; cases e; have := H.get_lt g2; omega
  obtain ⟨N, hN⟩ : ∃ N, N = min ps.length 400 := ⟨_, rfl⟩
  have hmin : minV [.int .i64 (ps.length : Int), .int .i64 400] = some (.int .i64 (N : Int)) := by
    simp [minV, foldV, min2V]
    split <;> omega
  have hE : EOne h2 h1.n h1.n ([], 0, 4294967295) := by
    refine ⟨.nils, b2, fun c hc => ?_, by omega⟩
    rcases hc with e | ⟨o, m, k, e⟩
    · omega
    · cases e
  have hS : SOk ([], 0, 4294967295) := ⟨⟨by simp, by simp, by simp [at_, bev], by simp⟩, by simp, by simp, by simp⟩
  obtain ⟨e3, h3, a3, E3, P3, L3, q0, q3, q4⟩ := loop5_0 (n := h1.n) (P := h1.n) (N := N) (by omega) (by omega) hlv N 0 h2 ⟨[lv, .bool false, .ptr h1.n 0, .int .i64 N, .int .i64 0, .und, .und, .und, .und, .und, .und, .und], 5, .int .i64 0⟩ ([], 0, 4294967295) (by omega) hP2 hE hS (by simp) (by simp) (by simp) (by simp) (by simp)
  obtain ⟨t, ht⟩ : ∃ t, t = puts ([], 0, 4294967295) (mids ps 0 N) := ⟨_, rfl⟩
  have hT : SOk t := by rw [ht]; exact (puts_within _ hS (mids_ok _ _ _)).1
  rw [← ht] at E3 L3
  obtain ⟨v3, x3, y3, z3⟩ := E3
  obtain ⟨h4, bv, k4, W4, n4, d4⟩ := bytes14_wr x3 hT.2 (by omega)
  obtain ⟨B, hB⟩ : ∃ B, B = bytes t.1 t.2.1 := ⟨_, rfl⟩
  have hBl : B.length ≤ t.1.length + 4 := by rw [hB, bytes_len]; exact trimN_le _ _
  have hlast : 0 < B.length → B[B.length - 1]? ≠ some 0 := by
    intro h0
    rw [hB] at h0 ⊢
    rw [bytes_len] at h0 ⊢
    rw [bytes_def]
    exact trim_last _ _ (by rw [emits_length]; exact Nat.le_refl _) h0
  rw [← hB] at W4
  have hbyte := W4.byte
  have hS4 := W4.slb
  have hln : lnS bv = some (.int .i64 B.length) := by
    rcases hS4 with ⟨rfl, h⟩ | ⟨b, o, k, c, e, ro, rfl, _⟩ <;> simp_all
  obtain ⟨h5, R, x5, a5, b5, m5, m5', d5⟩ := read19_ok hS4 (by omega) hbyte
  have dd := b5 (fun c => c = R) rfl (fun c h1 h2 h3 h4 => h3 h4)
  have hP5 : PartsAt h5 lv ps := (P3.keep (n := 0) d4).keep (n := 0) d5
  have hpre : dread B = (B.drop 4, pre B 4) := by
    have h0 := dsh_pre B 4 0
    rw [pre_zero] at h0
    simp only [List.drop_zero, Nat.zero_add] at h0
    have hw : Within 0 4294967295 0 (at_ t.1 t.2.1) t.2.2 t.1.length := by
      have := (puts_within (mids ps 0 N) hS (mids_ok _ _ _)).2
      rw [← ht] at this
      simpa [WithinS, at_, bev] using this
    have hl := (bytes_lie hT hw).2
    rw [← hB] at hl
    simp only [Nat.zero_add] at hl
    simp only [dread, h0]
    rw [Nat.min_eq_left (by omega)]
  obtain ⟨e6, h6, a6⟩ := loop5_1 (n := h1.n) (P := R) (N := N) (B := B) (t := t) (by omega) (by omega) hlv hB hT N 0 h5 ⟨[lv, e3.s [0, 2, 3, 4, 5, 6, 7, 8, 9, 10, 11, 12] 2, .ptr h1.n 0, .int .i64 N, e3.s [0, 2, 3, 4, 5, 6, 7, 8, 9, 10, 11, 12] 5, e3.s [0, 2, 3, 4, 5, 6, 7, 8, 9, 10, 11, 12] 6, bv, .ptr R 0, .int .i64 0,
    e3.s [0, 2, 3, 4, 5, 6, 7, 8, 9, 10, 11, 12] 10, e3.s [0, 2, 3, 4, 5, 6, 7, 8, 9, 10, 11, 12] 11, e3.s [0, 2, 3, 4, 5, 6, 7, 8, 9, 10, 11, 12] 12], 9, .int .i64 0⟩ ([], 0, 4294967295) (dread B).1 (dread B).2 4294967295 (by omega) hP5 ⟨x5, dd, by omega, m5'⟩ (dread_inv hbyte).1
    (by rw [hpre]; rfl) (by rw [hpre]; simp [at_, bev]) rfl hS ht.symm (by simp) (by simp) (by simp) (by simp)
  have w5 : IntKind.i64.wrap ((2 : Int) * N) = (2 : Int) * N := wi64 (by omega) (by omega)
  have w6 : IntKind.i64.wrap ((4 : Int) + 2 * N) = (4 : Int) + 2 * N := wi64 (by omega) (by omega)
  refine ⟨h6, ?_⟩
  rw [KK, c5, f5, s5]
  simp at a3
  by_cases hB0 : 0 < B.length
  · obtain ⟨x, hx⟩ : ∃ x, B[B.length - 1]? = some x := ⟨_, List.getElem?_eq_getElem (by omega)⟩
    have hx0 : x ≠ 0 := fun e => hlast hB0 (by rw [hx, e])
    have w7 : IntKind.i64.wrap ((B.length : Int) - 1) = ((B.length - 1 : Nat) : Int) := by rw [wi64 (by omega) (by omega)]; omega
    have hrd : ∃ b o, iaS 1 bv (.int .i64 ((B.length - 1 : Nat) : Int)) = some (.ptr b o) ∧ h4.rd1 b o = some (.int .u8 x) := by
      rcases hS4.at with ⟨rfl, h0⟩ | ⟨b, o, kk, c, e, ro, rfl, hb, hc⟩
      · rw [h0] at hB0; simp at hB0
      · exact ⟨b, o + (B.length - 1), by simp; omega, by rw [rd1_of hb, hc _ (by omega)]; simp [bytesV, hx]⟩
    obtain ⟨b, o, r1, r2⟩ := hrd
    obtain ⟨b1, hb1⟩ : ∃ b1, b1 = B.length - 1 := ⟨_, rfl⟩
    rw [← hb1] at w7 r1
    simp [w1, a2, hP.len, hmin, a3, q0, q3, q4, k4, hln, hB0, show (0 : Int) < B.length by omega, w7, r1, r2, hx0, w5, w6, show ¬ (4 : Int) + 2 * N < B.length by omega, a5, a6]
  · simp [w1, a2, hP.len, hmin, a3, q0, q3, q4, k4, hln, hB0, show ¬ (0 : Int) < B.length by omega, w5, w6, show ¬ (4 : Int) + 2 * N < B.length by omega, a5, a6]

theorem core5 {Hd : Type} {enc : TypeId × Value → Hd} {W : World} {base : Nat} {v0 : Value} {d0 : DataW Hd} {p0 : List MemPlace} {k : Prop}
    (hok : Value.okWide Try.prog W .any base 22 v0) (hd : DataW.Trod enc Try.prog W 0 (fun _ => true) true 22 v0 d0 p0) (hk : k) :
    Calls Try.prog 5 #[v0] W fun e W' => e = .returned (.bool true) ∧ Go.RowKit.Below W.heap.size W W' := by
  obtain ⟨i, h, x, l, a, _, hx, hP, _, _, hl⟩ := argParts (ArgH.empty W) hok hd
  obtain ⟨h', hr⟩ := back5_ok hP hl
  exact law_calls (us := [v0]) (callZ_ok mixed kp hr) a.rel (.cons hx .nil) a.dom a.no
end Go.Proofs.Ytpikblkbeoophaa
