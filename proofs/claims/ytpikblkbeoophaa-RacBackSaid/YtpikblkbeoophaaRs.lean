/- RacNoughts. -/
import Derived.Test.YtpikblkbeoophaaRr
set_option linter.unusedVariables false
set_option linter.unusedSimpArgs false
namespace Go.Proofs.Ytpikblkbeoophaa
open Go Go.Zf

/-! Noughts at the end do not count. -/
def Alike (a b : List Nat) : Prop := ∀ i, a.getD i 0 = b.getD i 0
theorem Alike.head {a b : List Nat} (h : Alike a b) : a.headD 0 = b.headD 0 := by
  have := h 0
  cases a <;> cases b <;> first | rfl | (simpa using this)
theorem Alike.tail {a b : List Nat} (h : Alike a b) : Alike a.tail b.tail := fun i => by
  have := h (i + 1)
  cases a <;> cases b <;> first | rfl | (simpa using this)
theorem Alike.dsh : ∀ (n : Nat) {a b : List Nat} (c : Nat), Alike a b → Alike (dsh n a c).1 (dsh n b c).1 ∧ (dsh n a c).2 = (dsh n b c).2
  | 0, a, b, c, h => ⟨h, rfl⟩
  | n + 1, a, b, c, h => by
    simp only [Ytpikblkbeoophaa.dsh]
    rw [h.head]
    exact Alike.dsh n _ h.tail
theorem Alike.read {a b : List Nat} (h : Alike a b) : Alike (dread a).1 (dread b).1 ∧ (dread a).2 = (dread b).2 := by
  have := Alike.dsh 4 0 h
  exact ⟨this.1, by simp only [dread, this.2]⟩
theorem Alike.renorm : ∀ (n : Nat) {a b : List Nat} (c w : Nat), Alike a b → Alike (drenorm n a c w).1 (drenorm n b c w).1 ∧ (drenorm n a c w).2 = (drenorm n b c w).2
  | 0, a, b, c, w, h => ⟨h, rfl⟩
  | n + 1, a, b, c, w, h => by
    simp only [drenorm]
    split
    · rw [h.head]
      exact Alike.renorm n _ _ h.tail
    · exact ⟨h, rfl⟩
theorem Alike.take {a b : List Nat} (h : Alike a b) (c r lo hi : Nat) : Alike (take a c r lo hi).1 (take b c r lo hi).1 ∧ (take a c r lo hi).2 = (take b c r lo hi).2 := Alike.renorm 3 _ _ h

/-- How many are left without the noughts at the end. -/
def shorter (l : List Nat) : Nat → Nat
  | 0 => 0
  | k + 1 => if l[k]? = some 0 then shorter l k else k + 1
theorem shorter_le (l : List Nat) : ∀ k, shorter l k ≤ k
  | 0 => Nat.le_refl _
  | k + 1 => by unfold shorter; split; exact Nat.le_succ_of_le (shorter_le l k); exact Nat.le_refl _
theorem shorter_alike (l : List Nat) : ∀ k, k ≤ l.length → Alike (l.take k) (l.take (shorter l k))
  | 0, _ => fun i => rfl
  | k + 1, hk => by
    unfold shorter
    split
    · rename_i h
      intro i
      rw [← shorter_alike l k (by omega) i]
      simp only [List.getD_eq_getElem?_getD, List.getElem?_take]
      by_cases h1 : i < k
      · simp [h1, show i < k + 1 by omega]
      · by_cases h2 : i = k
        · subst h2; simp [h]
        · simp [h1, show ¬ i < k + 1 by omega]
    · intro i; rfl
theorem alike_noughts (l : List Nat) (k : Nat) : Alike l (l ++ List.replicate k 0) := fun i => by
  simp only [List.getD_eq_getElem?_getD, List.getElem?_append, List.getElem?_replicate]
  by_cases h : i < l.length
  · simp [h]
  · simp [h]; split <;> simp

theorem reps_bytes : ∀ k, reps k [.int .u8 0] = bytesV (List.replicate k 0)
  | 0 => rfl
  | k + 1 => by simp [reps, reps_bytes k, bytesV, List.replicate_succ]

/-- A copy with noughts behind it. -/
theorem copy_long {h : H} {v : V} {l : List Nat} (g : SlB h v l) (hlen : l.length < 140737488355329 - 9) (k : Nat) (hk : k < 9) :
    ∃ h1 x h2 y, KK 18 [v] h = some (.ret x, h1) ∧ apM [.int .u8 0] 5 1 1 h1 x (.int .i64 (k : Nat)) = some (y, h2) ∧ SlB h2 y (l ++ List.replicate k 0) ∧ h.n ≤ h1.n ∧ h1.n ≤ h2.n ∧ ∀ c, c < h.n → h2.get c = h.get c := by
  by_cases hl : l = []
  · subst hl
    have h1 := g.len; have h2 := g.first
    simp at h1 h2
    have hc : KK 18 [v] h = some (.ret .nils, h) := by
      rw [KK, c18, f18, s18]
      simp [apZ, h1, h2, apN]
    by_cases hk0 : k = 0
    · subst hk0
      exact ⟨h, .nils, h, .nils, hc, by simp [apM, apN], .inl ⟨rfl, rfl⟩, Nat.le_refl _, Nat.le_refl _, fun _ _ => rfl⟩
    · refine ⟨h, .nils, _, _, hc, by simp [apM, apN, hk0, reps_bytes, show (k : Int) ≤ 140737488355328 by omega, show k ≤ 140737488355328 by omega]; exact ⟨rfl, rfl⟩, .inr ⟨h.n, 0, .op 1, _, _, _, by simp, get_new_same, by simp, by simp [List.take_of_length_le]⟩, Nat.le_refl _, by rw [H.n_new]; omega, fun c hc => get_new_lt hc⟩
  · have hll : l.length ≠ 0 := by simpa using hl
    obtain ⟨h1, hh1⟩ : ∃ h1, h1 = h.new (.cells (bytesV l) 5 false) := ⟨_, rfl⟩
    have g1 : h1.get h.n = some (.cells (bytesV l) 5 false) := by rw [hh1]; exact get_new_same
    have n1 : h1.n = h.n + 1 := by rw [hh1, H.n_new]
    have hc : KK 18 [v] h = some (.ret (.sl h.n 0 l.length (.op 1)), h1) := by
      rw [KK, c18, f18, s18]
      simp [apZ, g.len, g.first, apN, hll, show l.length ≤ 140737488355328 by omega, ← hh1]
    by_cases hk0 : k = 0
    · subst hk0
      exact ⟨h1, _, h1, .sl h.n 0 l.length (.op 1), hc, by simp [apM, apN], .inr ⟨h.n, 0, .op 1, _, _, _, by simp, g1, by simp, by simp [List.take_of_length_le]⟩, by omega, Nat.le_refl _, fun c hc => by rw [hh1, get_new_lt hc]⟩
    · refine ⟨h1, _, (h1.put h.n .dead).new (.cells (bytesV l ++ bytesV (List.replicate k 0)) 5 false), .sl h1.n 0 (l.length + k) (.op 1), hc, by simp [apM, apN, hk0, reps_bytes, g1, show (k : Int) ≤ 140737488355328 by omega, show l.length + k ≤ 140737488355328 by omega, List.take_of_length_le], .inr ⟨h1.n, 0, .op 1, bytesV l ++ bytesV (List.replicate k 0), 5, false, by simp, ?_, by simp, ?_⟩, by omega, by rw [H.n_new, H.n_put]; omega, fun c hc => ?_⟩
      · simp [H.get_new, H.n_put]
      · simp [List.take_of_length_le, bytesV]
      · rw [get_new_lt (by rw [H.n_put]; omega), get_put_ne (by omega), hh1, get_new_lt hc]

theorem bring27_ok (n : Int) : ∃ k : Nat, k < 9 ∧ ∀ h, KK 27 [.int .i64 n, .int .i64 9] h = some (.ret (.int .i64 k), h) := by
  have hm := Int.tmod_lt_of_pos n (show (0 : Int) < 9 by omega)
  have hm' := Int.lt_tmod_of_pos n (show (0 : Int) < 9 by omega)
  obtain ⟨m, hmm⟩ : ∃ m, m = n.tmod 9 := ⟨_, rfl⟩
  rw [← hmm] at hm hm'
  by_cases h0 : m < 0
  · refine ⟨(m + 9).toNat, by omega, fun h => ?_⟩
    have hw : IntKind.i64.wrap (m + 9) = ((m + 9).toNat : Int) := by rw [wi64 (by omega) (by omega)]; omega
    obtain ⟨y, hy⟩ : ∃ y, y = (m + 9).toNat := ⟨_, rfl⟩
    rw [← hy] at hw ⊢
    rw [KK, c27, f27, s27]
    simp [← hmm, h0, hw]
  · refine ⟨m.toNat, by omega, fun h => ?_⟩
    have hw : m = (m.toNat : Int) := by omega
    rw [KK, c27, f27, s27]
    simp [← hmm, h0]
    omega

theorem loop7_0 {bv : V} {l : List Nat} {h : H} (hB : SlB h bv l) (hl : l.length < 9223372036854775807) : ∀ (k : Nat) (e : E), k ≤ l.length →
    e.s [0, 1, 2, 6, 7, 8, 9, 10, 11, 12, 13, 15, 17, 19] 0 = bv → e.s [0, 1, 2, 6, 7, 8, 9, 10, 11, 12, 13, 15, 17, 19] 7 = .int .i64 k →
    ∃ e', loopZ (l7_0 KK loopZ) e h = some ⟨.ex 0, e', h⟩ ∧ e'.s [0, 1, 2, 6, 7, 8, 9, 10, 11, 12, 13, 15, 17, 19] 0 = bv ∧ e'.s [0, 1, 2, 6, 7, 8, 9, 10, 11, 12, 13, 15, 17, 19] 7 = .int .i64 (shorter l k : Nat) ∧
      e'.s [0, 1, 2, 6, 7, 8, 9, 10, 11, 12, 13, 15, 17, 19] 1 = e.s [0, 1, 2, 6, 7, 8, 9, 10, 11, 12, 13, 15, 17, 19] 1 ∧ e'.s [0, 1, 2, 6, 7, 8, 9, 10, 11, 12, 13, 15, 17, 19] 2 = e.s [0, 1, 2, 6, 7, 8, 9, 10, 11, 12, 13, 15, 17, 19] 2
  | 0, e, hk, h0, h7 => by
    rw [loopZ_eq]
    simp [l7_0, h0, h7, shorter]
  | k + 1, e, hk, h0, h7 => by
    obtain ⟨x, hx⟩ : ∃ x, l[k]? = some x := ⟨_, List.getElem?_eq_getElem (by omega)⟩
    have hrd : ∃ b o, iaS 1 bv (.int .i64 (k : Nat)) = some (.ptr b o) ∧ h.rd1 b o = some (.int .u8 x) := by
      rcases hB.at with ⟨rfl, rfl⟩ | ⟨b, o, kk, c, e, ro, rfl, hb, hc⟩
      · simp at hk
      · exact ⟨b, o + k, by simp [show k < l.length by omega], by rw [rd1_of hb, hc k (by omega)]; simp [bytesV, hx]⟩
    obtain ⟨b, o, b1, b2⟩ := hrd
    have hw : IntKind.i64.wrap (((k + 1 : Nat) : Int) - 1) = (k : Int) := by rw [wi64 (by omega) (by omega)]; omega
    obtain ⟨k1, hk1⟩ : ∃ k1, k1 = k + 1 := ⟨_, rfl⟩
    rw [← hk1] at hw h7
    have hs : shorter l (k + 1) = if x = 0 then shorter l k else k + 1 := by
      rw [shorter, hx]; simp
    rw [← hk1]
    rw [← hk1] at hs
    rw [loopZ_eq]
    by_cases hx0 : x = 0
    · subst hx0
      simp [l7_0, h0, h7, show (0 : Int) < k1 by omega, show 0 < k1 by omega, hw, b1, b2]
      obtain ⟨e', i1, i2, i3, i4, i5⟩ := loop7_0 hB hl k ⟨[bv, e.s [0, 1, 2, 6, 7, 8, 9, 10, 11, 12, 13, 15, 17, 19] 1, e.s [0, 1, 2, 6, 7, 8, 9, 10, 11, 12, 13, 15, 17, 19] 2, e.s [0, 1, 2, 6, 7, 8, 9, 10, 11, 12, 13, 15, 17, 19] 6, .int .i64 k, e.s [0, 1, 2, 6, 7, 8, 9, 10, 11, 12, 13, 15, 17, 19] 8, e.s [0, 1, 2, 6, 7, 8, 9, 10, 11, 12, 13, 15, 17, 19] 9,
        e.s [0, 1, 2, 6, 7, 8, 9, 10, 11, 12, 13, 15, 17, 19] 10, e.s [0, 1, 2, 6, 7, 8, 9, 10, 11, 12, 13, 15, 17, 19] 11, e.s [0, 1, 2, 6, 7, 8, 9, 10, 11, 12, 13, 15, 17, 19] 12, e.s [0, 1, 2, 6, 7, 8, 9, 10, 11, 12, 13, 15, 17, 19] 13, e.s [0, 1, 2, 6, 7, 8, 9, 10, 11, 12, 13, 15, 17, 19] 15, e.s [0, 1, 2, 6, 7, 8, 9, 10, 11, 12, 13, 15, 17, 19] 17, e.s [0, 1, 2, 6, 7, 8, 9, 10, 11, 12, 13, 15, 17, 19] 19], 7, .int .i64 k⟩ (by omega) (by simp) (by simp)
      rw [hs]
      exact ⟨e', i1, i2, by simpa using i3, by simpa using i4, by simpa using i5⟩
    · rw [hs, if_neg hx0]
      simp [l7_0, h0, h7, show (0 : Int) < k1 by omega, show 0 < k1 by omega, hw, b1, b2, hx0]

/-- Three decoders that stand alike. -/
structure D3 (h : H) (n p q r : Nat) (a b c : List Nat) (code rng : Nat) : Prop where
  d1 : ∃ v, DecAt h (fun x => x = p ∨ x = q ∨ x = r) p v a code rng
  d2 : ∃ v, DecAt h (fun x => x = p ∨ x = q ∨ x = r) q v b code rng
  d3 : ∃ v, DecAt h (fun x => x = p ∨ x = q ∨ x = r) r v c code rng
  pq : p ≠ q
  pr : p ≠ r
  qr : q ≠ r
  np : n ≤ p
  nq : n ≤ q
  nr : n ≤ r
  lp : p < h.n
  lq : q < h.n
  lr : r < h.n
  ab : Alike a b
  ac : Alike a c
theorem D3.keep {h h' : H} {n p q r : Nat} {a b c : List Nat} {code rng : Nat} (s : D3 h n p q r a b c code rng) (hk : ∀ c, c < h.n → h'.get c = h.get c) (hn : h.n ≤ h'.n) : D3 h' n p q r a b c code rng := by
  obtain ⟨⟨v1, s1⟩, ⟨v2, s2⟩, ⟨v3, s3⟩, x1, x2, x3, x4, x5, x6, x7, x8, x9, x10, x11⟩ := s
  exact ⟨⟨v1, s1.keep fun c hc _ => hk c hc⟩, ⟨v2, s2.keep fun c hc _ => hk c hc⟩, ⟨v3, s3.keep fun c hc _ => hk c hc⟩, x1, x2, x3, x4, x5, x6, by omega, by omega, by omega, x10, x11⟩
theorem d3_take {h : H} {n p q r : Nat} {a b c : List Nat} {code rng lo hi : Nat} (s : D3 h n p q r a b c code rng) (inv : DInv code rng) (h1 : lo ≤ value code rng) (h2 : value code rng < hi) (h3 : hi ≤ 32768) :
    ∃ g1 g2 g3 a' b' c' code' rng', KK 24 [.ptr p 0, .int .u32 lo, .int .u32 hi] h = some (.ret (.int .i64 0), g1) ∧ KK 24 [.ptr q 0, .int .u32 lo, .int .u32 hi] g1 = some (.ret (.int .i64 0), g2) ∧
      KK 24 [.ptr r 0, .int .u32 lo, .int .u32 hi] g2 = some (.ret (.int .i64 0), g3) ∧ D3 g3 n p q r a' b' c' code' rng' ∧ DInv code' rng' ∧ Only h g1 p ∧ Only g1 g2 q ∧ Only g2 g3 r := by
  obtain ⟨⟨v1, s1⟩, ⟨v2, s2⟩, ⟨v3, s3⟩, x1, x2, x3, x4, x5, x6, x7, x8, x9, x10, x11⟩ := s
  obtain ⟨g1, w1, k1, k2, k3⟩ := take24_ok s1 inv h1 h2 h3
  have s2' := s2.keep (h' := g1) fun c hc hx => k3.2 c (by rcases hx with rfl | hx; exact x1.symm; exact fun e => hx (.inl e))
  have s3' := s3.keep (h' := g1) fun c hc hx => k3.2 c (by rcases hx with rfl | hx; exact x2.symm; exact fun e => hx (.inl e))
  obtain ⟨g2, w2, l1, l2, l3⟩ := take24_ok s2' inv h1 h2 h3
  have k2' := k2.keep (h' := g2) fun c hc hx => l3.2 c (by rcases hx with rfl | hx; exact x1; exact fun e => hx (.inr (.inl e)))
  have s3'' := s3'.keep (h' := g2) fun c hc hx => l3.2 c (by rcases hx with rfl | hx; exact x3.symm; exact fun e => hx (.inr (.inl e)))
  obtain ⟨g3, w3, m1, m2, m3⟩ := take24_ok s3'' inv h1 h2 h3
  have k2'' := k2'.keep (h' := g3) fun c hc hx => m3.2 c (by rcases hx with rfl | hx; exact x2; exact fun e => hx (.inr (.inr e)))
  have l2' := l2.keep (h' := g3) fun c hc hx => m3.2 c (by rcases hx with rfl | hx; exact x3; exact fun e => hx (.inr (.inr e)))
  have e1 := x10.take code rng lo hi
  have e2 := x11.take code rng lo hi
  rw [← e1.2] at l2'
  rw [← e2.2] at m2
  exact ⟨g1, g2, g3, _, _, _, _, _, k1, l1, m1, ⟨⟨w1, k2''⟩, ⟨w2, l2'⟩, ⟨w3, m2⟩, x1, x2, x3, x4, x5, x6, by rw [m3.1, l3.1, k3.1]; exact x7, by rw [m3.1, l3.1, k3.1]; exact x8, by rw [m3.1, l3.1, k3.1]; exact x9, e1.1, e2.1⟩, (take_inv inv h1 h2 h3 s1.byte).1, k3, l3, m3⟩

theorem loop7_1 {lv : V} {ps : List (Nat × Nat)} {n p q r : Nat} : ∀ (m i : Nat) (h : H) (e : E) (a b c : List Nat) (code rng : Nat), m + i = 200 → PartsAt h lv ps → ps.length < 9223372036854775808 →
    (∀ b o l k, lv = .sl b o l k → b < n) → D3 h n p q r a b c code rng → DInv code rng →
    e.s [0, 1, 2, 6, 7, 8, 9, 10, 11, 12, 13, 15, 17, 19] 2 = lv → e.s [0, 1, 2, 6, 7, 8, 9, 10, 11, 12, 13, 15, 17, 19] 9 = .ptr p 0 → e.s [0, 1, 2, 6, 7, 8, 9, 10, 11, 12, 13, 15, 17, 19] 10 = .ptr q 0 → e.s [0, 1, 2, 6, 7, 8, 9, 10, 11, 12, 13, 15, 17, 19] 11 = .ptr r 0 →
    e.s [0, 1, 2, 6, 7, 8, 9, 10, 11, 12, 13, 15, 17, 19] 12 = .int .i64 i →
    ∃ e' h', loopZ (l7_1 KK loopZ) e h = some ⟨.ex 2, e', h'⟩
  | m, i, h, e, a, b, c, code, rng, hm, hP, hpl, hlv, hT, hI, h2, h9, h10, h11, h12 => by
    by_cases hlt : i < ps.length
    · by_cases h200 : i < 200
      · obtain ⟨m, rfl⟩ : ∃ m', m = m' + 1 := ⟨m - 1, by omega⟩
        obtain ⟨lo, hi, hps⟩ : ∃ lo hi, ps[i]? = some (lo, hi) := ⟨_, _, List.getElem?_eq_getElem hlt⟩
        obtain ⟨pb, b1, b2, b3, b4⟩ := hP.rd2 hps
        have hv1 := value21_ok hT.d1.choose_spec hI
        have hv2 := value21_ok hT.d2.choose_spec hI
        have hv3 := value21_ok hT.d3.choose_spec hI
        have hvl : value code rng ≤ 32767 := by unfold value; omega
        obtain ⟨q1, q2, q3⟩ := abt_ok (value code rng) lo hi hvl
        obtain ⟨f1, f2, f3, a1, a2, a3, a4, a5, a6, a7⟩ := about_new (h := h) (vl := value code rng) b3 b4
        obtain ⟨g1, g2, g3, a', b', c', code', rng', k1, k2, k3, k4, k5, k6, k7, k8⟩ := d3_take (hT.keep a7 (by omega)) hI q1 q2 q3
        have hpn := hT.lp
        have hqn := hT.lq
        have hrn := hT.lr
        have hwr : IntKind.i64.wrap ((i : Int) + 1) = ((i + 1 : Nat) : Int) := by rw [wi64 (by omega) (by omega)]; simp
        obtain ⟨i1, hi1⟩ : ∃ i1, i1 = i + 1 := ⟨_, rfl⟩
        rw [← hi1] at hwr
        have hPp : PartsAt g3 lv ps := by
          rcases hP with a | ⟨b', k', c', e', ro', e1, e2, e3⟩
          · exact .inl a
          · have := hlv _ _ _ _ e1
            have := hT.np
            have := hT.nq
            have := hT.nr
            have := H.get_lt e2
            exact .inr ⟨b', k', c', e', ro', e1, by rw [k8.2 b' (by omega), k7.2 b' (by omega), k6.2 b' (by omega), a7 b' (by omega), e2], e3⟩
        have a5' := a5
        have t1 : g1.get f1.n = some (.cells [.int .u32 (abt (value code rng) lo hi).1, .int .u32 (abt (value code rng) lo hi).2] 31 false) := by rw [k6.2 _ (by omega), a4]
        have t2 : g2.get f1.n = some (.cells [.int .u32 (abt (value code rng) lo hi).1, .int .u32 (abt (value code rng) lo hi).2] 31 false) := by rw [k7.2 _ (by omega), t1]
        obtain ⟨vl, hvv⟩ : ∃ x, x = value code rng := ⟨_, rfl⟩
        rw [← hvv] at hv1 hv2 hv3 a1 a3 a4 k1 k2 k3 hvl t1 t2
        obtain ⟨ab, hab⟩ : ∃ ab, ab = abt vl lo hi := ⟨_, rfl⟩
        rw [← hab] at a1 a3 a4 k1 k2 k3 t1 t2
        rw [loopZ_eq]
        simp [l7_1, h2, h9, h10, h11, h12, hP.len, hlt, show (i : Int) < ps.length by omega, h200, show (i : Int) < 200 by omega, hv1, hv2, hv3, b1, b2, a1, a2, a3, rd1_of a4, k1, rd1_of t1, k2, rd1_of t2, k3, hwr]
        exact loop7_1 m i1 g3 ⟨[_, _, lv, _, _, _, .ptr p 0, .ptr q 0, .ptr r 0, .int .i64 i1, _, _, _, _], 12, .int .i64 i1⟩ _ _ _ _ _ (by omega) hPp hpl hlv k4 k5 (by simp) (by simp) (by simp) (by simp) (by simp)
      · rw [loopZ_eq]
        simp [l7_1, h2, h9, h10, h11, h12, hP.len, hlt, show (i : Int) < ps.length by omega, h200, show ¬ (i : Int) < 200 by omega]
    · rw [loopZ_eq]
      simp [l7_1, h2, h9, h10, h11, h12, hP.len, hlt, show ¬ (i : Int) < ps.length by omega]

theorem noughts7_ok {h : H} {lv bv : V} {n : Int} {ps : List (Nat × Nat)} {l : List Nat} (hP : PartsAt h lv ps) (hpl : ps.length < 9223372036854775808) (hB : SlB h bv l) (hl : l.length < 140737488355329 - 9) (hb : ∀ x ∈ l, x < 256)
    (hcut : ∀ m, m ≤ l.length → ∃ y, slS 1 bv none (some (.int .i64 (m : Nat))) none = some y ∧ SlB h y (l.take m)) :
    ∃ h', KK 7 [bv, .int .i64 n, lv] h = some (.ret (.bool true), h') := by
  obtain ⟨h1, w1, w2, w3⟩ := works17_ok h
  have hB1 := hB.keep w3
  have hln : lnS bv = some (.int .i64 l.length) := by
    rcases hB with ⟨rfl, rfl⟩ | ⟨b, o, k, c, e, ro, rfl, _⟩ <;> simp
  obtain ⟨e2, a2, z0, z7, z1, z2⟩ := loop7_0 hB1 (by omega) l.length ⟨[bv, .int .i64 n, lv, .bool false, .int .i64 l.length, .und, .und, .und, .und, .und, .und, .und, .und, .und], 7, .int .i64 l.length⟩ (Nat.le_refl _) (by simp) (by simp)
  obtain ⟨m, hm⟩ : ∃ m, m = shorter l l.length := ⟨_, rfl⟩
  have hml : m ≤ l.length := by rw [hm]; exact shorter_le _ _
  have hal : Alike l (l.take m) := by
    have := shorter_alike l l.length (Nat.le_refl _)
    rw [List.take_length, ← hm] at this; exact this
  rw [← hm] at z7
  simp at z1 z2
  obtain ⟨k, hk9, br⟩ := bring27_ok n
  obtain ⟨h3, x3, h4, y4, b3, b4, b5, b6, b7, b8⟩ := copy_long hB1 (by omega) k hk9
  have hB4 : SlB h4 bv l := hB1.keep b8
  have hbl : ∀ x ∈ l ++ List.replicate k 0, x < 256 := fun x hx => by
    rcases List.mem_append.mp hx with h | h
    · exact hb x h
    · have := List.eq_of_mem_replicate h; omega
  have hbm : ∀ x ∈ l.take m, x < 256 := fun x hx => hb x (List.mem_of_mem_take hx)
  obtain ⟨h5, p, v5, a5, p5, m5, m5', d5⟩ := read19_ok hB4 (by omega) hb
  obtain ⟨y, hy1, hy2⟩ := hcut m hml
  have hy5 : SlB h5 y (l.take m) := ((hy2.keep w3).keep b8).keep d5
  obtain ⟨h6, q, v6, a6, p6, m6, m6', d6⟩ := read19_ok hy5 (by simp; omega) hbm
  have hB6 : SlB h6 y4 (l ++ List.replicate k 0) := (b5.keep d5).keep d6
  obtain ⟨h7, r, v7, a7, p7, m7, m7', d7⟩ := read19_ok hB6 (by simp; omega) hbl
  have hn5 : h5.n ≤ h6.n := by omega
  have X5 := p5 (fun x => x = p ∨ x = q ∨ x = r) (.inl rfl) (fun c h1 h2 h3 h4 => by rcases h4 with e | e | e <;> omega)
  have X6 := p6 (fun x => x = p ∨ x = q ∨ x = r) (.inr (.inl rfl)) (fun c h1 h2 h3 h4 => by rcases h4 with e | e | e <;> omega)
  have X7 := p7 (fun x => x = p ∨ x = q ∨ x = r) (.inr (.inr rfl)) (fun c h1 h2 h3 h4 => by rcases h4 with e | e | e <;> omega)
  have Y5 := (X5.keep (h' := h6) fun c hc _ => d6 c hc).keep (h' := h7) fun c hc _ => d7 c hc
  have Y6 := X6.keep (h' := h7) fun c hc _ => d7 c hc
  have r1 := hal.read
  have r2 := (alike_noughts l k).read
  rw [← r1.2] at Y6
  rw [← r2.2] at X7
  have hD : D3 h7 h4.n p q r _ _ _ _ _ := ⟨⟨_, Y5⟩, ⟨_, Y6⟩, ⟨_, X7⟩, by omega, by omega, by omega, by omega, by omega, by omega, by omega, by omega, by omega, r1.1, r2.1⟩
  have hk7 : ∀ c, c < h.n → h7.get c = h.get c := fun c hc => by rw [d7 c (by omega), d6 c (by omega), d5 c (by omega), b8 c (by omega), w3 c hc]
  have hP7 : PartsAt h7 lv ps := hP.keep (n := 0) hk7
  have hlv : ∀ b o l k, lv = .sl b o l k → b < h4.n := fun b o l k e => by
    rcases hP with ⟨g, _⟩ | ⟨b', k', c', e', ro', g1, g2, g3⟩
    · rw [g] at e; cases e
    · rw [g1] at e; cases e; have := H.get_lt g2; omega
  obtain ⟨e8, h8, a8⟩ := loop7_1 200 0 h7 ⟨[bv, .int .i64 n, lv, e2.s [0, 1, 2, 6, 7, 8, 9, 10, 11, 12, 13, 15, 17, 19] 6, .int .i64 (m : Nat), y4, .ptr p 0, .ptr q 0, .ptr r 0, .int .i64 0, e2.s [0, 1, 2, 6, 7, 8, 9, 10, 11, 12, 13, 15, 17, 19] 13, e2.s [0, 1, 2, 6, 7, 8, 9, 10, 11, 12, 13, 15, 17, 19] 15, e2.s [0, 1, 2, 6, 7, 8, 9, 10, 11, 12, 13, 15, 17, 19] 17, e2.s [0, 1, 2, 6, 7, 8, 9, 10, 11, 12, 13, 15, 17, 19] 19], 12, .int .i64 0⟩
    _ _ _ _ _ (by omega) hP7 hpl hlv hD (dread_inv hb).1 (by simp) (by simp) (by simp) (by simp) (by simp)
  refine ⟨h8, ?_⟩
  rw [KK, c7, f7, s7]
  simp at a2
  simp [w1, hln, a2, z0, z1, z2, z7, b3, br, b4, a5, hy1, a6, a7, a8]

theorem core7 {Hd : Type} {enc : TypeId × Value → Hd} {W : World} {base : Nat} {v0 v1 v2 : Value} {d0 d1 d2 : DataW Hd} {p0 p1 p2 : List MemPlace}
    (hok : Value.okWide Try.prog W .any base 32 v0) (hd : DataW.Trod enc Try.prog W 0 (fun _ => true) true 32 v0 d0 p0)
    (hokn : Value.okWide Try.prog W .any base 3 v1) (hdn : DataW.Trod enc Try.prog W 0 (fun _ => true) true 3 v1 d1 p1)
    (hok1 : Value.okWide Try.prog W .any base 22 v2) (hd1 : DataW.Trod enc Try.prog W 0 (fun _ => true) true 22 v2 d2 p2)
    (hk : (DataW.weightsEach Try.prog [32, 3, 22] [d0, d1, d2]).all (· ≤ reachBytes) = true) :
    Calls Try.prog 7 #[v0, v1, v2] W fun e W' => e = .returned (.bool true) ∧ Go.RowKit.Below W.heap.size W W' := by
  obtain ⟨i, h, x, l, a, _, hx, hB, n1, k1, hl, hb, hr, hcut⟩ := argBytes (ArgH.empty W) hok hd
  obtain ⟨nn, rfl, _, _⟩ := Go.ChangeShapes.open_int Try.underlying3 hokn hdn
  obtain ⟨i', h', y, ps, a', le, hy, hP, n2, k2, hpl⟩ := argParts a hok1 hd1
  have hl' := reach hk (j := 0) rfl rfl hr
  obtain ⟨h'', hrun⟩ := noughts7_ok (n := nn) hP hpl (hB.keep k2) (by omega) hb fun m hm => by
    obtain ⟨y, y1, y2⟩ := hcut m hm
    exact ⟨y, y1, y2.keep k2⟩
  exact law_calls (us := [v0, .int .i64 nn, v2]) (callZ_ok mixed kp hrun) a'.rel (.cons (hx.mono le) (.cons (.int _ _) (.cons hy .nil))) a'.dom a'.no
end Go.Proofs.Ytpikblkbeoophaa
