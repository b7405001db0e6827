/- New, Clone, Bytes, of both encoders. -/
import Derived.Test.YtpikblkbeoophaaRd
set_option linter.unusedVariables false
set_option linter.unusedSimpArgs false
namespace Go.Proofs.Ytpikblkbeoophaa
open Go Go.Zf

theorem new10_ok (h : H) : ∃ h', KK 10 [] h = some (.ret (.ptr h.n 0), h') ∧ EncAt h' h.n 52 .nils [] 0 (.int .u32 (4294967295 : Nat)) ∧ h'.n = h.n + 1 ∧ ∀ c, c < h.n → h'.get c = h.get c := by
  refine ⟨h.new (.cells [.nils, .int .u64 0, .int .u32 4294967295] 52 false), ?_, ⟨get_new_same, .inl ⟨rfl, rfl⟩, by simp, by omega⟩, rfl, fun c hc => get_new_lt hc⟩
  rw [KK, c10, f10, s10]
  simp [bl, fillW, bx, V.cells, splice]

theorem new11_ok (h : H) : ∃ h', KK 11 [] h = some (.ret (.ptr h.n 0), h') ∧ EncAt h' h.n 56 .nils [] 0 (.int .u64 (4294967295 : Nat)) ∧ h'.n = h.n + 1 ∧ ∀ c, c < h.n → h'.get c = h.get c := by
  refine ⟨h.new (.cells [.nils, .int .u64 0, .int .u64 4294967295] 56 false), ?_, ⟨get_new_same, .inl ⟨rfl, rfl⟩, by simp, by omega⟩, rfl, fun c hc => get_new_lt hc⟩
  rw [KK, c11, f11, s11]
  simp [bl, fillW, bx, V.cells, splice]

/-- Clone, of bytes that grow. -/
theorem clone_ok {h : H} {v : V} {out : List Nat} (g : Grow h v out) (hlen : out.length < 1099511627776) :
    ∃ h' v', KK 32 [v] h = some (.ret v', h') ∧ Grow h' v' out ∧ h.n ≤ h'.n ∧ (∀ c, c < h.n → h'.get c = h.get c) ∧ ∀ c o n k, v' = .sl c o n k → h.n ≤ c := by
  rcases g with ⟨rfl, rfl⟩ | ⟨b, rfl, hne, hb⟩
  · refine ⟨h, .nils, ?_, .inl ⟨rfl, rfl⟩, Nat.le_refl _, fun _ _ => rfl, fun c o n k e => by cases e⟩
    rw [KK, c32, f32, s32]
    simp
  · have hbl := H.get_lt hb
    have hll : out.length ≠ 0 := by simpa using hne
    obtain ⟨h1, hh1⟩ : ∃ h1, h1 = h.new (.cells [] 5 false) := ⟨_, rfl⟩
    have hb1 : h1.get b = some (.cells (bytesV out) 5 false) := by rw [hh1, get_new_lt hbl, hb]
    have hk : List.take out.length (bytesV out) = bytesV out := List.take_of_length_le (by simp)
    refine ⟨h1.new (.cells (bytesV out) 5 false), .sl h1.n 0 out.length (.op 1), ?_, .inr ⟨h1.n, rfl, hne, get_new_same⟩, by rw [H.n_new, hh1, H.n_new]; omega, fun c hc => ?_, fun c o n k e => ?_⟩
    · have hr0 : h1.get h.n = some (.cells [] 5 false) := by rw [hh1]; exact get_new_same
      rw [KK, c32, f32, s32]
      simp [bs, fillW, ← hh1, apZ, lenOf, firstV, H.rdN, hb1, apN, hr0, hk, hll, show out.length ≤ 140737488355328 by omega]
    · rw [get_new_lt (by rw [hh1, H.n_new]; omega), hh1, get_new_lt hc]
    · cases e; rw [hh1, H.n_new]; omega

def emits : Nat → List Nat → Nat → List Nat × Nat
  | 0, out, low => (out, low)
  | n + 1, out, low => emits n (emit out low).1 (emit out low).2

theorem loop14 (p : Nat) (t : TypeId) (rng : V) : ∀ (n : Nat) (h : H) (v : V) (out : List Nat) (low : Nat) (e : E), EncAt h p t v out low rng → low < 8589934592 → n ≤ 4 → out.length + n < 1099511627775 →
    e.s [0, 2, 3, 4, 24] 3 = .ptr p 0 → e.s [0, 2, 3, 4, 24] 24 = .int .i64 (4 - (n : Int)) →
    ∃ e' h' v', loopZ (l14_0 KK loopZ) e h = some ⟨.ex 0, e', h'⟩ ∧ e'.s [0, 2, 3, 4, 24] 3 = .ptr p 0 ∧
      EncAt h' p t v' (emits n out low).1 (emits n out low).2 rng ∧ Own h h' p v v'
  | 0, h, v, out, low, e, a, hlow, hn, hlen, he0, he1 => by
    rw [loopZ_eq]
    simp [l14_0, he0, he1]
    exact ⟨_, _, ⟨rfl, rfl⟩, by simp, v, a, Own.refl _ _ _⟩
  | n + 1, h, v, out, low, e, a, hlow, hn, hlen, he0, he1 => by
    obtain ⟨h1, v1, k1, k2, k3, k4⟩ := shift_ok a (by omega) hlow
    rw [loopZ_eq]
    simp [l14_0, he0, he1, show (4 : Int) - (n + 1) < 4 by omega, k1]
    have hw : IntKind.i64.wrap ((4 : Int) - (n + 1) + 1) = 4 - (n : Int) := by rw [wi64 (by omega) (by omega)]; omega
    rw [hw]
    obtain ⟨e', h', v', i1, i2, i4, i5⟩ := loop14 p t rng n h1 v1 _ _ ⟨[e.s [0, 2, 3, 4, 24] 0, e.s [0, 2, 3, 4, 24] 2, .ptr p 0, e.s [0, 2, 3, 4, 24] 4, .int .i64 (4 - (n : Int))], 24, .int .i64 (4 - (n : Int))⟩ k2
      (by have := emit_lt out low; omega) (by omega) (by rw [emit_length]; omega) (by simp) (by simp)
    exact ⟨e', h', i1, i2, v', i4, Own.trans ⟨k3, .inr k4⟩ i5⟩

theorem loop16 (p : Nat) (t : TypeId) (rng : V) : ∀ (n : Nat) (h : H) (v : V) (out : List Nat) (low : Nat) (e : E), EncAt h p t v out low rng → low < 8589934592 → n ≤ 4 → out.length + n < 1099511627775 →
    e.s [0, 2, 3, 4, 5] 3 = .ptr p 0 → e.s [0, 2, 3, 4, 5] 4 = .int .i64 (4 - (n : Int)) →
    ∃ e' h' v', loopZ (l16_0 KK loopZ) e h = some ⟨.ex 0, e', h'⟩ ∧ e'.s [0, 2, 3, 4, 5] 3 = .ptr p 0 ∧
      EncAt h' p t v' (emits n out low).1 (emits n out low).2 rng ∧ Own h h' p v v'
  | 0, h, v, out, low, e, a, hlow, hn, hlen, he0, he1 => by
    rw [loopZ_eq]
    simp [l16_0, he0, he1]
    exact ⟨_, _, ⟨rfl, rfl⟩, by simp, v, a, Own.refl _ _ _⟩
  | n + 1, h, v, out, low, e, a, hlow, hn, hlen, he0, he1 => by
    obtain ⟨h1, v1, k1, k2, k3, k4⟩ := goes_ok a (by omega) hlow
    rw [loopZ_eq]
    simp [l16_0, he0, he1, show (4 : Int) - (n + 1) < 4 by omega, k1]
    have hw : IntKind.i64.wrap ((4 : Int) - (n + 1) + 1) = 4 - (n : Int) := by rw [wi64 (by omega) (by omega)]; omega
    rw [hw]
    obtain ⟨e', h', v', i1, i2, i4, i5⟩ := loop16 p t rng n h1 v1 _ _ ⟨[e.s [0, 2, 3, 4, 5] 0, e.s [0, 2, 3, 4, 5] 2, .ptr p 0, .int .i64 (4 - (n : Int)), e.s [0, 2, 3, 4, 5] 5], 4, .int .i64 (4 - (n : Int))⟩ k2
      (by have := emit_lt out low; omega) (by omega) (by rw [emit_length]; omega) (by simp) (by simp)
    exact ⟨e', h', i1, i2, v', i4, Own.trans ⟨k3, .inr k4⟩ i5⟩

def trimN (out : List Nat) : Nat → Nat
  | 0 => 0
  | k + 1 => if out[k]? = some 0 then trimN out k else k + 1
theorem trimN_le (out : List Nat) : ∀ k, trimN out k ≤ k
  | 0 => Nat.le_refl _
  | k + 1 => by unfold trimN; split; exact Nat.le_succ_of_le (trimN_le out k); exact Nat.le_refl _

theorem trim14 (p b : Nat) (t : TypeId) (c1 c2 : V) (out : List Nat) (h : H) (hc : h.get p = some (.cells [.sl b 0 out.length (.op 1), c1, c2] t false)) (hb : h.get b = some (.cells (bytesV out) 5 false)) (hlen : out.length < 1099511627776) : ∀ (k : Nat) (e : E), k ≤ out.length →
    e.s [0, 2, 3, 4, 24] 3 = .ptr p 0 → e.s [0, 2, 3, 4, 24] 4 = .int .i64 k →
    ∃ e', loopZ (l14_1 KK loopZ) e h = some ⟨.ex 2, e', h⟩ ∧ e'.s [0, 2, 3, 4, 24] 3 = .ptr p 0 ∧ e'.s [0, 2, 3, 4, 24] 4 = .int .i64 (trimN out k)
  | 0, e, hk, he0, he1 => by
    rw [loopZ_eq]
    simp [l14_1, he0, he1, trimN]
  | k + 1, e, hk, he0, he1 => by
    obtain ⟨x, hx⟩ : ∃ x, out[k]? = some x := ⟨out[k], by simp⟩
    have hbx : (bytesV out)[k]? = some (.int .u8 x) := by simp [bytesV, hx]
    have hw : IntKind.i64.wrap (((k + 1 : Nat) : Int) - 1) = k := by rw [wi64 (by omega) (by omega)]; omega
    have hw' : IntKind.i64.wrap ((k : Int)) = k := wi64 (by omega) (by omega)
    have hkl : k < out.length := by omega
    obtain ⟨c, hcc⟩ : ∃ c, c = bytesV out := ⟨_, rfl⟩
    have hb0 := hb
    rw [← hcc] at hb hbx
    rw [loopZ_eq]
    by_cases h0 : x = 0
    · subst h0
      simp [l14_1, he0, he1, rd1_of hc, rd1_of hb, hbx, hw, hw', show (0 : Int) < (k : Int) + 1 by omega, hkl]
      obtain ⟨e', i1, i2, i3⟩ := trim14 p b t c1 c2 out h hc hb0 hlen k ⟨[e.s [0, 2, 3, 4, 24] 0, e.s [0, 2, 3, 4, 24] 2, .ptr p 0, .int .i64 k, e.s [0, 2, 3, 4, 24] 24], 4, .int .i64 k⟩ (by omega) (by simp) (by simp)
      refine ⟨e', i1, i2, ?_⟩
      rw [i3, trimN, hx]; simp
    · have ht : trimN out (k + 1) = k + 1 := by rw [trimN, hx]; simp [h0]
      simp [l14_1, he0, he1, rd1_of hc, rd1_of hb, hbx, hw, hw', show (0 : Int) < (k : Int) + 1 by omega, hkl, h0, ht]

theorem trim16 (p b : Nat) (t : TypeId) (c1 c2 : V) (out : List Nat) (h : H) (hc : h.get p = some (.cells [.sl b 0 out.length (.op 1), c1, c2] t false)) (hb : h.get b = some (.cells (bytesV out) 5 false)) (hlen : out.length < 1099511627776) : ∀ (k : Nat) (e : E), k ≤ out.length →
    e.s [0, 2, 3, 4, 5] 3 = .ptr p 0 → e.s [0, 2, 3, 4, 5] 5 = .int .i64 k →
    ∃ e', loopZ (l16_1 KK loopZ) e h = some ⟨.ex 2, e', h⟩ ∧ e'.s [0, 2, 3, 4, 5] 3 = .ptr p 0 ∧ e'.s [0, 2, 3, 4, 5] 5 = .int .i64 (trimN out k)
  | 0, e, hk, he0, he1 => by
    rw [loopZ_eq]
    simp [l16_1, he0, he1, trimN]
  | k + 1, e, hk, he0, he1 => by
    obtain ⟨x, hx⟩ : ∃ x, out[k]? = some x := ⟨out[k], by simp⟩
    have hbx : (bytesV out)[k]? = some (.int .u8 x) := by simp [bytesV, hx]
    have hw : IntKind.i64.wrap (((k + 1 : Nat) : Int) - 1) = k := by rw [wi64 (by omega) (by omega)]; omega
    have hw' : IntKind.i64.wrap ((k : Int)) = k := wi64 (by omega) (by omega)
    have hkl : k < out.length := by omega
    obtain ⟨c, hcc⟩ : ∃ c, c = bytesV out := ⟨_, rfl⟩
    have hb0 := hb
    rw [← hcc] at hb hbx
    rw [loopZ_eq]
    by_cases h0 : x = 0
    · subst h0
      simp [l16_1, he0, he1, rd1_of hc, rd1_of hb, hbx, hw, hw', show (0 : Int) < (k : Int) + 1 by omega, hkl]
      obtain ⟨e', i1, i2, i3⟩ := trim16 p b t c1 c2 out h hc hb0 hlen k ⟨[e.s [0, 2, 3, 4, 5] 0, e.s [0, 2, 3, 4, 5] 2, .ptr p 0, e.s [0, 2, 3, 4, 5] 4, .int .i64 k], 5, .int .i64 k⟩ (by omega) (by simp) (by simp)
      refine ⟨e', i1, i2, ?_⟩
      rw [i3, trimN, hx]; simp
    · have ht : trimN out (k + 1) = k + 1 := by rw [trimN, hx]; simp [h0]
      simp [l16_1, he0, he1, rd1_of hc, rd1_of hb, hbx, hw, hw', show (0 : Int) < (k : Int) + 1 by omega, hkl, h0, ht]
end Go.Proofs.Ytpikblkbeoophaa
