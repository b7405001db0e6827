/- works: a part is put, and found. -/
import Derived.Test.YtpikblkbeoophaaRk
set_option linter.unusedVariables false
set_option linter.unusedSimpArgs false
namespace Go.Proofs.Ytpikblkbeoophaa
open Go Go.Zf

/-- A slice of bytes in a block of its own, that may be written. -/
def Wr (h : H) (n : Nat) (v : V) (l : List Nat) : Prop :=
  ∃ b k L, v = .sl b 0 l.length k ∧ n ≤ b ∧ h.get b = some (.cells (bytesV L) 5 false) ∧ l.length ≤ L.length ∧ L.take l.length = l ∧ ∀ x ∈ L, x < 256
theorem Wr.slb {h : H} {n : Nat} {v : V} {l : List Nat} (a : Wr h n v l) : SlB h v l := by
  obtain ⟨b, k, L, h1, h2, h3, h4, h5, h6⟩ := a
  exact .inr ⟨b, 0, k, _, _, _, h1, h3, by simpa using h4, by rw [List.drop_zero]; unfold bytesV; rw [← List.map_take, h5]⟩
theorem Wr.byte {h : H} {n : Nat} {v : V} {l : List Nat} (a : Wr h n v l) : ∀ x ∈ l, x < 256 := by
  obtain ⟨b, k, L, h1, h2, h3, h4, h5, h6⟩ := a
  intro x hx; rw [← h5] at hx; exact h6 x (List.mem_of_mem_take hx)
theorem bytes_len (out : List Nat) (low : Nat) : (bytes out low).length = trimN (emits 4 out low).1 (out.length + 4) := by
  unfold bytes
  rw [List.length_take, emits_length]
  exact Nat.min_eq_left (trimN_le _ _)
theorem bytes14_wr {h : H} {p : Nat} {t : TypeId} {v : V} {out : List Nat} {low rng : Nat} (a : EncAt h p t v out low (.int .u32 rng)) (inv : EInv low rng) (hlen : out.length < 1099511627000) :
    ∃ h' v', KK 14 [.ptr p 0] h = some (.ret v', h') ∧ Wr h' h.n v' (bytes out low) ∧ h.n ≤ h'.n ∧ ∀ c, c < h.n → h'.get c = h.get c := by
  obtain ⟨h', b, k1, k2, k3, k4, k5, k6⟩ := bytes14_ok a inv hlen
  refine ⟨h', _, k1, ⟨b, _, (emits 4 out low).1, by rw [bytes_len], k4, k2, ?_, ?_, k3⟩, k5, k6⟩
  · rw [bytes_len, emits_length]; exact trimN_le _ _
  · rw [bytes_len]; rfl
theorem bytes16_wr {h : H} {p : Nat} {t : TypeId} {v : V} {out : List Nat} {low rng : Nat} (a : EncAt h p t v out low (.int .u64 rng)) (inv : EInv low rng) (hlen : out.length < 1099511627000) :
    ∃ h' v', KK 16 [.ptr p 0] h = some (.ret v', h') ∧ Wr h' h.n v' (bytes out low) ∧ h.n ≤ h'.n ∧ ∀ c, c < h.n → h'.get c = h.get c := by
  obtain ⟨h', b, k1, k2, k3, k4, k5, k6⟩ := bytes16_ok a inv hlen
  refine ⟨h', _, k1, ⟨b, _, (emits 4 out low).1, by rw [bytes_len], k4, k2, ?_, ?_, k3⟩, k5, k6⟩
  · rw [bytes_len, emits_length]; exact trimN_le _ _
  · rw [bytes_len]; rfl

theorem Own.keep {h h' : H} {p n : Nat} {v v' : V} (a : Own h h' p v v') (hp : n ≤ p) (hv : ∀ c o m k, v = .sl c o m k → n ≤ c) (hn : n ≤ h.n) : n ≤ h'.n ∧ (∀ c, c < n → h'.get c = h.get c) ∧ ∀ c o m k, v' = .sl c o m k → n ≤ c := by
  refine ⟨by have := a.fr.1; omega, fun c hc => a.fr.2 c (by omega) ?_, ?_⟩
  · rintro (e | ⟨o, m, k, e⟩)
    · omega
    · have := hv _ _ _ _ e; omega
  · rcases a.nw with e | e
    · rw [e]; exact hv
    · intro c o m k e1; have := e c o m k e1; omega

theorem works17_ok (h : H) : ∃ h', KK 17 [] h = some (.ret (.bool true), h') ∧ h.n ≤ h'.n ∧ ∀ c, c < h.n → h'.get c = h.get c := by
  obtain ⟨h1, a1, b1, c1, d1⟩ := new10_ok h
  obtain ⟨h2, v2, a2, b2, c2⟩ := put12_ok (lo := 16384) (hi := 32768) b1 ⟨by omega, by omega, by omega⟩ (by simp) (by omega) (by omega)
  have e2 : put [] 0 4294967295 16384 32768 = ([], 2147467264, 2147500031) := by kernel_rfl
  simp only [e2] at b2
  obtain ⟨n2, f2, g2⟩ := c2.keep (n := h.n) (Nat.le_refl _) (fun _ _ _ _ e => by cases e) (by omega)
  obtain ⟨h3, v3, a3, b3, c3⟩ := put12_ok (lo := 7) (hi := 9) b2 ⟨by omega, by omega, by omega⟩ (by simp) (by omega) (by omega)
  have e3 : put [] 2147467264 2147500031 7 9 = ([128], 113246208, 33554432) := by kernel_rfl
  simp only [e3] at b3
  obtain ⟨n3, f3, g3⟩ := c3.keep (n := h.n) (Nat.le_refl _) g2 n2
  obtain ⟨h4, v4, a4, b4, c4, d4⟩ := bytes14_wr b3 ⟨by omega, by omega, by omega⟩ (by simp)
  have e4 : bytes [128] 113246208 = [128, 6, 192] := by kernel_rfl
  simp only [e4] at b4
  obtain ⟨h5, p5, v5, a5, b5', c5, c5', d5⟩ := read19_ok b4.slb (by simp) b4.byte
  have b5 := b5' (fun c => c = p5) rfl (fun c _ _ h => h)
  have e5 : dread [128, 6, 192] = ([], 2147926016) := by kernel_rfl
  simp only [e5] at b5
  have a6 := value21_ok b5 ⟨by omega, by omega, by omega⟩
  have e6 : value 2147926016 4294967295 = 16387 := by kernel_rfl
  rw [e6] at a6
  obtain ⟨h7, v7, a7, b7, c7⟩ := take24_ok (lo := 16384) (hi := 32768) b5 ⟨by omega, by omega, by omega⟩ (by rw [e6]; omega) (by rw [e6]; omega) (by omega)
  have e7 : take [] 2147926016 4294967295 16384 32768 = ([], 458752, 2147500031) := by kernel_rfl
  simp only [e7] at b7
  have a8 := value21_ok b7 ⟨by omega, by omega, by omega⟩
  have e8 : value 458752 2147500031 = 7 := by kernel_rfl
  rw [e8] at a8
  obtain ⟨h9, a9, b9, c9, d9⟩ := new10_ok h7
  obtain ⟨h10, v10, a10, b10, c10⟩ := put12_ok (lo := 16384) (hi := 32768) b9 ⟨by omega, by omega, by omega⟩ (by simp) (by omega) (by omega)
  simp only [e2] at b10
  obtain ⟨n10, f10, g10⟩ := c10.keep (n := h7.n) (Nat.le_refl _) (fun _ _ _ _ e => by cases e) (by omega)
  obtain ⟨h11, v11, a11, b11, c11, d11⟩ := bytes14_wr b10 ⟨by omega, by omega, by omega⟩ (by simp)
  have e11 : bytes [] 2147467264 = [127, 255, 192] := by kernel_rfl
  simp only [e11] at b11
  obtain ⟨h12, hh12⟩ : ∃ x, x = h11.new (.cells [.int .u8 127, .int .u8 255, .int .u8 192] 5 false) := ⟨_, rfl⟩
  have k12 : ∀ c, c < h11.n → h12.get c = h11.get c := fun c hc => by rw [hh12, get_new_lt hc]
  have s1 : SlB h12 v11 [127, 255, 192] := b11.slb.keep k12
  have s2 : SlB h12 (.sl h11.n 0 3 (.ex 3)) [127, 255, 192] := .inr ⟨h11.n, 0, _, _, _, _, rfl, by rw [hh12]; exact get_new_same, by simp, rfl⟩
  have a13 := eq15_ok s1.at s2.at (by simp)
  refine ⟨h12, ?_, ?_, fun c hc => ?_⟩
  · rw [KK, c17, f17, s17]
    simp at a2 a3 a6 a7 a8 a10
    simp [a1, a2, a3, a4, a5, a6, a7, a8, a9, a10, a11, bs, fillW, V.cells, splice, ← hh12, a13]
  · have := c7.1; rw [hh12, H.n_new]; omega
  · have := c7.1
    rw [k12 c (by omega), d11 c (by omega), f10 c (by omega), d9 c (by omega), c7.2 c (by omega), d5 c (by omega), d4 c (by omega), f3 c hc, f2 c hc, d1 c hc]
end Go.Proofs.Ytpikblkbeoophaa
