/- The decoders: Read; copies of bytes. -/
import Derived.Test.YtpikblkbeoophaaRi
set_option linter.unusedVariables false
set_option linter.unusedSimpArgs false
namespace Go.Proofs.Ytpikblkbeoophaa
open Go Go.Zf

/-- A slice with these bytes, in any block. -/
def SlB (h : H) (v : V) (l : List Nat) : Prop :=
  (v = .nils ∧ l = []) ∨ ∃ b o k c e ro, v = .sl b o l.length k ∧ h.get b = some (.cells c e ro) ∧ o + l.length ≤ c.length ∧ (c.drop o).take l.length = bytesV l
/-- A slice in a block of its own. -/
def Frs (h : H) (n : Nat) (v : V) (l : List Nat) : Prop :=
  (v = .nils ∧ l = []) ∨ (∃ b k, v = .sl b 0 0 k ∧ l = [] ∧ n ≤ b ∧ ∃ c e ro, h.get b = some (.cells c e ro)) ∨ ∃ b, v = .sl b 0 l.length (.op 1) ∧ n ≤ b ∧ l ≠ [] ∧ h.get b = some (.cells (bytesV l) 5 false)
theorem OSl.mono {h : H} {X Y : Nat → Prop} {v : V} {l : List Nat} (a : OSl h X v l) (hXY : ∀ b, b < h.n → ¬ X b → ¬ Y b) : OSl h Y v l := by
  rcases a with a | a | ⟨b, o, c, e, ro, a1, a2, a3, a4⟩
  · exact .inl a
  · exact .inr (.inl a)
  · exact .inr (.inr ⟨b, o, c, e, ro, a1, hXY b (H.get_lt a3) a2, a3, a4⟩)
theorem OSl.keep {h h' : H} {X : Nat → Prop} {v : V} {l : List Nat} (a : OSl h X v l) (hk : ∀ b, b < h.n → ¬ X b → h'.get b = h.get b) : OSl h' X v l := by
  rcases a with a | a | ⟨b, o, c, e, ro, a1, a2, a3, a4⟩
  · exact .inl a
  · exact .inr (.inl a)
  · exact .inr (.inr ⟨b, o, c, e, ro, a1, a2, by rw [hk b (H.get_lt a3) a2, a3], a4⟩)
theorem Frs.osl {h : H} {n : Nat} {X : Nat → Prop} {v : V} {l : List Nat} (a : Frs h n v l) (hp : ∀ c, n ≤ c → c < h.n → ¬ X c) : OSl h X v l := by
  rcases a with a | ⟨b, k, a1, a2, a3, a4⟩ | ⟨b, a1, a2, a3, a4⟩
  · exact .inl a
  · exact .inr (.inl ⟨b, 0, k, a1, a2⟩)
  · exact .inr (.inr ⟨b, 0, _, _, _, a1, hp b a2 (H.get_lt a4), a4, fun i hi => by simp⟩)
theorem Frs.slb {h : H} {n : Nat} {v : V} {l : List Nat} (a : Frs h n v l) : SlB h v l := by
  rcases a with a | ⟨b, k, a1, a2, a3, c, e, ro, a4⟩ | ⟨b, a1, a2, a3, a4⟩
  · exact .inl a
  · exact .inr ⟨b, 0, k, c, e, ro, by rw [a2]; exact a1, a4, by rw [a2]; simp, by rw [a2]; simp [bytesV]⟩
  · exact .inr ⟨b, 0, _, _, _, _, a1, a4, by simp, by simp [List.take_of_length_le]⟩
theorem SlB.at {h : H} {v : V} {l : List Nat} (a : SlB h v l) : SlAt h v l := by
  rcases a with a | ⟨b, o, k, c, e, ro, a1, a2, a3, a4⟩
  · exact .inl a
  · refine .inr ⟨b, o, k, c, e, ro, a1, a2, fun i hi => ?_⟩
    rw [← a4, List.getElem?_take, if_pos hi, List.getElem?_drop]

theorem SlB.len {h : H} {v : V} {l : List Nat} (a : SlB h v l) : lenOf v = some l.length := by
  rcases a with ⟨rfl, rfl⟩ | ⟨b, o, k, c, e, ro, rfl, a2, a3, a4⟩ <;> simp [lenOf]
theorem SlB.first {h : H} {v : V} {l : List Nat} (a : SlB h v l) : firstV h 1 l.length v = some (bytesV l) := by
  rcases a with ⟨rfl, rfl⟩ | ⟨b, o, k, c, e, ro, rfl, a2, a3, a4⟩
  · simp [firstV, bytesV]
  · simp [firstV, H.rdN, a2, a3, a4]
theorem SlB.keep {h h' : H} {v : V} {l : List Nat} (a : SlB h v l) (hk : ∀ c, c < h.n → h'.get c = h.get c) : SlB h' v l := by
  rcases a with a | ⟨b, o, k, c, e, ro, a1, a2, a3, a4⟩
  · exact .inl a
  · exact .inr ⟨b, o, k, c, e, ro, a1, by rw [hk b (H.get_lt a2), a2], a3, a4⟩

theorem clone_slb {h : H} {v : V} {l : List Nat} (g : SlB h v l) (hlen : l.length < 140737488355329) :
    ∃ h' v', KK 32 [v] h = some (.ret v', h') ∧ Frs h' h.n v' l ∧ h.n ≤ h'.n ∧ ∀ c, c < h.n → h'.get c = h.get c := by
  rcases g with ⟨rfl, rfl⟩ | ⟨b, o, k, c, e, ro, rfl, hb, hol, hcs⟩
  · refine ⟨h, .nils, ?_, .inl ⟨rfl, rfl⟩, Nat.le_refl _, fun _ _ => rfl⟩
    rw [KK, c32, f32, s32]
    simp
  · have hbl := H.get_lt hb
    obtain ⟨h1, hh1⟩ : ∃ h1, h1 = h.new (.cells [] 5 false) := ⟨_, rfl⟩
    have hb1 : h1.get b = some (.cells c e ro) := by rw [hh1, get_new_lt hbl, hb]
    have hr0 : h1.get h.n = some (.cells [] 5 false) := by rw [hh1]; exact get_new_same
    by_cases hl : l = []
    · subst hl
      simp only [List.length_nil] at hol
      have hf : (c.drop o).take 0 = [] := rfl
      have hw0 := wrN_of hr0 (o := 0) (vs := []) (by simp)
      refine ⟨h1.put h.n (.cells (splice [] 0 []) 5 false), .sl h.n 0 0 (.ex 0), ?_, .inr (.inl ⟨_, _, rfl, rfl, Nat.le_refl _, _, _, _, get_put_same (H.get_lt hr0)⟩), by rw [H.n_put, hh1, H.n_new]; omega, fun c hc => by rw [get_put_ne (by omega), hh1, get_new_lt hc]⟩
      rw [KK, c32, f32, s32]
      simp at hol
      simp [bs, fillW, ← hh1, apZ, lenOf, firstV, H.rdN, hb1, apN, hol, hw0]
    · have hll : l.length ≠ 0 := by simpa using hl
      refine ⟨h1.new (.cells (bytesV l) 5 false), .sl h1.n 0 l.length (.op 1), ?_, .inr (.inr ⟨h1.n, rfl, by rw [hh1, H.n_new]; omega, hl, get_new_same⟩), by rw [H.n_new, hh1, H.n_new]; omega, fun c hc => ?_⟩
      · rw [KK, c32, f32, s32]
        simp [bs, fillW, ← hh1, apZ, lenOf, firstV, H.rdN, hb1, apN, hr0, hcs, hll, hol, show l.length ≤ 140737488355328 by omega]
      · rw [get_new_lt (by rw [hh1, H.n_new]; omega), hh1, get_new_lt hc]

/-- append to nil. -/
theorem apZ_nil {h : H} {v : V} {l : List Nat} (g : SlB h v l) (hlen : l.length < 140737488355329) :
    ∃ h' v', apZ 5 1 1 h .nils v = some (v', h') ∧ Frs h' h.n v' l ∧ h.n ≤ h'.n ∧ ∀ c, c < h.n → h'.get c = h.get c := by
  by_cases hl : l = []
  · subst hl
    refine ⟨h, .nils, ?_, .inl ⟨rfl, rfl⟩, Nat.le_refl _, fun _ _ => rfl⟩
    have h1 := g.len; have h2 := g.first
    simp at h1 h2
    simp [apZ, h1, h2, apN]
  · have hll : l.length ≠ 0 := by simpa using hl
    refine ⟨h.new (.cells (bytesV l) 5 false), .sl h.n 0 l.length (.op 1), ?_, .inr (.inr ⟨h.n, rfl, Nat.le_refl _, hl, get_new_same⟩), by rw [H.n_new]; omega, fun c hc => get_new_lt hc⟩
    simp [apZ, g.len, g.first, apN, hll, show l.length ≤ 140737488355328 by omega]

theorem copy18_ok {h : H} {v : V} {l : List Nat} (g : SlB h v l) (hlen : l.length < 140737488355329) :
    ∃ h' v', KK 18 [v] h = some (.ret v', h') ∧ Frs h' h.n v' l ∧ h.n ≤ h'.n ∧ ∀ c, c < h.n → h'.get c = h.get c := by
  obtain ⟨h', v', k1, k2, k3, k4⟩ := apZ_nil g hlen
  refine ⟨h', v', ?_, k2, k3, k4⟩
  rw [KK, c18, f18, s18]
  simp [k1]

def dsh : Nat → List Nat → Nat → List Nat × Nat
  | 0, r, c => (r, c)
  | n + 1, r, c => dsh n r.tail (c * 256 + r.headD 0)
def dread (l : List Nat) : List Nat × Nat := ((dsh 4 l 0).1, min (dsh 4 l 0).2 4294967294)

theorem loop19 (X : Nat → Prop) (p rng : Nat) : ∀ (n : Nat) (h : H) (v : V) (rest : List Nat) (code : Nat) (e : E), DecAt h X p v rest code rng → code < 256 ^ (4 - n) → n ≤ 4 →
    e.s [0, 2, 3, 8] 3 = .ptr p 0 → e.s [0, 2, 3, 8] 8 = .int .i64 (4 - n : Nat) →
    ∃ e' h' v', loopZ (l19_0 KK loopZ) e h = some ⟨.ex 0, e', h'⟩ ∧ e'.s [0, 2, 3, 8] 3 = .ptr p 0 ∧ DecAt h' X p v' (dsh n rest code).1 (dsh n rest code).2 rng ∧ (dsh n rest code).2 < 4294967296 ∧ Only h h' p
  | 0, h, v, rest, code, e, a, hc, hn, he3, he8 => by
    rw [loopZ_eq]
    simp [l19_0, he3, he8]
    exact ⟨_, _, ⟨rfl, rfl⟩, by simp [he3], ⟨v, a⟩, by simpa [dsh] using hc, Only.refl _ _⟩
  | n + 1, h, v, rest, code, e, a, hc, hn, he3, he8 => by
    have hc3 : 256 ^ (4 - (n + 1)) ≤ 256 ^ 3 := Nat.pow_le_pow_right (by decide) (by omega)
    obtain ⟨h1, v1, k1, k2, k3⟩ := shift33_ok a (by omega)
    have hb := headD_lt a.byte
    have hlt : ((4 - (n + 1) : Nat) : Int) < 4 := by omega
    have hm : IntKind.i64.wrap (((4 - (n + 1) : Nat) : Int) + 1) = ((4 - n : Nat) : Int) := by rw [wi64 (by omega) (by omega)]; omega
    have hc' : code * 256 + rest.headD 0 < 256 ^ (4 - n) := by
      rw [show 4 - n = (4 - (n + 1)) + 1 by omega, Nat.pow_succ]; omega
    obtain ⟨j, hj⟩ : ∃ j, j = 4 - (n + 1) := ⟨_, rfl⟩
    obtain ⟨j1, hj1⟩ : ∃ j, j = 4 - n := ⟨_, rfl⟩
    rw [← hj] at hlt he8
    rw [← hj, ← hj1] at hm
    have hlt' : j < 4 := by omega
    rw [loopZ_eq]
    simp [l19_0, he3, he8, hlt, hlt', k1]
    rw [hm]
    obtain ⟨e', h', v', i1, i2, i3, i4, i5⟩ := loop19 X p rng n h1 v1 rest.tail _ ⟨[e.s [0, 2, 3, 8] 0, e.s [0, 2, 3, 8] 2, .ptr p 0, .int .i64 (j1 : Int)], 8, .int .i64 (j1 : Int)⟩ k2 hc' (by omega) (by simp) (by simp [hj1])
    exact ⟨e', h', i1, i2, ⟨v', i3⟩, i4, k3.trans i5⟩

theorem read19_ok {h : H} {v : V} {l : List Nat} (g : SlB h v l) (hlen : l.length < 140737488355329) (hb : ∀ x ∈ l, x < 256) :
    ∃ h' p v', KK 19 [v] h = some (.ret (.ptr p 0), h') ∧ (∀ X : Nat → Prop, X p → (∀ c, h.n ≤ c → c < h'.n → c ≠ p → ¬ X c) → DecAt h' X p v' (dread l).1 (dread l).2 4294967295) ∧ h.n ≤ p ∧ p < h'.n ∧ (∀ c, c < h.n → h'.get c = h.get c) := by
  obtain ⟨h1, v1, k1, k2, k3, k4⟩ := clone_slb g hlen
  obtain ⟨h2, hh2⟩ : ∃ h2, h2 = h1.new (.cells [v1, .int .u32 (0 : Nat), .int .u32 (4294967295 : Nat)] 54 false) := ⟨_, rfl⟩
  have hp2 : h2.get h1.n = some (.cells [v1, .int .u32 (0 : Nat), .int .u32 (4294967295 : Nat)] 54 false) := by rw [hh2]; exact get_new_same
  have hos : OSl h2 (fun c => ¬ (h.n ≤ c ∧ c < h1.n)) v1 l := by
    rcases k2 with a | ⟨b, k, a1, a2, a3, a4⟩ | ⟨b, a1, a2, a3, a4⟩
    · exact .inl a
    · exact .inr (.inl ⟨b, 0, k, a1, a2⟩)
    · have := H.get_lt a4
      exact .inr (.inr ⟨b, 0, _, _, _, a1, by omega, by rw [hh2, get_new_lt this, a4], fun i hi => by simp⟩)
  obtain ⟨e', h', v', i1, i2, i3, i4, i5⟩ := loop19 (fun c => ¬ (h.n ≤ c ∧ c < h1.n)) h1.n 4294967295 4 h2 v1 l 0 ⟨[v, .nilp, .ptr h1.n 0, .int .i64 0], 8, .int .i64 0⟩ ⟨hp2, by omega, hos, hb⟩ (by decide) (by omega) (by simp) (by simp)
  have hw1 := fun v => wr1_of i3.cell (o := 1) (by simp) v
  obtain ⟨r, hr⟩ : ∃ r, r = dsh 4 l 0 := ⟨_, rfl⟩
  have hdr : dread l = (r.1, min r.2 4294967294) := by rw [dread, hr]
  rw [← hr] at i3 i4 hw1
  have e4 : minV [.int .u32 (r.2 : Int), .int .u32 4294967294] = some (.int .u32 ((min r.2 4294967294 : Nat) : Int)) := by
    simp [minV, foldV, min2V]
    split <;> omega
  obtain ⟨y, hy⟩ : ∃ y, y = min r.2 4294967294 := ⟨_, rfl⟩
  rw [← hy] at e4 hdr
  rw [hdr]
  have o3 := Only.put h' h1.n (.cells [v', .int .u32 y, .int .u32 (4294967295 : Nat)] 54 false)
  have hv1 : bl [.nils, .int .u32 0, .int .u32 0] [(some (0, 1), v1), (some (2, 1), .int .u32 4294967295)] = some (.agg [v1, .int .u32 0, .int .u32 4294967295]) := by
    rcases k2 with ⟨rfl, _⟩ | ⟨b, k, rfl, _⟩ | ⟨b, rfl, _⟩ <;> simp [bl, fillW, V.cells, splice]
  refine ⟨h'.put h1.n (.cells [v', .int .u32 y, .int .u32 (4294967295 : Nat)] 54 false), h1.n, v', ?_, fun X hX hf => ⟨get_put_same (H.get_lt i3.cell), hX, (i3.sl.only o3 i3.own).mono fun b hb hb' => hf b (by omega) hb (by omega), i3.byte⟩, k3, by rw [H.n_put, i5.1, hh2, H.n_new]; omega, fun c hc => ?_⟩
  · rw [KK, c19, f19, s19]
    simp at hh2
    simp at hw1 i3
    simp [k1, hv1, bx, V.cells, ← hh2, i1, i2, rd1_of i3.cell, e4, hw1]
  · rw [o3.2 c (by omega), i5.2 c (by omega), hh2, get_new_lt (by omega), k4 c hc]
end Go.Proofs.Ytpikblkbeoophaa
