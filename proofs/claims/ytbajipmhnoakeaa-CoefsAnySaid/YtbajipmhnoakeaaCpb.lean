/- Texts of the layers below, turned to this seat's numbers: symsR/L syms/K syms/U syms/Ad syms/Ae syms/Bc syms/Bd. -/
import Derived.Test.YtbajipmhnoakeaaCp
set_option linter.unusedVariables false
set_option linter.unusedSimpArgs false
set_option maxRecDepth 20000
namespace Go.Proofs.Ytbajipmhnoakeaa
open Go Go.Zf

attribute [simp] Go.Zf.bytesV_length

attribute [simp] cell72 cell25 cell96 resVs_cell

section slr

variable {D : Nat → Prop} {h : H} {v : V} {t z n : Nat} {cs : List V}

end slr

section sets

variable {D E : Nat → Prop} {h h' : H} {v : V}

end sets

open Go.Zf (wi64)

open Go.Zf (wi64)

open Go.Zf (wi64)

open Go.Zf (wi64)

open Go.Zf (wi64)

open Go.Zf (wi64)

open Go.Zf (wi64)

open Go.Zf (wi64)

open Go.Zf (wi64)

open Go.Zf (wi64)

section setw

variable {D E : Nat → Prop} {h h' : H} {v : V}

end setw

open Go.Zf (wi64)

open Go.Zf (wi64)

open Go.Zf (wi64)

open Go.Zf (wi64)

open Go.Zf (wi64)

open Go.Zf (wi64)

open Go.Zf (wi64)

open Go.Zf (wi64)

open Go.Zf (wi64)

section own

variable {D E : Nat → Prop} {h h' : H}

end own

open Go.Zf (wi64)

open Go.Zf (wi64)

open Go.Zf (wi64)

open Go.Zf (wi64)

open Go.Zf (wi64)

open Go.Zf (wi64)

open Go.Zf (wi64)

open Go.Zf (wi64)

def Alike (a b : List Nat) : Prop := ∀ i, a.getD i 0 = b.getD i 0

theorem Alike.head {a b : List Nat} (h : Alike a b) : a.headD 0 = b.headD 0 := by
  have := h 0
  cases a <;> cases b <;> first | rfl | (simpa using this)

theorem Alike.tail {a b : List Nat} (h : Alike a b) : Alike a.tail b.tail := fun i => by
  have := h (i + 1)
  cases a <;> cases b <;> first | rfl | (simpa using this)

theorem Alike.dsh : ∀ (n : Nat) {a b : List Nat} (c : Nat), Alike a b → Alike (dsh n a c).1 (dsh n b c).1 ∧ (dsh n a c).2 = (dsh n b c).2
  | 0, a, b, c, h => ⟨h, rfl⟩
  | n + 1, a, b, c, h => by
    simp only [Ytbajipmhnoakeaa.dsh]
    rw [h.head]
    exact Alike.dsh n _ h.tail

theorem Alike.read {a b : List Nat} (h : Alike a b) : Alike (dread a).1 (dread b).1 ∧ (dread a).2 = (dread b).2 := by
  have := Alike.dsh 4 0 h
  exact ⟨this.1, by simp only [dread, this.2]⟩

theorem Alike.renorm : ∀ (n : Nat) {a b : List Nat} (c w : Nat), Alike a b → Alike (drenorm n a c w).1 (drenorm n b c w).1 ∧ (drenorm n a c w).2 = (drenorm n b c w).2
  | 0, a, b, c, w, h => ⟨h, rfl⟩
  | n + 1, a, b, c, w, h => by
    simp only [drenorm]
    split
    · rw [h.head]
      exact Alike.renorm n _ _ h.tail
    · exact ⟨h, rfl⟩

theorem Alike.take {a b : List Nat} (h : Alike a b) (c r lo hi : Nat) : Alike (take a c r lo hi).1 (take b c r lo hi).1 ∧ (take a c r lo hi).2 = (take b c r lo hi).2 := Alike.renorm 3 _ _ h

/-- How many are left without the noughts at the end. -/
def shorter (l : List Nat) : Nat → Nat
  | 0 => 0
  | k + 1 => if l[k]? = some 0 then shorter l k else k + 1

theorem shorter_le (l : List Nat) : ∀ k, shorter l k ≤ k
  | 0 => Nat.le_refl _
  | k + 1 => by unfold shorter; split; exact Nat.le_succ_of_le (shorter_le l k); exact Nat.le_refl _

theorem shorter_alike (l : List Nat) : ∀ k, k ≤ l.length → Alike (l.take k) (l.take (shorter l k))
  | 0, _ => fun i => rfl
  | k + 1, hk => by
    unfold shorter
    split
    · rename_i h
      intro i
      rw [← shorter_alike l k (by omega) i]
      simp only [List.getD_eq_getElem?_getD, List.getElem?_take]
      by_cases h1 : i < k
      · simp [h1, show i < k + 1 by omega]
      · by_cases h2 : i = k
        · subst h2; simp [h]
        · simp [h1, show ¬ i < k + 1 by omega]
    · intro i; rfl

/-- Bytes as a number, the first one first. -/
def bev (l : List Nat) : Nat := l.foldl (fun a b => a * 256 + b) 0

theorem bev_snoc (l : List Nat) (b : Nat) : bev (l ++ [b]) = bev l * 256 + b := by simp [bev]

theorem bev_nil : bev [] = 0 := rfl

theorem bev_append (a : List Nat) : ∀ b : List Nat, bev (a ++ b) = bev a * 256 ^ b.length + bev b := by
  intro b
  obtain ⟨n, hn⟩ : ∃ n, n = b.length := ⟨_, rfl⟩
  induction n generalizing b with
  | zero => have : b = [] := List.length_eq_zero_iff.mp hn.symm; subst this; simp [bev_nil]
  | succ n ih =>
    rcases List.eq_nil_or_concat b with h0 | ⟨c, x, h0⟩
    · subst h0; simp at hn
    · subst h0
      have h1 := ih c (by simpa using hn)
      rw [List.concat_eq_append, ← List.append_assoc, bev_snoc, bev_snoc, h1]
      simp only [List.length_append, List.length_singleton, Nat.pow_succ]
      rw [Nat.add_mul, Nat.mul_assoc, Nat.add_assoc]

theorem bev_lt : ∀ l : List Nat, (∀ x ∈ l, x < 256) → bev l < 256 ^ l.length := by
  intro l
  obtain ⟨n, hn⟩ : ∃ n, n = l.length := ⟨_, rfl⟩
  induction n generalizing l with
  | zero => intro _; have : l = [] := List.length_eq_zero_iff.mp hn.symm; subst this; simp [bev_nil]
  | succ n ih =>
    intro hb
    rcases List.eq_nil_or_concat l with h0 | ⟨c, x, h0⟩
    · subst h0; simp at hn
    · subst h0
      have h1 := ih c (by simpa using hn) fun y hy => hb y (by simp [hy])
      have h2 := hb x (by simp)
      rw [List.concat_eq_append, bev_snoc]
      simp only [List.length_append, List.length_singleton, Nat.pow_succ]
      omega

theorem bev_inc : ∀ l : List Nat, (∀ x ∈ l, x < 256) → bev l + 1 < 256 ^ l.length → bev (inc l) = bev l + 1 := by
  intro l
  obtain ⟨n, hn⟩ : ∃ n, n = l.length := ⟨_, rfl⟩
  induction n generalizing l with
  | zero => intro _ h; have : l = [] := List.length_eq_zero_iff.mp hn.symm; subst this; simp [bev_nil] at h
  | succ n ih =>
    intro hb h
    rcases List.eq_nil_or_concat l with h0 | ⟨c, x, h0⟩
    · subst h0; simp at hn
    · subst h0
      have h2 := hb x (by simp)
      rw [List.concat_eq_append] at h ⊢
      rw [bev_snoc] at h
      simp only [List.length_append, List.length_singleton, Nat.pow_succ] at h
      rw [inc_snoc, bev_snoc]
      split
      · rename_i hx
        rw [bev_snoc, ih c (by simpa using hn) (fun y hy => hb y (by simp [hy])) (by omega)]
        omega
      · rw [bev_snoc]; omega

/-- Where an encoder stands, as a number. -/
def at_ (out : List Nat) (low : Nat) : Nat := bev out * 4294967296 + low

theorem emit_at {out : List Nat} {low : Nat} (hb : ∀ x ∈ out, x < 256) (hl : low < 8589934592) (hf : at_ out low < 4294967296 * 256 ^ out.length) :
    at_ (emit out low).1 (emit out low).2 = at_ out low * 256 ∧ ∀ x ∈ (emit out low).1, x < 256 := by
  unfold at_ at *
  unfold emit
  split
  · rename_i hc
    have h1 := bev_inc out hb (by
      have : (bev out + 1) * 4294967296 < 256 ^ out.length * 4294967296 := by rw [Nat.mul_comm (256 ^ out.length)]; omega
      exact Nat.lt_of_mul_lt_mul_right this)
    refine ⟨?_, fun x hx => ?_⟩
    · simp only [bev_snoc, h1]; omega
    · rcases List.mem_append.mp hx with h | h
      · exact inc_byte hb x h
      · simp at h; omega
  · rename_i hc
    refine ⟨?_, fun x hx => ?_⟩
    · simp only [bev_snoc]; omega
    · rcases List.mem_append.mp hx with h | h
      · exact hb x h
      · simp at h; omega

/-- How often a range is widened. -/
def steps : Nat → Nat → Nat
  | 0, _ => 0
  | n + 1, w => if w < 16777216 then steps n (w * 256) + 1 else 0

theorem steps3 {w : Nat} (h : 512 ≤ w) : steps 3 w ≤ 2 := by
  simp only [steps]
  split
  · split
    · rw [if_neg (by omega)]; omega
    · omega
  · omega

/-- What is so of an encoder at any time. -/
structure SInv (out : List Nat) (low wide : Nat) : Prop where
  byte : ∀ x ∈ out, x < 256
  lw : low + wide < 8589934592
  fit : at_ out low + wide ≤ 4294967296 * 256 ^ out.length
  pos : 0 < wide

theorem renorm_at : ∀ (n : Nat) {out : List Nat} {low wide : Nat}, SInv out low wide → wide < 4294967296 →
    SInv (renorm n out low wide).1 (renorm n out low wide).2.1 (renorm n out low wide).2.2 ∧ (renorm n out low wide).1.length = out.length + steps n wide ∧
      at_ (renorm n out low wide).1 (renorm n out low wide).2.1 = at_ out low * 256 ^ steps n wide ∧ (renorm n out low wide).2.2 = wide * 256 ^ steps n wide
  | 0, out, low, wide, h, hw => ⟨h, rfl, by simp [renorm, steps], by simp [renorm, steps]⟩
  | n + 1, out, low, wide, h, hw => by
    simp only [renorm, steps]
    split
    · rename_i hc
      obtain ⟨h1, h2, h3, h4⟩ := h
      obtain ⟨e1, e2⟩ := emit_at (low := low) h1 (by omega) (by omega)
      have hel := emit_length out low
      have hlt : (emit out low).2 ≤ 4294967040 := by unfold emit; split <;> simp <;> omega
      have hs : SInv (emit out low).1 (emit out low).2 (wide * 256) := by
        refine ⟨e2, by omega, ?_, by omega⟩
        rw [e1, hel, Nat.pow_succ]
        omega
      obtain ⟨g1, g2, g3, g4⟩ := renorm_at n hs (by omega)
      refine ⟨g1, by rw [g2, hel]; omega, ?_, ?_⟩
      · rw [g3, e1, Nat.pow_succ, Nat.mul_assoc, Nat.mul_comm 256]
      · rw [g4, Nat.pow_succ, Nat.mul_assoc, Nat.mul_comm 256]
    · exact ⟨h, rfl, by simp, by simp⟩

theorem part_within {out : List Nat} {low rng lo hi : Nat} (h : SInv out low rng) (h0 : 16777216 ≤ rng) (h1 : rng < 4294967296) (h2 : lo < hi) (h3 : hi ≤ 32768) :
    SInv out (low + (part rng lo hi).1) (part rng lo hi).2 := by
  obtain ⟨m1, m2⟩ := part_bounds h0 h1 h2 h3
  obtain ⟨g1, g2, g3, g4⟩ := h
  exact ⟨g1, by omega, by unfold at_ at *; omega, by omega⟩

/-- One stand lies within another. -/
def Within (E R L E' R' L' : Nat) : Prop := ∃ d, L' = L + d ∧ E * 256 ^ d ≤ E' ∧ E' + R' ≤ (E + R) * 256 ^ d

theorem Within.refl (E R L : Nat) : Within E R L E R L := ⟨0, by simp, by simp, by simp⟩

theorem Within.trans {a b c d e f g h i : Nat} (x : Within a b c d e f) (y : Within d e f g h i) : Within a b c g h i := by
  obtain ⟨m, x1, x2, x3⟩ := x
  obtain ⟨n, y1, y2, y3⟩ := y
  refine ⟨m + n, by omega, ?_, ?_⟩
  · rw [Nat.pow_add, ← Nat.mul_assoc]
    exact Nat.le_trans (Nat.mul_le_mul_right _ x2) y2
  · rw [Nat.pow_add, ← Nat.mul_assoc]
    exact Nat.le_trans y3 (Nat.mul_le_mul_right _ x3)

abbrev Sr := List Nat × Nat × Nat

def putS (s : Sr) (p : Nat × Nat) : Sr := put s.1 s.2.1 s.2.2 p.1 p.2

def puts (s : Sr) (ps : List (Nat × Nat)) : Sr := ps.foldl putS s

def SOk (s : Sr) : Prop := SInv s.1 s.2.1 s.2.2 ∧ EInv s.2.1 s.2.2

def WithinS (s t : Sr) : Prop := Within (at_ s.1 s.2.1) s.2.2 s.1.length (at_ t.1 t.2.1) t.2.2 t.1.length

theorem put_at {s : Sr} {lo hi : Nat} (h : SOk s) (h2 : lo < hi) (h3 : hi ≤ 32768) :
    SOk (putS s (lo, hi)) ∧ (putS s (lo, hi)).1.length = s.1.length + steps 3 (part s.2.2 lo hi).2 ∧
      at_ (putS s (lo, hi)).1 (putS s (lo, hi)).2.1 = (at_ s.1 s.2.1 + (part s.2.2 lo hi).1) * 256 ^ steps 3 (part s.2.2 lo hi).2 ∧
      (putS s (lo, hi)).2.2 = (part s.2.2 lo hi).2 * 256 ^ steps 3 (part s.2.2 lo hi).2 := by
  obtain ⟨i, e⟩ := h
  have hw := part_within i e.1 e.2.1 h2 h3
  obtain ⟨m1, m2⟩ := part_bounds e.1 e.2.1 h2 h3
  have := e.2.1
  obtain ⟨g1, g2, g3, g4⟩ := renorm_at 3 hw (by omega)
  refine ⟨⟨g1, (put_inv e h2 h3).1⟩, g2, ?_, g4⟩
  rw [show at_ s.1 s.2.1 + (part s.2.2 lo hi).1 = at_ s.1 (s.2.1 + (part s.2.2 lo hi).1) by unfold at_; omega]
  exact g3

theorem puts_within : ∀ (ps : List (Nat × Nat)) {s : Sr}, SOk s → (∀ p ∈ ps, p.1 < p.2 ∧ p.2 ≤ 32768) → SOk (puts s ps) ∧ WithinS s (puts s ps)
  | [], s, h, _ => ⟨h, Within.refl _ _ _⟩
  | p :: ps, s, h, hp => by
    obtain ⟨h1, h2⟩ := hp p (by simp)
    obtain ⟨g1, g2, g3, g4⟩ := put_at h h1 h2
    obtain ⟨m1, m2⟩ := part_bounds h.2.1 h.2.2.1 h1 h2
    obtain ⟨k1, k2⟩ := puts_within ps g1 fun q hq => hp q (by simp [hq])
    refine ⟨k1, Within.trans ⟨steps 3 (part s.2.2 p.1 p.2).2, g2, ?_, ?_⟩ k2⟩
    · show _ ≤ at_ (putS s (p.1, p.2)).1 (putS s (p.1, p.2)).2.1
      rw [g3]
      exact Nat.mul_le_mul_right _ (by omega)
    · show at_ (putS s (p.1, p.2)).1 (putS s (p.1, p.2)).2.1 + (putS s (p.1, p.2)).2.2 ≤ _
      rw [g3, g4, ← Nat.add_mul]
      exact Nat.mul_le_mul_right _ (by omega)

def pre (B : List Nat) : Nat → Nat
  | 0 => 0
  | k + 1 => pre B k * 256 + B.getD k 0

theorem pre_succ (B : List Nat) (k : Nat) : pre B (k + 1) = pre B k * 256 + B.getD k 0 := rfl

attribute [irreducible] pre

theorem pre_zero (B : List Nat) : pre B 0 = 0 := by unfold pre; rfl

theorem pre_alike {a b : List Nat} (h : Alike a b) : ∀ k, pre a k = pre b k
  | 0 => by rw [pre_zero, pre_zero]
  | k + 1 => by rw [pre_succ, pre_succ, pre_alike h k, h k]

theorem pre_take (l : List Nat) : ∀ k, k ≤ l.length → pre l k = bev (l.take k)
  | 0, _ => by rw [pre_zero]; rfl
  | k + 1, h => by
    rw [pre_succ, pre_take l k (by omega), List.take_add_one, List.getElem?_eq_getElem (by omega), Option.toList_some, bev_snoc]
    simp [List.getD_eq_getElem?_getD, List.getElem?_eq_getElem (show k < l.length by omega)]

theorem pre_div (l : List Nat) (hb : ∀ x ∈ l, x < 256) {k d : Nat} (h : l.length = k + d) : pre l k = bev l / 256 ^ d := by
  rw [pre_take l k (by omega)]
  have e : bev l = bev (l.take k) * 256 ^ d + bev (l.drop k) := by
    conv => lhs; rw [← List.take_append_drop k l]
    rw [bev_append]; simp [show l.length - k = d by omega]
  have hlt := bev_lt (l.drop k) fun x hx => hb x (List.mem_of_mem_drop hx)
  rw [List.length_drop, show l.length - k = d by omega] at hlt
  have hp : 0 < 256 ^ d := Nat.pow_pos (by decide)
  rw [e, Nat.add_comm, Nat.mul_comm (bev (List.take k l)), Nat.add_mul_div_left _ _ hp, Nat.div_eq_of_lt hlt, Nat.zero_add]

theorem headD_drop (B : List Nat) (k : Nat) : (B.drop k).headD 0 = B.getD k 0 := by
  rw [List.getD_eq_getElem?_getD, ← List.head?_drop]
  cases B.drop k <;> rfl

theorem dsh_pre (B : List Nat) : ∀ (n k : Nat), dsh n (B.drop k) (pre B k) = (B.drop (k + n), pre B (k + n))
  | 0, k => rfl
  | n + 1, k => by
    rw [dsh, List.tail_drop, headD_drop, ← pre_succ, dsh_pre B n (k + 1), show k + 1 + n = k + (n + 1) by omega]

theorem drenorm_pre (B : List Nat) : ∀ (n k e w : Nat), e ≤ pre B k → drenorm n (B.drop k) (pre B k - e) w = (B.drop (k + steps n w), pre B (k + steps n w) - e * 256 ^ steps n w, w * 256 ^ steps n w)
  | 0, k, e, w, h => by simp [drenorm, steps]
  | n + 1, k, e, w, h => by
    have hb := pre_succ B k
    have hm := Nat.mul_le_mul_right 256 h
    have e1 : (pre B k - e) * 256 + B.getD k 0 = pre B (k + 1) - e * 256 := by rw [Nat.sub_mul]; omega
    have e2 := drenorm_pre B n (k + 1) (e * 256) (w * 256) (by omega)
    simp only [drenorm, steps]
    split
    · rw [List.tail_drop, headD_drop, e1, e2]
      generalize steps n (w * 256) = j
      rw [Nat.pow_succ, Nat.mul_comm (256 ^ j), ← Nat.mul_assoc, ← Nat.mul_assoc, show k + 1 + j = k + (j + 1) by omega]
    · simp

/-- Bytes that lie within a stand. -/
def Lies (B : List Nat) (E R L : Nat) : Prop := E ≤ pre B (L + 4) ∧ pre B (L + 4) < E + R

theorem value_in {q r V A lo hi : Nat} (hq : q = r / 32768) (h0 : 512 ≤ q) (h3 : hi ≤ 32768) (h2 : lo < hi) (l1 : A + q * lo ≤ V) (l2 : hi ≠ 32768 → V < A + q * lo + q * (hi - lo)) : lo ≤ value (V - A) r ∧ value (V - A) r < hi := by
  unfold value
  rw [← hq]
  have h5 : lo ≤ (V - A) / q := (Nat.le_div_iff_mul_le (by omega)).mpr (by rw [Nat.mul_comm]; omega)
  refine ⟨by omega, ?_⟩
  by_cases hc : hi = 32768
  · omega
  · have h6 := l2 hc
    have h7 : q * lo + q * (hi - lo) = q * hi := by rw [← Nat.mul_add]; congr 1; omega
    have h8 : (V - A) / q < hi := (Nat.div_lt_iff_lt_mul (by omega)).mpr (by rw [Nat.mul_comm]; omega)
    omega

theorem dec_step {B : List Nat} {s : Sr} {lo hi : Nat} (h : SOk s) (h2 : lo < hi) (h3 : hi ≤ 32768) (hl : Lies B (at_ s.1 s.2.1 + (part s.2.2 lo hi).1) (part s.2.2 lo hi).2 s.1.length) :
    (lo ≤ value (pre B (s.1.length + 4) - at_ s.1 s.2.1) s.2.2 ∧ value (pre B (s.1.length + 4) - at_ s.1 s.2.1) s.2.2 < hi) ∧
      take (B.drop (s.1.length + 4)) (pre B (s.1.length + 4) - at_ s.1 s.2.1) s.2.2 lo hi = (B.drop ((putS s (lo, hi)).1.length + 4), pre B ((putS s (lo, hi)).1.length + 4) - at_ (putS s (lo, hi)).1 (putS s (lo, hi)).2.1, (putS s (lo, hi)).2.2) := by
  obtain ⟨g1, g2, g3, g4⟩ := put_at h h2 h3
  obtain ⟨l1, l2⟩ := hl
  obtain ⟨e1, e2, e3⟩ := h.2
  have hq : 512 ≤ s.2.2 / 32768 := by omega
  have ep : (part s.2.2 lo hi).1 = s.2.2 / 32768 * lo := rfl
  have l1' : at_ s.1 s.2.1 + s.2.2 / 32768 * lo ≤ pre B (s.1.length + 4) := by rw [← ep]; exact l1
  have l2' : hi ≠ 32768 → pre B (s.1.length + 4) < at_ s.1 s.2.1 + s.2.2 / 32768 * lo + s.2.2 / 32768 * (hi - lo) := fun hc => by
    have e : (part s.2.2 lo hi).2 = s.2.2 / 32768 * (hi - lo) := by simp only [part, if_neg hc]
    rw [e, ep] at l2
    exact l2
  generalize putS s (lo, hi) = s' at g1 g2 g3 g4 ⊢
  have ht : ∀ (a : List Nat) (c r : Nat), take a c r lo hi = drenorm 3 a (c - (part r lo hi).1) (part r lo hi).2 := fun _ _ _ => rfl
  have e5 := drenorm_pre B 3 (s.1.length + 4) (at_ s.1 s.2.1 + (part s.2.2 lo hi).1) (part s.2.2 lo hi).2 l1
  have hv := value_in (q := s.2.2 / 32768) (r := s.2.2) rfl hq h3 h2 l1' l2'
  refine ⟨hv, ?_⟩
  rw [ht, Nat.sub_sub, e5, g2, g3, g4, Nat.add_right_comm]

theorem emits_at : ∀ (n : Nat) {out : List Nat} {low : Nat}, SInv out low 1 → SInv (emits n out low).1 (emits n out low).2 1 ∧ at_ (emits n out low).1 (emits n out low).2 = at_ out low * 256 ^ n
  | 0, out, low, h => ⟨h, by simp [emits]⟩
  | n + 1, out, low, h => by
    obtain ⟨h1, h2, h3, h4⟩ := h
    obtain ⟨e1, e2⟩ := emit_at (low := low) h1 (by omega) (by omega)
    have hel := emit_length out low
    have hlt := emit_lt out low
    have hs : SInv (emit out low).1 (emit out low).2 1 := ⟨e2, by omega, by rw [e1, hel, Nat.pow_succ]; omega, by omega⟩
    obtain ⟨g1, g2⟩ := emits_at n hs
    exact ⟨g1, by rw [emits, g2, e1, Nat.pow_succ, Nat.mul_assoc, Nat.mul_comm 256]⟩

theorem emits_lt (n : Nat) (out : List Nat) (low : Nat) : (emits (n + 1) out low).2 < 4294967296 := by
  induction n generalizing out low with
  | zero => exact emit_lt out low
  | succ n ih => exact ih _ _

theorem trim_alike (l : List Nat) : ∀ k, k ≤ l.length → Alike (l.take k) (l.take (trimN l k)) := by
  have : ∀ k, trimN l k = shorter l k := by
    intro k
    induction k with
    | zero => rfl
    | succ k ih => simp only [trimN, shorter, ih]
  intro k hk
  rw [this]; exact shorter_alike l k hk

theorem trim_last (l : List Nat) : ∀ k, k ≤ l.length → 0 < trimN l k → (l.take (trimN l k))[trimN l k - 1]? ≠ some 0
  | 0, _, h => by simp [trimN] at h
  | k + 1, hk, h => by
    unfold trimN at h ⊢
    split
    · rename_i hc
      rw [if_pos hc] at h
      exact trim_last l k (by omega) h
    · rename_i hc
      simpa using hc

/-- The bytes of an encoder that stands at s are a number within each stand that s lies within. -/
theorem bytes_lie {s : Sr} (hs : SOk s) {E R L : Nat} (hw : Within E R L (at_ s.1 s.2.1) s.2.2 s.1.length) : Lies (bytes s.1 s.2.1) E R L := by
  obtain ⟨⟨h1, h2, h3, h4⟩, h5⟩ := hs
  obtain ⟨d, w1, w2, w3⟩ := hw
  obtain ⟨g1, g2⟩ := emits_at 4 (out := s.1) (low := s.2.1) ⟨h1, by omega, by omega, by omega⟩
  have g3 := emits_lt 3 s.1 s.2.1
  have g4 := emits_length 4 s.1 s.2.1
  have hal := trim_alike (emits 4 s.1 s.2.1).1 (s.1.length + 4) (by omega)
  rw [List.take_of_length_le (by omega)] at hal
  have hpre : pre (bytes s.1 s.2.1) (L + 4) = pre (emits 4 s.1 s.2.1).1 (L + 4) := by
    rw [bytes]; exact (pre_alike hal _).symm
  have hbev : bev (emits 4 s.1 s.2.1).1 = at_ s.1 s.2.1 := by
    have p4 : (256 : Nat) ^ 4 = 4294967296 := by decide
    rw [p4] at g2
    generalize emits 4 s.1 s.2.1 = r at g2 g3 ⊢
    generalize at_ s.1 s.2.1 = z at g2 ⊢
    unfold at_ at g2
    omega
  have hp : 0 < 256 ^ d := Nat.pow_pos (by decide)
  unfold Lies
  rw [hpre, pre_div _ g1.byte (k := L + 4) (d := d) (by omega), hbev]
  exact ⟨(Nat.le_div_iff_mul_le hp).mpr w2, (Nat.div_lt_iff_lt_mul hp).mpr (Nat.lt_of_lt_of_le (Nat.lt_add_of_pos_right h4) w3)⟩

abbrev wS (s : Sr) : Side := .w s.1 s.2.1 s.2.2

abbrev s0 : Sr := ([], 0, 4294967295)

theorem s0_ok : SOk s0 := ⟨⟨by simp, by simp, by simp [at_, bev], by simp⟩, by simp, by simp, by simp⟩

/-- What a reader is like that has read of B what a writer has written. -/
def mate (B : List Nat) (s : Sr) : Side := .r (B.drop (s.1.length + 4)) (pre B (s.1.length + 4) - at_ s.1 s.2.1) s.2.2

theorem WithinS.trans {a b c : Sr} (x : WithinS a b) (y : WithinS b c) : WithinS a c := Within.trans x y

theorem putS_within {s : Sr} {lo hi : Nat} (h : SOk s) (h2 : lo < hi) (h3 : hi ≤ 32768) : SOk (putS s (lo, hi)) ∧ WithinS s (putS s (lo, hi)) :=
  puts_within [(lo, hi)] h (by simp; omega)

theorem Side.code_r (rest : List Nat) (code rng lo hi : Nat) : (Side.r rest code rng).code lo hi = .r (take rest code rng lo hi).1 (take rest code rng lo hi).2.1 (take rest code rng lo hi).2.2 := rfl

theorem Side.code_w (s : Sr) (lo hi : Nat) : (wS s).code lo hi = wS (putS s (lo, hi)) := rfl

theorem Side.bit_r (rest : List Nat) (code rng x : Nat) : (Side.r rest code rng).bit x = value code rng / 16384 := rfl

theorem Side.bit_w (s : Sr) (x : Nat) : (wS s).bit x = x := rfl

theorem Side.val_r (t : Tb) (x : Int) (rest : List Nat) (code rng : Nat) : (Side.r rest code rng).val t x = findP t (value code rng) := rfl

theorem Side.val_ws (t : Tb) (x : Int) (s : Sr) : (wS s).val t x = x.toNat := rfl

theorem puts_cons (s : Sr) (p : Nat × Nat) (l : List (Nat × Nat)) : puts s (p :: l) = puts (putS s p) l := rfl

theorem puts_nil (s : Sr) : puts s [] = s := rfl

theorem side_eq {x : List Nat × Nat × Nat} {a : List Nat} {b c : Nat} (h : x = (a, b, c)) : Side.r x.1 x.2.1 x.2.2 = .r a b c := by subst h; rfl

theorem mate_eq {B : List Nat} {s : Sr} {x : List Nat × Nat × Nat} (h : x = (B.drop (s.1.length + 4), pre B (s.1.length + 4) - at_ s.1 s.2.1, s.2.2)) : Side.r x.1 x.2.1 x.2.2 = mate B s := by
  rw [side_eq h, mate]

attribute [local irreducible] putS puts at_ take value dread part bytes steps

/-- What a reader does where a writer has put a part. -/
theorem mate_code {T s : Sr} {lo hi : Nat} (hT : SOk T) (hs : SOk s) (h2 : lo < hi) (h3 : hi ≤ 32768) (w : WithinS (putS s (lo, hi)) T) :
    ∃ b c r, mate (bytes T.1 T.2.1) s = .r b c r ∧ lo ≤ value c r ∧ value c r < hi ∧ (mate (bytes T.1 T.2.1) s).code lo hi = mate (bytes T.1 T.2.1) (putS s (lo, hi)) := by
  obtain ⟨g1, g2, g3, g4⟩ := put_at hs h2 h3
  have hmid : Within (at_ s.1 s.2.1 + (part s.2.2 lo hi).1) (part s.2.2 lo hi).2 s.1.length (at_ T.1 T.2.1) T.2.2 T.1.length := by
    refine Within.trans ⟨steps 3 (part s.2.2 lo hi).2, g2, Nat.le_of_eq g3.symm, ?_⟩ w
    rw [g3, g4, ← Nat.add_mul]
    exact Nat.le_refl _
  have hl := bytes_lie hT hmid
  clear w hmid g1 g2 g3 g4
  obtain ⟨B, hB⟩ : ∃ B, B = bytes T.1 T.2.1 := ⟨_, rfl⟩
  rw [← hB] at hl ⊢
  obtain ⟨⟨q1, q2⟩, q3⟩ := dec_step hs h2 h3 hl
  obtain ⟨u, hu⟩ : ∃ u, u = putS s (lo, hi) := ⟨_, rfl⟩
  rw [← hu] at q3 ⊢
  have hm : mate B s = .r (B.drop (s.1.length + 4)) (pre B (s.1.length + 4) - at_ s.1 s.2.1) s.2.2 := by rw [mate]
  rw [hm]
  obtain ⟨V, hV⟩ : ∃ V, V = pre B (s.1.length + 4) - at_ s.1 s.2.1 := ⟨_, rfl⟩
  rw [← hV] at q1 q2 q3 ⊢
  obtain ⟨x, hx⟩ : ∃ x, x = take (B.drop (s.1.length + 4)) V s.2.2 lo hi := ⟨_, rfl⟩
  rw [← hx] at q3
  refine ⟨_, _, _, rfl, q1, q2, ?_⟩
  rw [Side.code_r, ← hx]
  exact mate_eq q3

/-- The parts that bits are coded as. -/
def bitsP : Nat → Nat → List (Nat × Nat)
  | 0, _ => []
  | j + 1, v => (v / 2 ^ j % 2 * 16384, v / 2 ^ j % 2 * 16384 + 16384) :: bitsP j v

theorem bitsP_ok : ∀ (j v : Nat), ∀ p ∈ bitsP j v, p.1 < p.2 ∧ p.2 ≤ 32768
  | 0, v, p, h => by simp [bitsP] at h
  | j + 1, v, p, h => by
    simp only [bitsP, List.mem_cons] at h
    rcases h with rfl | h
    · simp only; omega
    · exact bitsP_ok j v p h

theorem bit_num (j v out : Nat) : (2 * out + v / 2 ^ j % 2) * 2 ^ j + v % 2 ^ j = out * 2 ^ (j + 1) + v % 2 ^ (j + 1) := by
  have h1 : v % 2 ^ (j + 1) = v % 2 ^ j + 2 ^ j * (v / 2 ^ j % 2) := Nat.mod_mul
  rw [h1, Nat.pow_succ, Nat.add_mul, Nat.mul_comm 2 out, Nat.mul_assoc, Nat.mul_comm 2 (2 ^ j), Nat.mul_comm (v / 2 ^ j % 2)]
  omega

attribute [local irreducible] mate

theorem bits_zero (v out : Nat) (sd : Side) : bits 0 v out sd = (out, sd) := rfl

theorem bits_succ (j v out : Nat) (sd : Side) : bits (j + 1) v out sd = bits j v (2 * out + sd.bit (v / 2 ^ j % 2)) (sd.code (sd.bit (v / 2 ^ j % 2) * 16384) (sd.bit (v / 2 ^ j % 2) * 16384 + 16384)) := rfl

theorem bitsP_succ (j v : Nat) : bitsP (j + 1) v = (v / 2 ^ j % 2 * 16384, v / 2 ^ j % 2 * 16384 + 16384) :: bitsP j v := rfl

theorem bits_w (j : Nat) : ∀ (v out : Nat) (s : Sr), bits j v out (wS s) = (out * 2 ^ j + v % 2 ^ j, wS (puts s (bitsP j v))) := by
  induction j with
  | zero =>
    intro v out s
    rw [bits_zero, show bitsP 0 v = [] from rfl, puts_nil]; simp [Nat.mod_one]
  | succ j ih =>
    intro v out s
    rw [bits_succ, Side.bit_w, Side.code_w, ih, bit_num, bitsP_succ, puts_cons]

theorem bits_mate {T : Sr} (hT : SOk T) (j : Nat) : ∀ (v v' out : Nat) (s : Sr), SOk s → WithinS (puts s (bitsP j v)) T →
    bits j v' out (mate (bytes T.1 T.2.1) s) = (out * 2 ^ j + v % 2 ^ j, mate (bytes T.1 T.2.1) (puts s (bitsP j v))) := by
  induction j with
  | zero =>
    intro v v' out s hs w
    rw [bits_zero, show bitsP 0 v = [] from rfl, puts_nil]; simp [Nat.mod_one]
  | succ j ih =>
    intro v v' out s hs w
    obtain ⟨b, hb⟩ : ∃ b, b = v / 2 ^ j % 2 := ⟨_, rfl⟩
    have hb2 : b < 2 := by omega
    have hn := bit_num j v out
    rw [bitsP_succ, puts_cons] at w
    rw [bitsP_succ, puts_cons]
    rw [← hb] at w hn ⊢
    obtain ⟨k1, k2⟩ := putS_within hs (lo := b * 16384) (hi := b * 16384 + 16384) (by omega) (by omega)
    have w1 := (puts_within (bitsP j v) k1 (bitsP_ok j v)).2
    obtain ⟨x, c, r, e1, e2, e3, e4⟩ := mate_code hT hs (lo := b * 16384) (hi := b * 16384 + 16384) (by omega) (by omega) (w1.trans w)
    have hbit : ∀ x, (mate (bytes T.1 T.2.1) s).bit x = b := fun x => by
      rw [e1, Side.bit_r]; omega
    rw [bits_succ, hbit, e4, ih v v' _ _ k1 w, hn]

theorem find_mate {t : Tb} (ok : TabOk t) {v at_ : Nat} (hv : v < t.c.length) (h1 : pt t v ≤ at_) (h2 : at_ < pt t (v + 1)) : findP t at_ = v :=
  findP_eq hv h2 fun j hj => Nat.le_trans (pt_mono ok (show j + 1 ≤ v by omega) (by omega)) h1

theorem val_mate {T s : Sr} {t : Tb} (ok : TabOk t) {v : Nat} (hT : SOk T) (hs : SOk s) (hv : v < t.c.length) (w : WithinS (putS s (pt t v, pt t (v + 1))) T) (x : Int) :
    (mate (bytes T.1 T.2.1) s).val t x = v ∧ (mate (bytes T.1 T.2.1) s).code (pt t v) (pt t (v + 1)) = mate (bytes T.1 T.2.1) (putS s (pt t v, pt t (v + 1))) := by
  obtain ⟨y, c, r, e1, e2, e3, e4⟩ := mate_code hT hs (pt_lt ok hv) (pt_le ok (Nat.succ_le_of_lt hv)) w
  refine ⟨?_, e4⟩
  rw [e1, Side.val_r]
  exact find_mate ok hv e2 e3

inductive Op where
  | num (n v : Nat)
  | sym (k c v : Nat)

def Op.ok : Op → Prop
  | .num n v => n < 31 ∧ v < 2 ^ n
  | .sym k c v => k < 32 ∧ c < cx k ∧ v < vl k

def St.step (st : St) : Op → St
  | .num n v => st.num n v
  | .sym k c v => st.sym k c v

def St.run (st : St) (l : List Op) : St := l.foldl St.step st

/-- The reader that has read what a writer has written. -/
def mateS (B : List Nat) (s : Sr) (st : St) : St := ⟨mate B s, st.S, st.ad, st.n⟩

theorem step_w {st : St} {s : Sr} (hs : st.sd = wS s) (ok : SOk s) (so : SetOk st.S) {o : Op} (ho : o.ok) :
    ∃ s', (st.step o).sd = wS s' ∧ SOk s' ∧ WithinS s s' ∧ SetOk (st.step o).S ∧ (st.step o).ad = st.ad ∧ (st.ad = false → (st.step o).S = st.S) ∧
      ∀ T, SOk T → WithinS s' T → match o with
        | .num n v => ((mateS (bytes T.1 T.2.1) s st).num n 0 = mateS (bytes T.1 T.2.1) s' (st.step o)) ∧ (mateS (bytes T.1 T.2.1) s st).numV n 0 = v ∧ st.numV n v = v
        | .sym k c v => ((mateS (bytes T.1 T.2.1) s st).sym k c (-1) = mateS (bytes T.1 T.2.1) s' (st.step o)) ∧ (mateS (bytes T.1 T.2.1) s st).symV k c (-1) = v ∧ st.symV k c v = v := by
  cases o with
  | num n v =>
    obtain ⟨h1, h2⟩ := ho
    have hv : v % 2 ^ n = v := Nat.mod_eq_of_lt h2
    have hw := bits_w n v 0 s
    rw [hv, Nat.zero_mul, Nat.zero_add] at hw
    have k := puts_within (bitsP n v) ok (bitsP_ok n v)
    refine ⟨puts s (bitsP n v), ?_, k.1, k.2, so, rfl, fun _ => rfl, fun T hT w => ?_⟩
    · show (bits n v 0 st.sd).2 = _
      rw [hs, hw]
    · have hm := bits_mate hT n v 0 0 s ok w
      rw [hv, Nat.zero_mul, Nat.zero_add] at hm
      refine ⟨?_, ?_, ?_⟩
      · show St.mk (bits n 0 0 (mate _ s)).2 st.S st.ad (st.n + n) = _
        rw [hm]; rfl
      · show (bits n 0 0 (mate _ s)).1 = v
        rw [hm]
      · show (bits n v 0 st.sd).1 = v
        rw [hs, hw]
  | sym k c v =>
    obtain ⟨h1, h2, h3⟩ := ho
    obtain ⟨r, hr, ht, tok, tl⟩ := so.get h1 h2
    obtain ⟨t, htd⟩ : ∃ t, t = tabOf st.S k c := ⟨_, rfl⟩
    rw [← htd] at ht tok tl
    have hvl : v < t.c.length := by omega
    obtain ⟨k1, k2⟩ := putS_within ok (pt_lt tok hvl) (pt_le tok (Nat.succ_le_of_lt hvl))
    have hval : st.sd.val t (v : Int) = v := by rw [hs]; simp [Side.val]
    have hst : st.step (.sym k c v) = ⟨wS (putS s (pt t v, pt t (v + 1))), if st.ad then st.S.set k ((st.S.getD k []).set c (adaptP t v)) else st.S, st.ad, st.n + 1⟩ := by
      show st.sym k c v = _
      rw [St.sym, ← htd, hval, hs, Side.code_w]
    refine ⟨putS s (pt t v, pt t (v + 1)), by rw [hst], k1, k2, ?_, by rw [hst], fun h => by rw [hst]; simp [h], fun T hT w => ?_⟩
    · rw [hst]
      show SetOk (if st.ad then _ else _)
      split
      · exact so.set h1 (adaptP_ok tok v) (by rw [adaptP_len, tl])
      · exact so
    · obtain ⟨m1, m2⟩ := val_mate tok hT ok hvl w (-1)
      refine ⟨?_, ?_, ?_⟩
      · rw [hst]
        show St.sym ⟨mate _ s, st.S, st.ad, st.n⟩ k c (-1) = _
        rw [St.sym]
        simp only
        rw [← htd, m1, m2]; rfl
      · show (mate _ s).val (tabOf st.S k c) (-1) = v
        rw [← htd, m1]
      · show st.sd.val (tabOf st.S k c) v = v
        rw [← htd, hval]

theorem run_within : ∀ (l : List Op) {st : St} {s : Sr}, st.sd = wS s → SOk s → SetOk st.S → (∀ o ∈ l, o.ok) →
    ∃ T, (st.run l).sd = wS T ∧ SOk T ∧ WithinS s T
  | [], st, s, hs, ok, so, ho => ⟨s, hs, ok, Within.refl _ _ _⟩
  | o :: l, st, s, hs, ok, so, ho => by
    obtain ⟨s', h1, h2, h3, h4, _, _, _⟩ := step_w hs ok so (ho o (by simp))
    obtain ⟨T, g1, g2, g3⟩ := run_within l h1 h2 h4 fun o' h => ho o' (by simp [h])
    exact ⟨T, g1, g2, h3.trans g3⟩

theorem newR_mate {T : Sr} (hT : SOk T) (w : WithinS s0 T) (S : List (List Tb)) (ad : Bool) :
    newR (bytes T.1 T.2.1) S ad = mateS (bytes T.1 T.2.1) s0 (newW S ad) := by
  have h0 := dsh_pre (bytes T.1 T.2.1) 4 0
  rw [pre_zero] at h0
  simp only [List.drop_zero, Nat.zero_add] at h0
  have hw : Within 0 4294967295 0 (at_ T.1 T.2.1) T.2.2 T.1.length := by simpa [WithinS, at_, bev] using w
  have hl := (bytes_lie hT hw).2
  simp only [Nat.zero_add] at hl
  have hd : dread (bytes T.1 T.2.1) = ((bytes T.1 T.2.1).drop 4, pre (bytes T.1 T.2.1) 4) := by
    simp only [dread, h0]
    rw [Nat.min_eq_left (by omega)]
  rw [newR, hd]
  simp [mateS, mate, newW, at_, bev]

end Go.Proofs.Ytbajipmhnoakeaa
