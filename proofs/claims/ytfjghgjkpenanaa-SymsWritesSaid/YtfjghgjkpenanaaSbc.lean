/- The plain law of the range coder: what was put is found. -/
import Derived.Test.YtfjghgjkpenanaaSbb
set_option linter.unusedVariables false
set_option linter.unusedSimpArgs false
namespace Go.Proofs.Ytfjghgjkpenanaa
open Go Go.Zf

def Alike (a b : List Nat) : Prop := ∀ i, a.getD i 0 = b.getD i 0
theorem Alike.head {a b : List Nat} (h : Alike a b) : a.headD 0 = b.headD 0 := by
  have := h 0
  cases a <;> cases b <;> first | rfl | (simpa using this)
theorem Alike.tail {a b : List Nat} (h : Alike a b) : Alike a.tail b.tail := fun i => by
  have := h (i + 1)
  cases a <;> cases b <;> first | rfl | (simpa using this)
theorem Alike.dsh : ∀ (n : Nat) {a b : List Nat} (c : Nat), Alike a b → Alike (dsh n a c).1 (dsh n b c).1 ∧ (dsh n a c).2 = (dsh n b c).2
  | 0, a, b, c, h => ⟨h, rfl⟩
  | n + 1, a, b, c, h => by
    simp only [Ytfjghgjkpenanaa.dsh]
    rw [h.head]
    exact Alike.dsh n _ h.tail
theorem Alike.read {a b : List Nat} (h : Alike a b) : Alike (dread a).1 (dread b).1 ∧ (dread a).2 = (dread b).2 := by
  have := Alike.dsh 4 0 h
  exact ⟨this.1, by simp only [dread, this.2]⟩
theorem Alike.renorm : ∀ (n : Nat) {a b : List Nat} (c w : Nat), Alike a b → Alike (drenorm n a c w).1 (drenorm n b c w).1 ∧ (drenorm n a c w).2 = (drenorm n b c w).2
  | 0, a, b, c, w, h => ⟨h, rfl⟩
  | n + 1, a, b, c, w, h => by
    simp only [drenorm]
    split
    · rw [h.head]
      exact Alike.renorm n _ _ h.tail
    · exact ⟨h, rfl⟩
theorem Alike.take {a b : List Nat} (h : Alike a b) (c r lo hi : Nat) : Alike (take a c r lo hi).1 (take b c r lo hi).1 ∧ (take a c r lo hi).2 = (take b c r lo hi).2 := Alike.renorm 3 _ _ h

/-- How many are left without the noughts at the end. -/
def shorter (l : List Nat) : Nat → Nat
  | 0 => 0
  | k + 1 => if l[k]? = some 0 then shorter l k else k + 1
theorem shorter_le (l : List Nat) : ∀ k, shorter l k ≤ k
  | 0 => Nat.le_refl _
  | k + 1 => by unfold shorter; split; exact Nat.le_succ_of_le (shorter_le l k); exact Nat.le_refl _
theorem shorter_alike (l : List Nat) : ∀ k, k ≤ l.length → Alike (l.take k) (l.take (shorter l k))
  | 0, _ => fun i => rfl
  | k + 1, hk => by
    unfold shorter
    split
    · rename_i h
      intro i
      rw [← shorter_alike l k (by omega) i]
      simp only [List.getD_eq_getElem?_getD, List.getElem?_take]
      by_cases h1 : i < k
      · simp [h1, show i < k + 1 by omega]
      · by_cases h2 : i = k
        · subst h2; simp [h]
        · simp [h1, show ¬ i < k + 1 by omega]
    · intro i; rfl

/-- Bytes as a number, the first one first. -/
def bev (l : List Nat) : Nat := l.foldl (fun a b => a * 256 + b) 0
theorem bev_snoc (l : List Nat) (b : Nat) : bev (l ++ [b]) = bev l * 256 + b := by simp [bev]
theorem bev_nil : bev [] = 0 := rfl
theorem bev_append (a : List Nat) : ∀ b : List Nat, bev (a ++ b) = bev a * 256 ^ b.length + bev b := by
  intro b
  obtain ⟨n, hn⟩ : ∃ n, n = b.length := ⟨_, rfl⟩
  induction n generalizing b with
  | zero => have : b = [] := List.length_eq_zero_iff.mp hn.symm; subst this; simp [bev_nil]
  | succ n ih =>
    rcases List.eq_nil_or_concat b with h0 | ⟨c, x, h0⟩
    · subst h0; simp at hn
    · subst h0
      have h1 := ih c (by simpa using hn)
      rw [List.concat_eq_append, ← List.append_assoc, bev_snoc, bev_snoc, h1]
      simp only [List.length_append, List.length_singleton, Nat.pow_succ]
      rw [Nat.add_mul, Nat.mul_assoc, Nat.add_assoc]
theorem bev_lt : ∀ l : List Nat, (∀ x ∈ l, x < 256) → bev l < 256 ^ l.length := by
  intro l
  obtain ⟨n, hn⟩ : ∃ n, n = l.length := ⟨_, rfl⟩
  induction n generalizing l with
  | zero => intro _; have : l = [] := List.length_eq_zero_iff.mp hn.symm; subst this; simp [bev_nil]
  | succ n ih =>
    intro hb
    rcases List.eq_nil_or_concat l with h0 | ⟨c, x, h0⟩
    · subst h0; simp at hn
    · subst h0
      have h1 := ih c (by simpa using hn) fun y hy => hb y (by simp [hy])
      have h2 := hb x (by simp)
      rw [List.concat_eq_append, bev_snoc]
      simp only [List.length_append, List.length_singleton, Nat.pow_succ]
      omega
theorem bev_inc : ∀ l : List Nat, (∀ x ∈ l, x < 256) → bev l + 1 < 256 ^ l.length → bev (inc l) = bev l + 1 := by
  intro l
  obtain ⟨n, hn⟩ : ∃ n, n = l.length := ⟨_, rfl⟩
  induction n generalizing l with
  | zero => intro _ h; have : l = [] := List.length_eq_zero_iff.mp hn.symm; subst this; simp [bev_nil] at h
  | succ n ih =>
    intro hb h
    rcases List.eq_nil_or_concat l with h0 | ⟨c, x, h0⟩
    · subst h0; simp at hn
    · subst h0
      have h2 := hb x (by simp)
      rw [List.concat_eq_append] at h ⊢
      rw [bev_snoc] at h
      simp only [List.length_append, List.length_singleton, Nat.pow_succ] at h
      rw [inc_snoc, bev_snoc]
      split
      · rename_i hx
        rw [bev_snoc, ih c (by simpa using hn) (fun y hy => hb y (by simp [hy])) (by omega)]
        omega
      · rw [bev_snoc]; omega

/-- Where an encoder stands, as a number. -/
def at_ (out : List Nat) (low : Nat) : Nat := bev out * 4294967296 + low
theorem emit_at {out : List Nat} {low : Nat} (hb : ∀ x ∈ out, x < 256) (hl : low < 8589934592) (hf : at_ out low < 4294967296 * 256 ^ out.length) :
    at_ (emit out low).1 (emit out low).2 = at_ out low * 256 ∧ ∀ x ∈ (emit out low).1, x < 256 := by
  unfold at_ at *
  unfold emit
  split
  · rename_i hc
    have h1 := bev_inc out hb (by
      have : (bev out + 1) * 4294967296 < 256 ^ out.length * 4294967296 := by rw [Nat.mul_comm (256 ^ out.length)]; omega
      exact Nat.lt_of_mul_lt_mul_right this)
    refine ⟨?_, fun x hx => ?_⟩
    · simp only [bev_snoc, h1]; omega
    · rcases List.mem_append.mp hx with h | h
      · exact inc_byte hb x h
      · simp at h; omega
  · rename_i hc
    refine ⟨?_, fun x hx => ?_⟩
    · simp only [bev_snoc]; omega
    · rcases List.mem_append.mp hx with h | h
      · exact hb x h
      · simp at h; omega

/-- How often a range is widened. -/
def steps : Nat → Nat → Nat
  | 0, _ => 0
  | n + 1, w => if w < 16777216 then steps n (w * 256) + 1 else 0
theorem steps3 {w : Nat} (h : 512 ≤ w) : steps 3 w ≤ 2 := by
  simp only [steps]
  split
  · split
    · rw [if_neg (by omega)]; omega
    · omega
  · omega

/-- What is so of an encoder at any time. -/
structure SInv (out : List Nat) (low wide : Nat) : Prop where
  byte : ∀ x ∈ out, x < 256
  lw : low + wide < 8589934592
  fit : at_ out low + wide ≤ 4294967296 * 256 ^ out.length
  pos : 0 < wide
theorem renorm_at : ∀ (n : Nat) {out : List Nat} {low wide : Nat}, SInv out low wide → wide < 4294967296 →
    SInv (renorm n out low wide).1 (renorm n out low wide).2.1 (renorm n out low wide).2.2 ∧ (renorm n out low wide).1.length = out.length + steps n wide ∧
      at_ (renorm n out low wide).1 (renorm n out low wide).2.1 = at_ out low * 256 ^ steps n wide ∧ (renorm n out low wide).2.2 = wide * 256 ^ steps n wide
  | 0, out, low, wide, h, hw => ⟨h, rfl, by simp [renorm, steps], by simp [renorm, steps]⟩
  | n + 1, out, low, wide, h, hw => by
    simp only [renorm, steps]
    split
    · rename_i hc
      obtain ⟨h1, h2, h3, h4⟩ := h
      obtain ⟨e1, e2⟩ := emit_at (low := low) h1 (by omega) (by omega)
      have hel := emit_length out low
      have hlt : (emit out low).2 ≤ 4294967040 := by unfold emit; split <;> simp <;> omega
      have hs : SInv (emit out low).1 (emit out low).2 (wide * 256) := by
        refine ⟨e2, by omega, ?_, by omega⟩
        rw [e1, hel, Nat.pow_succ]
        omega
      obtain ⟨g1, g2, g3, g4⟩ := renorm_at n hs (by omega)
      refine ⟨g1, by rw [g2, hel]; omega, ?_, ?_⟩
      · rw [g3, e1, Nat.pow_succ, Nat.mul_assoc, Nat.mul_comm 256]
      · rw [g4, Nat.pow_succ, Nat.mul_assoc, Nat.mul_comm 256]
    · exact ⟨h, rfl, by simp, by simp⟩

theorem part_within {out : List Nat} {low rng lo hi : Nat} (h : SInv out low rng) (h0 : 16777216 ≤ rng) (h1 : rng < 4294967296) (h2 : lo < hi) (h3 : hi ≤ 32768) :
    SInv out (low + (part rng lo hi).1) (part rng lo hi).2 := by
  obtain ⟨m1, m2⟩ := part_bounds h0 h1 h2 h3
  obtain ⟨g1, g2, g3, g4⟩ := h
  exact ⟨g1, by omega, by unfold at_ at *; omega, by omega⟩

/-- One stand lies within another. -/
def Within (E R L E' R' L' : Nat) : Prop := ∃ d, L' = L + d ∧ E * 256 ^ d ≤ E' ∧ E' + R' ≤ (E + R) * 256 ^ d
theorem Within.refl (E R L : Nat) : Within E R L E R L := ⟨0, by simp, by simp, by simp⟩
theorem Within.trans {a b c d e f g h i : Nat} (x : Within a b c d e f) (y : Within d e f g h i) : Within a b c g h i := by
  obtain ⟨m, x1, x2, x3⟩ := x
  obtain ⟨n, y1, y2, y3⟩ := y
  refine ⟨m + n, by omega, ?_, ?_⟩
  · rw [Nat.pow_add, ← Nat.mul_assoc]
    exact Nat.le_trans (Nat.mul_le_mul_right _ x2) y2
  · rw [Nat.pow_add, ← Nat.mul_assoc]
    exact Nat.le_trans y3 (Nat.mul_le_mul_right _ x3)

abbrev Sr := List Nat × Nat × Nat
def putS (s : Sr) (p : Nat × Nat) : Sr := put s.1 s.2.1 s.2.2 p.1 p.2
def puts (s : Sr) (ps : List (Nat × Nat)) : Sr := ps.foldl putS s
def SOk (s : Sr) : Prop := SInv s.1 s.2.1 s.2.2 ∧ EInv s.2.1 s.2.2
def WithinS (s t : Sr) : Prop := Within (at_ s.1 s.2.1) s.2.2 s.1.length (at_ t.1 t.2.1) t.2.2 t.1.length

theorem put_at {s : Sr} {lo hi : Nat} (h : SOk s) (h2 : lo < hi) (h3 : hi ≤ 32768) :
    SOk (putS s (lo, hi)) ∧ (putS s (lo, hi)).1.length = s.1.length + steps 3 (part s.2.2 lo hi).2 ∧
      at_ (putS s (lo, hi)).1 (putS s (lo, hi)).2.1 = (at_ s.1 s.2.1 + (part s.2.2 lo hi).1) * 256 ^ steps 3 (part s.2.2 lo hi).2 ∧
      (putS s (lo, hi)).2.2 = (part s.2.2 lo hi).2 * 256 ^ steps 3 (part s.2.2 lo hi).2 := by
  obtain ⟨i, e⟩ := h
  have hw := part_within i e.1 e.2.1 h2 h3
  obtain ⟨m1, m2⟩ := part_bounds e.1 e.2.1 h2 h3
  have := e.2.1
  obtain ⟨g1, g2, g3, g4⟩ := renorm_at 3 hw (by omega)
  refine ⟨⟨g1, (put_inv e h2 h3).1⟩, g2, ?_, g4⟩
  rw [show at_ s.1 s.2.1 + (part s.2.2 lo hi).1 = at_ s.1 (s.2.1 + (part s.2.2 lo hi).1) by unfold at_; omega]
  exact g3

theorem puts_within : ∀ (ps : List (Nat × Nat)) {s : Sr}, SOk s → (∀ p ∈ ps, p.1 < p.2 ∧ p.2 ≤ 32768) → SOk (puts s ps) ∧ WithinS s (puts s ps)
  | [], s, h, _ => ⟨h, Within.refl _ _ _⟩
  | p :: ps, s, h, hp => by
    obtain ⟨h1, h2⟩ := hp p (by simp)
    obtain ⟨g1, g2, g3, g4⟩ := put_at h h1 h2
    obtain ⟨m1, m2⟩ := part_bounds h.2.1 h.2.2.1 h1 h2
    obtain ⟨k1, k2⟩ := puts_within ps g1 fun q hq => hp q (by simp [hq])
    refine ⟨k1, Within.trans ⟨steps 3 (part s.2.2 p.1 p.2).2, g2, ?_, ?_⟩ k2⟩
    · show _ ≤ at_ (putS s (p.1, p.2)).1 (putS s (p.1, p.2)).2.1
      rw [g3]
      exact Nat.mul_le_mul_right _ (by omega)
    · show at_ (putS s (p.1, p.2)).1 (putS s (p.1, p.2)).2.1 + (putS s (p.1, p.2)).2.2 ≤ _
      rw [g3, g4, ← Nat.add_mul]
      exact Nat.mul_le_mul_right _ (by omega)

/-! What a decoder has read of bytes. -/
def pre (B : List Nat) : Nat → Nat
  | 0 => 0
  | k + 1 => pre B k * 256 + B.getD k 0
theorem pre_succ (B : List Nat) (k : Nat) : pre B (k + 1) = pre B k * 256 + B.getD k 0 := rfl
attribute [irreducible] pre
theorem pre_zero (B : List Nat) : pre B 0 = 0 := by unfold pre; rfl
theorem pre_alike {a b : List Nat} (h : Alike a b) : ∀ k, pre a k = pre b k
  | 0 => by rw [pre_zero, pre_zero]
  | k + 1 => by rw [pre_succ, pre_succ, pre_alike h k, h k]
theorem pre_take (l : List Nat) : ∀ k, k ≤ l.length → pre l k = bev (l.take k)
  | 0, _ => by rw [pre_zero]; rfl
  | k + 1, h => by
    rw [pre_succ, pre_take l k (by omega), List.take_add_one, List.getElem?_eq_getElem (by omega), Option.toList_some, bev_snoc]
    simp [List.getD_eq_getElem?_getD, List.getElem?_eq_getElem (show k < l.length by omega)]
theorem pre_div (l : List Nat) (hb : ∀ x ∈ l, x < 256) {k d : Nat} (h : l.length = k + d) : pre l k = bev l / 256 ^ d := by
  rw [pre_take l k (by omega)]
  have e : bev l = bev (l.take k) * 256 ^ d + bev (l.drop k) := by
    conv => lhs; rw [← List.take_append_drop k l]
    rw [bev_append]; simp [show l.length - k = d by omega]
  have hlt := bev_lt (l.drop k) fun x hx => hb x (List.mem_of_mem_drop hx)
  rw [List.length_drop, show l.length - k = d by omega] at hlt
  have hp : 0 < 256 ^ d := Nat.pow_pos (by decide)
  rw [e, Nat.add_comm, Nat.mul_comm (bev (List.take k l)), Nat.add_mul_div_left _ _ hp, Nat.div_eq_of_lt hlt, Nat.zero_add]

theorem headD_drop (B : List Nat) (k : Nat) : (B.drop k).headD 0 = B.getD k 0 := by
  rw [List.getD_eq_getElem?_getD, ← List.head?_drop]
  cases B.drop k <;> rfl
theorem dsh_pre (B : List Nat) : ∀ (n k : Nat), dsh n (B.drop k) (pre B k) = (B.drop (k + n), pre B (k + n))
  | 0, k => rfl
  | n + 1, k => by
    rw [dsh, List.tail_drop, headD_drop, ← pre_succ, dsh_pre B n (k + 1), show k + 1 + n = k + (n + 1) by omega]
theorem drenorm_pre (B : List Nat) : ∀ (n k e w : Nat), e ≤ pre B k → drenorm n (B.drop k) (pre B k - e) w = (B.drop (k + steps n w), pre B (k + steps n w) - e * 256 ^ steps n w, w * 256 ^ steps n w)
  | 0, k, e, w, h => by simp [drenorm, steps]
  | n + 1, k, e, w, h => by
    have hb := pre_succ B k
    have hm := Nat.mul_le_mul_right 256 h
    have e1 : (pre B k - e) * 256 + B.getD k 0 = pre B (k + 1) - e * 256 := by rw [Nat.sub_mul]; omega
    have e2 := drenorm_pre B n (k + 1) (e * 256) (w * 256) (by omega)
    simp only [drenorm, steps]
    split
    · rw [List.tail_drop, headD_drop, e1, e2]
      generalize steps n (w * 256) = j
      rw [Nat.pow_succ, Nat.mul_comm (256 ^ j), ← Nat.mul_assoc, ← Nat.mul_assoc, show k + 1 + j = k + (j + 1) by omega]
    · simp

/-- Bytes that lie within a stand. -/
def Lies (B : List Nat) (E R L : Nat) : Prop := E ≤ pre B (L + 4) ∧ pre B (L + 4) < E + R
theorem value_in {q r V A lo hi : Nat} (hq : q = r / 32768) (h0 : 512 ≤ q) (h3 : hi ≤ 32768) (h2 : lo < hi) (l1 : A + q * lo ≤ V) (l2 : hi ≠ 32768 → V < A + q * lo + q * (hi - lo)) : lo ≤ value (V - A) r ∧ value (V - A) r < hi := by
  unfold value
  rw [← hq]
  have h5 : lo ≤ (V - A) / q := (Nat.le_div_iff_mul_le (by omega)).mpr (by rw [Nat.mul_comm]; omega)
  refine ⟨by omega, ?_⟩
  by_cases hc : hi = 32768
  · omega
  · have h6 := l2 hc
    have h7 : q * lo + q * (hi - lo) = q * hi := by rw [← Nat.mul_add]; congr 1; omega
    have h8 : (V - A) / q < hi := (Nat.div_lt_iff_lt_mul (by omega)).mpr (by rw [Nat.mul_comm]; omega)
    omega

theorem dec_step {B : List Nat} {s : Sr} {lo hi : Nat} (h : SOk s) (h2 : lo < hi) (h3 : hi ≤ 32768) (hl : Lies B (at_ s.1 s.2.1 + (part s.2.2 lo hi).1) (part s.2.2 lo hi).2 s.1.length) :
    (lo ≤ value (pre B (s.1.length + 4) - at_ s.1 s.2.1) s.2.2 ∧ value (pre B (s.1.length + 4) - at_ s.1 s.2.1) s.2.2 < hi) ∧
      take (B.drop (s.1.length + 4)) (pre B (s.1.length + 4) - at_ s.1 s.2.1) s.2.2 lo hi = (B.drop ((putS s (lo, hi)).1.length + 4), pre B ((putS s (lo, hi)).1.length + 4) - at_ (putS s (lo, hi)).1 (putS s (lo, hi)).2.1, (putS s (lo, hi)).2.2) := by
  obtain ⟨g1, g2, g3, g4⟩ := put_at h h2 h3
  obtain ⟨l1, l2⟩ := hl
  obtain ⟨e1, e2, e3⟩ := h.2
  have hq : 512 ≤ s.2.2 / 32768 := by omega
  have ep : (part s.2.2 lo hi).1 = s.2.2 / 32768 * lo := rfl
  have l1' : at_ s.1 s.2.1 + s.2.2 / 32768 * lo ≤ pre B (s.1.length + 4) := by rw [← ep]; exact l1
  have l2' : hi ≠ 32768 → pre B (s.1.length + 4) < at_ s.1 s.2.1 + s.2.2 / 32768 * lo + s.2.2 / 32768 * (hi - lo) := fun hc => by
    have e : (part s.2.2 lo hi).2 = s.2.2 / 32768 * (hi - lo) := by simp only [part, if_neg hc]
    rw [e, ep] at l2
    exact l2
  generalize putS s (lo, hi) = s' at g1 g2 g3 g4 ⊢
  have ht : ∀ (a : List Nat) (c r : Nat), take a c r lo hi = drenorm 3 a (c - (part r lo hi).1) (part r lo hi).2 := fun _ _ _ => rfl
  have e5 := drenorm_pre B 3 (s.1.length + 4) (at_ s.1 s.2.1 + (part s.2.2 lo hi).1) (part s.2.2 lo hi).2 l1
  have hv := value_in (q := s.2.2 / 32768) (r := s.2.2) rfl hq h3 h2 l1' l2'
  refine ⟨hv, ?_⟩
  rw [ht, Nat.sub_sub, e5, g2, g3, g4, Nat.add_right_comm]

theorem emits_at : ∀ (n : Nat) {out : List Nat} {low : Nat}, SInv out low 1 → SInv (emits n out low).1 (emits n out low).2 1 ∧ at_ (emits n out low).1 (emits n out low).2 = at_ out low * 256 ^ n
  | 0, out, low, h => ⟨h, by simp [emits]⟩
  | n + 1, out, low, h => by
    obtain ⟨h1, h2, h3, h4⟩ := h
    obtain ⟨e1, e2⟩ := emit_at (low := low) h1 (by omega) (by omega)
    have hel := emit_length out low
    have hlt := emit_lt out low
    have hs : SInv (emit out low).1 (emit out low).2 1 := ⟨e2, by omega, by rw [e1, hel, Nat.pow_succ]; omega, by omega⟩
    obtain ⟨g1, g2⟩ := emits_at n hs
    exact ⟨g1, by rw [emits, g2, e1, Nat.pow_succ, Nat.mul_assoc, Nat.mul_comm 256]⟩

theorem emits_lt (n : Nat) (out : List Nat) (low : Nat) : (emits (n + 1) out low).2 < 4294967296 := by
  induction n generalizing out low with
  | zero => exact emit_lt out low
  | succ n ih => exact ih _ _

theorem trim_alike (l : List Nat) : ∀ k, k ≤ l.length → Alike (l.take k) (l.take (trimN l k)) := by
  have : ∀ k, trimN l k = shorter l k := by
    intro k
    induction k with
    | zero => rfl
    | succ k ih => simp only [trimN, shorter, ih]
  intro k hk
  rw [this]; exact shorter_alike l k hk
theorem trim_last (l : List Nat) : ∀ k, k ≤ l.length → 0 < trimN l k → (l.take (trimN l k))[trimN l k - 1]? ≠ some 0
  | 0, _, h => by simp [trimN] at h
  | k + 1, hk, h => by
    unfold trimN at h ⊢
    split
    · rename_i hc
      rw [if_pos hc] at h
      exact trim_last l k (by omega) h
    · rename_i hc
      simpa using hc

/-- The bytes of an encoder that stands at s are a number within each stand that s lies within. -/
theorem bytes_lie {s : Sr} (hs : SOk s) {E R L : Nat} (hw : Within E R L (at_ s.1 s.2.1) s.2.2 s.1.length) : Lies (bytes s.1 s.2.1) E R L := by
  obtain ⟨⟨h1, h2, h3, h4⟩, h5⟩ := hs
  obtain ⟨d, w1, w2, w3⟩ := hw
  obtain ⟨g1, g2⟩ := emits_at 4 (out := s.1) (low := s.2.1) ⟨h1, by omega, by omega, by omega⟩
  have g3 := emits_lt 3 s.1 s.2.1
  have g4 := emits_length 4 s.1 s.2.1
  have hal := trim_alike (emits 4 s.1 s.2.1).1 (s.1.length + 4) (by omega)
  rw [List.take_of_length_le (by omega)] at hal
  have hpre : pre (bytes s.1 s.2.1) (L + 4) = pre (emits 4 s.1 s.2.1).1 (L + 4) := by
    rw [bytes]; exact (pre_alike hal _).symm
  have hbev : bev (emits 4 s.1 s.2.1).1 = at_ s.1 s.2.1 := by
    have p4 : (256 : Nat) ^ 4 = 4294967296 := by decide
    rw [p4] at g2
    generalize emits 4 s.1 s.2.1 = r at g2 g3 ⊢
    generalize at_ s.1 s.2.1 = z at g2 ⊢
    unfold at_ at g2
    omega
  have hp : 0 < 256 ^ d := Nat.pow_pos (by decide)
  unfold Lies
  rw [hpre, pre_div _ g1.byte (k := L + 4) (d := d) (by omega), hbev]
  exact ⟨(Nat.le_div_iff_mul_le hp).mpr w2, (Nat.div_lt_iff_lt_mul hp).mpr (Nat.lt_of_lt_of_le (Nat.lt_add_of_pos_right h4) w3)⟩
end Go.Proofs.Ytfjghgjkpenanaa
