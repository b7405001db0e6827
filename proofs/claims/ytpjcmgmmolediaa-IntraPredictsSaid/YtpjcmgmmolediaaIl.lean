/- The plain law: what is predicted lies between what is seen. -/
import Derived.Test.YtpjcmgmmolediaaIk
set_option linter.unusedVariables false
set_option linter.unusedSimpArgs false
namespace Go.Proofs.Ytpjcmgmmolediaa
open Go Go.Zf Go.RowKit

def Bd (lo hi : Int) (e : Int → Int) : Prop := ∀ i, lo ≤ e i ∧ e i ≤ hi

theorem mix_bd {lo hi s t x y : Int} (hs : 0 ≤ s) (ht : 0 ≤ t) (hx : lo ≤ x ∧ x ≤ hi) (hy : lo ≤ y ∧ y ≤ hi) : (s + t) * lo ≤ s * x + t * y ∧ s * x + t * y ≤ (s + t) * hi := by
  have a1 := Int.mul_le_mul_of_nonneg_left hx.1 hs
  have a2 := Int.mul_le_mul_of_nonneg_left hx.2 hs
  have a3 := Int.mul_le_mul_of_nonneg_left hy.1 ht
  have a4 := Int.mul_le_mul_of_nonneg_left hy.2 ht
  rw [Int.add_mul, Int.add_mul]
  omega

theorem bt_bd {lo hi n p q far frm : Int} {e : Int → Int} (h : Bd lo hi e) : lo ≤ bt n p q e far frm ∧ bt n p q e far frm ≤ hi := by
  unfold bt
  split
  · exact h _
  · have h1 := h (far / q + frm * p)
    have h2 := h (far / q + frm * p + 1)
    have hs := Int.emod_nonneg (far * p / 2) (show (32 : Int) ≠ 0 by decide)
    have hs2 := Int.emod_lt_of_pos (far * p / 2) (show (0 : Int) < 32 by decide)
    have := mix_bd (s := 32 - far * p / 2 % 32) (t := far * p / 2 % 32) (by omega) hs h1 h2
    rw [show 32 - far * p / 2 % 32 + far * p / 2 % 32 = 32 by omega] at this
    omega
theorem btw_bd {lo hi n far frm : Int} {u : Nat} {e : Int → Int} (h : Bd lo hi e) : lo ≤ btw n u e far frm ∧ btw n u e far frm ≤ hi := by
  unfold btw; split <;> exact bt_bd h

theorem slt_bd {lo hi n angle : Int} {u : Nat} {A L : Int → Int} (hA : Bd lo hi A) (hL : Bd lo hi L) (x y : Int) : lo ≤ slt n u angle A L x y ∧ slt n u angle A L x y ≤ hi := by
  unfold slt
  split
  · exact btw_bd hA
  · split
    · exact btw_bd hL
    · split
      · exact btw_bd hA
      · exact btw_bd hL

theorem dirE_bd {lo hi n delta c : Int} {e : Int → Int} (h : Bd lo hi e) (hc : lo ≤ c ∧ c ≤ hi) (hd : delta = 0 ∨ 8 ≤ n ∨ (lo = hi ∧ 0 ≤ lo ∧ lo ≤ 255)) : Bd lo hi (dirE n delta c e) := by
  intro i
  unfold dirE
  split
  · unfold eSm
    dsimp only
    split
    · exact hc
    · have h1 := h (cl (2 * n - 1) i - 1)
      have h2 := h (cl (2 * n - 1) i)
      have h3 := h (min (cl (2 * n - 1) i + 1) (2 * n - 1))
      omega
  · split
    · rename_i c1 c2
      have hl : lo = hi ∧ 0 ≤ lo ∧ lo ≤ 255 := by omega
      obtain ⟨rfl, h0, h255⟩ := hl
      unfold eDb
      dsimp only
      split
      · exact h _
      · have h1 := h (cl (4 * n) i / 2)
        have h2 := h (cl (4 * n) i / 2 + 1)
        have h3 := h (cl (4 * n) i / 2 - 1)
        have h4 := h (cl (4 * n) i / 2 + 2)
        omega
    · exact h i

theorem dirS_bd {lo hi n delta c angle : Int} {A L : Int → Int} (hA : Bd lo hi A) (hL : Bd lo hi L) (hc : lo ≤ c ∧ c ≤ hi) (hd : delta = 0 ∨ 8 ≤ n ∨ (lo = hi ∧ 0 ≤ lo ∧ lo ≤ 255)) (x y : Int) : lo ≤ dirS n delta c angle A L x y ∧ dirS n delta c angle A L x y ≤ hi := by
  have a1 := dirE_bd hA hc hd
  have a2 := dirE_bd hL hc hd
  unfold dirS
  split
  · exact a1 _
  · split
    · exact a2 _
    · exact slt_bd a1 a2 x y

theorem near_bd {lo hi l a c : Int} (h1 : lo ≤ l ∧ l ≤ hi) (h2 : lo ≤ a ∧ a ≤ hi) (h3 : lo ≤ c ∧ c ≤ hi) : lo ≤ nearV l a c ∧ nearV l a c ≤ hi := by
  unfold nearV
  simp only
  repeat' split
  all_goals first | exact h1 | exact h2 | exact h3

theorem soft_bd {lo hi n dn ac half q : Int} {A L : Int → Int} (hA : Bd lo hi A) (hL : Bd lo hi L) (hm : (dn = 1 ∧ ac = 1 ∧ half = 256 ∧ q = 512) ∨ (dn = 1 ∧ ac = 0 ∧ half = 128 ∧ q = 256) ∨ (dn = 0 ∧ ac = 1 ∧ half = 128 ∧ q = 256)) (hn : 4 ≤ n) {x y : Int} (x0 : 0 ≤ x) (x1 : x < n) (y0 : 0 ≤ y) (y1 : y < n) :
    lo ≤ softS n dn ac half q A L x y ∧ softS n dn ac half q A L x y ≤ hi := by
  have w1 := wgt_bd hn y0 y1
  have w2 := wgt_bd hn x0 x1
  have m1 := mix_bd (s := wgt n y) (t := 256 - wgt n y) (by omega) (by omega) (hA x) (hL (n - 1))
  have m2 := mix_bd (s := wgt n x) (t := 256 - wgt n x) (by omega) (by omega) (hL y) (hA (n - 1))
  rw [show wgt n y + (256 - wgt n y) = 256 by omega] at m1
  rw [show wgt n x + (256 - wgt n x) = 256 by omega] at m2
  unfold softS
  rcases hm with ⟨rfl, rfl, rfl, rfl⟩ | ⟨rfl, rfl, rfl, rfl⟩ | ⟨rfl, rfl, rfl, rfl⟩ <;> omega

theorem predS_bd {lo hi n mode delta : Int} {ha hl : Bool} {a l : List Nat} {c : Int} (hA : Bd lo hi (fA ha hl a l c)) (hL : Bd lo hi (fL ha hl a l c)) (hc : lo ≤ fC ha hl a l c ∧ fC ha hl a l c ≤ hi) (hm : mode = 0 → lo ≤ (meanV a l : Nat) ∧ ((meanV a l : Nat) : Int) ≤ hi)
    (hd : delta = 0 ∨ 8 ≤ n ∨ (lo = hi ∧ 0 ≤ lo ∧ lo ≤ 255)) (hn : 4 ≤ n) {x y : Int} (x0 : 0 ≤ x) (x1 : x < n) (y0 : 0 ≤ y) (y1 : y < n) : lo ≤ predS n mode delta ha hl a l c x y ∧ predS n mode delta ha hl a l c x y ≤ hi := by
  unfold predS
  split
  · exact dirS_bd hA hL hc hd x y
  · split
    · rename_i h; exact hm h
    · split
      · exact near_bd (hL y) (hA x) hc
      · split
        · exact soft_bd hA hL (.inl ⟨rfl, rfl, rfl, rfl⟩) hn x0 x1 y0 y1
        · split
          · exact soft_bd hA hL (.inr (.inr ⟨rfl, rfl, rfl, rfl⟩)) hn x0 x1 y0 y1
          · exact soft_bd hA hL (.inr (.inl ⟨rfl, rfl, rfl, rfl⟩)) hn x0 x1 y0 y1

theorem eOf_bd {lo hi c : Int} {l : List Nat} (h : ∀ i, i < l.length → lo ≤ (l.getD i 0 : Nat) ∧ ((l.getD i 0 : Nat) : Int) ≤ hi) (h0 : 0 < l.length) (hc : lo ≤ c ∧ c ≤ hi) : Bd lo hi (eOf l c) := by
  intro i
  unfold eOf
  split
  · exact hc
  · exact h _ (by omega)

theorem sum_bd {l : List Nat} {lo hi : Nat} (h : ∀ i, i < l.length → lo ≤ l.getD i 0 ∧ l.getD i 0 ≤ hi) : lo * l.length ≤ l.sum ∧ l.sum ≤ hi * l.length := by
  induction l with
  | nil => simp
  | cons x l ih =>
    have h0 := h 0 (by simp)
    have h1 := ih fun i hi => by have := h (i + 1) (by simpa using hi); simpa using this
    simp only [List.length_cons, List.sum_cons, Nat.mul_add, Nat.mul_one] at h1 ⊢
    simp at h0
    omega

theorem mean_bd {a l : List Nat} {lo hi : Nat} (hk : a.length + l.length ≠ 0) (h1 : ∀ i, i < a.length → lo ≤ a.getD i 0 ∧ a.getD i 0 ≤ hi) (h2 : ∀ i, i < l.length → lo ≤ l.getD i 0 ∧ l.getD i 0 ≤ hi) : lo ≤ meanV a l ∧ meanV a l ≤ hi := by
  unfold meanV
  rw [if_neg hk]
  have s1 := sum_bd h1
  have s2 := sum_bd h2
  obtain ⟨k, hkk⟩ : ∃ k, k = a.length + l.length := ⟨_, rfl⟩
  have e1 : lo * k = lo * a.length + lo * l.length := by rw [hkk, Nat.mul_add]
  have e2 : hi * k = hi * a.length + hi * l.length := by rw [hkk, Nat.mul_add]
  rw [← hkk]
  have hk0 : 0 < k := by omega
  constructor
  · rw [Nat.le_div_iff_mul_le hk0]; omega
  · rw [← Nat.lt_succ_iff, Nat.div_lt_iff_lt_mul hk0, Nat.succ_mul]; omega
end Go.Proofs.Ytpjcmgmmolediaa
