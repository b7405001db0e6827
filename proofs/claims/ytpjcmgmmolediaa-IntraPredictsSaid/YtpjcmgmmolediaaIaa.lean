/- The plain law: both predictions are the same. -/
import Derived.Test.YtpjcmgmmolediaaIy
set_option linter.unusedVariables false
set_option linter.unusedSimpArgs false
namespace Go.Proofs.Ytpjcmgmmolediaa
open Go Go.Zf Go.RowKit

theorem sl_same : ∀ (m : Fin 8) (d : Fin 7), (fun (an : Int) => (an < 90 → sl an = slR an) ∧ (180 < an → sl (270 - an) = slR (270 - an)) ∧ (90 < an → an < 180 → sl (180 - an) = slR (180 - an) ∧ sl (an - 90) = slR (an - 90)) ∧ (an = 90 → d.val = 3) ∧ (an = 180 → d.val = 3)) (angleOf ((m : Nat) + 1 : Int) ((d : Nat) - 3 : Int)).1 := by decide +kernel

theorem vis_same : ∀ (m : Fin 8) (d : Fin 7) (x y : Fin 4), (fun (an : Int) => 90 < an → an < 180 → (-2 ≤ (64 * ((x : Nat) : Int) - (((y : Nat) : Int) + 1) * slR (180 - an)) / 32) ∨ -2 ≤ (64 * ((y : Nat) : Int) - (((x : Nat) : Int) + 1) * slR (an - 90)) / 32) (angleOf ((m : Nat) + 1 : Int) ((d : Nat) - 3 : Int)).1 := by decide +kernel

theorem getD_tab (f : Nat → Int) (m i : Nat) (h : i < m) : (tab f m).getD i 0 = f i := tab_get f m i h

theorem fA_at {ha hl : Bool} {a l : List Nat} {c : Int} {nn : Nat} (la : a.length = if ha then nn else 0) (ll : l.length = if hl then nn else 0) (i : Nat) (hi : i < nn) : fA ha hl a l c i = faF ha hl a l i := by
  unfold fA faF eOf
  cases ha with
  | true =>
    simp only [if_true] at la ⊢
    rw [if_neg (by omega), show (min (i : Int) ((a.length : Int) - 1)).toNat = i by omega]
  | false =>
    cases hl with
    | true =>
      simp only [if_true, Bool.false_eq_true, if_false] at ll ⊢
      rw [if_neg (by omega), show (min (i : Int) (([l.getD 0 0].length : Int) - 1)).toNat = 0 by simp; omega]; rfl
    | false =>
      simp only [Bool.false_eq_true, if_false]
      rw [if_neg (by omega), show (min (i : Int) (([127].length : Int) - 1)).toNat = 0 by simp; omega]; rfl
theorem fL_at {ha hl : Bool} {a l : List Nat} {c : Int} {nn : Nat} (la : a.length = if ha then nn else 0) (ll : l.length = if hl then nn else 0) (i : Nat) (hi : i < nn) : fL ha hl a l c i = flF ha hl a l i := by
  unfold fL flF eOf
  cases hl with
  | true =>
    simp only [if_true] at ll ⊢
    rw [if_neg (by omega), show (min (i : Int) ((l.length : Int) - 1)).toNat = i by omega]
  | false =>
    cases ha with
    | true =>
      simp only [if_true, Bool.false_eq_true, if_false] at la ⊢
      rw [if_neg (by omega), show (min (i : Int) (([a.getD 0 0].length : Int) - 1)).toNat = 0 by simp; omega]; rfl
    | false =>
      simp only [Bool.false_eq_true, if_false]
      rw [if_neg (by omega), show (min (i : Int) (([129].length : Int) - 1)).toNat = 0 by simp; omega]; rfl
theorem fA_neg {ha hl : Bool} {a l : List Nat} {c : Int} {i : Int} (hi : i < 0) : fA ha hl a l c i = fC ha hl a l c := by
  unfold fA eOf; cases ha <;> cases hl <;> simp [hi, fC]
theorem fL_neg {ha hl : Bool} {a l : List Nat} {c : Int} {i : Int} (hi : i < 0) : fL ha hl a l c i = fC ha hl a l c := by
  unfold fL eOf; cases ha <;> cases hl <;> simp [hi, fC]
theorem fA_far {ha hl : Bool} {a l : List Nat} {c : Int} {nn : Nat} (la : a.length = if ha then nn else 0) (ll : l.length = if hl then nn else 0) (n4 : 4 ≤ nn) {i : Int} (hi : (nn : Int) - 1 ≤ i) : fA ha hl a l c i = fA ha hl a l c ((nn : Int) - 1) := by
  unfold fA eOf
  cases ha with
  | true =>
    simp only [if_true] at la ⊢
    rw [if_neg (by omega), if_neg (by omega)]; congr 2; omega
  | false =>
    cases hl with
    | true =>
      simp only [if_true, Bool.false_eq_true, if_false] at ll ⊢
      rw [if_neg (by omega), if_neg (by omega)]; congr 2; simp; omega
    | false =>
      simp only [Bool.false_eq_true, if_false]
      rw [if_neg (by omega), if_neg (by omega)]; congr 2; simp; omega
theorem fL_far {ha hl : Bool} {a l : List Nat} {c : Int} {nn : Nat} (la : a.length = if ha then nn else 0) (ll : l.length = if hl then nn else 0) (n4 : 4 ≤ nn) {i : Int} (hi : (nn : Int) - 1 ≤ i) : fL ha hl a l c i = fL ha hl a l c ((nn : Int) - 1) := by
  unfold fL eOf
  cases hl with
  | true =>
    simp only [if_true] at ll ⊢
    rw [if_neg (by omega), if_neg (by omega)]; congr 2; omega
  | false =>
    cases ha with
    | true =>
      simp only [if_true, Bool.false_eq_true, if_false] at la ⊢
      rw [if_neg (by omega), if_neg (by omega)]; congr 2; simp; omega
    | false =>
      simp only [Bool.false_eq_true, if_false]
      rw [if_neg (by omega), if_neg (by omega)]; congr 2; simp; omega
/-- The long edge is the edge. -/
theorem rd_lng {e : Int → Int} {f : Nat → Int} {nn : Nat} {C : Int} (n4 : 4 ≤ nn) (h1 : ∀ i : Nat, i < nn → e i = f i) (h2 : ∀ i : Int, i < 0 → e i = C) (h3 : ∀ i : Int, (nn : Int) - 1 ≤ i → e i = e ((nn : Int) - 1)) (i : Int) : rdI (lngL (tab f nn) C) i = e i := by
  have hlen := lng_length (tab f nn) C
  rw [tab_length] at hlen
  unfold rdI
  rw [hlen]
  by_cases h0 : i < 0
  · rw [h2 i h0]
    have : (clipI (i + 4) 0 (((2 * nn + 8 : Nat) : Int) - 1)).toNat < 4 := by
      unfold clipI; repeat' split
      all_goals omega
    obtain ⟨k, hk⟩ : ∃ k, k = (clipI (i + 4) 0 (((2 * nn + 8 : Nat) : Int) - 1)).toNat := ⟨_, rfl⟩
    rw [← hk] at this ⊢
    unfold lngL
    match k, this with
    | 0, _ => rfl
    | 1, _ => rfl
    | 2, _ => rfl
    | 3, _ => rfl
  · have : (clipI (i + 4) 0 (((2 * nn + 8 : Nat) : Int) - 1)).toNat = 4 + min i.toNat (2 * nn + 3) := by
      unfold clipI; repeat' split
      all_goals omega
    rw [this]
    unfold lngL
    have e4 : ([C, C, C, C] ++ tab (lngF (tab f nn)) (2 * (tab f nn).length + 4)).getD (4 + min i.toNat (2 * nn + 3)) 0 = (tab (lngF (tab f nn)) (2 * (tab f nn).length + 4)).getD (min i.toNat (2 * nn + 3)) 0 := by
      simp only [List.getD_eq_getElem?_getD]
      rw [List.getElem?_append_right (by simp), show [C, C, C, C].length = 4 from rfl, Nat.add_sub_cancel_left]
    rw [e4, tab_get _ _ _ (by rw [tab_length]; omega)]
    unfold lngF
    rw [tab_length, tab_get _ _ _ (by omega)]
    by_cases h : i < (nn : Int) - 1
    · rw [← h1 _ (by omega)]; congr 1; omega
    · rw [h3 i (by omega), ← h1 _ (by omega)]; congr 1; omega

theorem rd_sm {e : Int → Int} {L : List Int} {nn : Nat} {C : Int} (n4 : 4 ≤ nn) (hL : 4 ≤ L.length) (hr : ∀ i, rdI L i = e i) (h2 : ∀ i : Int, i < 0 → e i = C) (i : Int) : rdI (smL L nn) i = eSm (2 * nn - 1) C e (cl (2 * nn - 1) i) := by
  have hlen := sm_length (n := nn) hL
  unfold rdI
  rw [hlen]
  by_cases h0 : i < 0
  · have hcl : cl (2 * nn - 1) i < 0 := by unfold cl; omega
    unfold eSm
    rw [if_pos hcl]
    have : (clipI (i + 4) 0 (((2 * nn + 8 : Nat) : Int) - 1)).toNat < 4 := by
      unfold clipI; repeat' split
      all_goals omega
    obtain ⟨k, hk⟩ : ∃ k, k = (clipI (i + 4) 0 (((2 * nn + 8 : Nat) : Int) - 1)).toNat := ⟨_, rfl⟩
    rw [← hk] at this ⊢
    have hx := hr ((k : Int) - 4)
    rw [h2 _ (by omega)] at hx
    unfold rdI at hx
    have hck : (clipI ((k : Int) - 4 + 4) 0 ((L.length : Int) - 1)).toNat = k := by
      unfold clipI; repeat' split
      all_goals omega
    rw [hck] at hx
    unfold smL
    have : (L.take 4 ++ tab (smF L nn) (2 * nn + 4)).getD k 0 = L.getD k 0 := by
      simp [List.getElem?_append_left (show k < (L.take 4).length by rw [List.length_take]; omega), List.getElem?_take, this]
    rw [this, hx]
  · have hcl : cl (2 * nn - 1) i = min i (2 * nn - 1) := by unfold cl; omega
    rw [hcl]
    unfold eSm
    rw [if_neg (by omega)]
    have : (clipI (i + 4) 0 (((2 * nn + 8 : Nat) : Int) - 1)).toNat = 4 + min i.toNat (2 * nn + 3) := by
      unfold clipI; repeat' split
      all_goals omega
    rw [this]
    unfold smL
    have e4 : (L.take 4 ++ tab (smF L nn) (2 * nn + 4)).getD (4 + min i.toNat (2 * nn + 3)) 0 = (tab (smF L nn) (2 * nn + 4)).getD (min i.toNat (2 * nn + 3)) 0 := by
      have hl4 : (L.take 4).length = 4 := by rw [List.length_take]; omega
      simp only [List.getD_eq_getElem?_getD]
      rw [List.getElem?_append_right (by omega), hl4, Nat.add_sub_cancel_left]
    rw [e4, tab_get _ _ _ (by omega)]
    unfold smF
    rw [show min ((min i.toNat (2 * nn + 3) : Nat) : Int) (2 * (nn : Int) - 1) = min i (2 * nn - 1) by omega, hr, hr, hr]

theorem rd_db {e : Int → Int} {L : List Int} {nn : Nat} {C : Int} (n4 : 4 ≤ nn) (hr : ∀ i, rdI L i = e i) (hb : ∀ i, 0 ≤ e i ∧ e i ≤ 255) (h3 : ∀ i : Int, (nn : Int) - 1 ≤ i → e i = e ((nn : Int) - 1)) (i : Int) (hi : -2 ≤ i) : rdI (dbL L nn) i = eDb e (cl (4 * nn) i) := by
  unfold rdI
  rw [db_length]
  have : (clipI (i + 4) 0 (((4 * nn + 12 : Nat) : Int) - 1)).toNat = min (i + 4).toNat (4 * nn + 11) := by
    unfold clipI; repeat' split
    all_goals omega
  rw [this]
  unfold dbL
  rw [tab_get _ _ _ (by omega)]
  unfold dbF
  have hdb : ∀ j : Int, dbV L j = eDb e j := by
    intro j
    unfold dbV eDb
    by_cases hp : j % 2 = 0
    · rw [if_pos hp, if_pos hp, hr]
    · rw [if_neg hp, if_neg hp, hr, hr, hr, hr]
      unfold clipI
      rw [show -e (j / 2 - 1) + 9 * e (j / 2) + 9 * e (j / 2 + 1) - e (j / 2 + 2) + 8 = 9 * (e (j / 2) + e (j / 2 + 1)) - e (j / 2 - 1) - e (j / 2 + 2) + 8 by omega]
      repeat' split
      all_goals omega
  rw [hdb]
  by_cases h : i ≤ 4 * nn
  · rw [show ((min (i + 4).toNat (4 * nn + 11) : Nat) : Int) - 4 = i by omega, show cl (4 * nn) i = i by unfold cl; omega]
  · rw [show cl (4 * nn) i = 4 * nn by unfold cl; omega]
    have hbig : ∀ j : Int, 4 * (nn : Int) ≤ j → eDb e j = e ((nn : Int) - 1) := by
      intro j hj
      have hv := hb ((nn : Int) - 1)
      unfold eDb
      split
      · exact h3 _ (by omega)
      · rw [h3 (j / 2) (by omega), h3 (j / 2 + 1) (by omega), h3 (j / 2 - 1) (by omega), h3 (j / 2 + 2) (by omega)]
        omega
    rw [hbig _ (by omega), hbig _ (by omega)]

theorem btw_congr {n far frm : Int} {e e' : Int → Int} (h : ∀ i, -2 ≤ i → e i = e' i) (hn : 4 ≤ n) (hf : -2 ≤ far / 32 + frm * 2) : btw n 1 e far frm = btw n 1 e' far frm := by
  unfold btw bt
  simp only [Nat.one_ne_zero, if_false]
  rw [h _ (by omega), h _ hf, h _ (by omega)]

theorem pix_same {nn : Nat} {mode delta : Int} {ha hl : Bool} {a l : List Nat} {c : Int} (la : a.length = if ha then nn else 0) (ll : l.length = if hl then nn else 0) (hz : Sz nn = true) (hbad : Bad mode delta = false)
    (hA : ∀ i, 0 ≤ fA ha hl a l c i ∧ fA ha hl a l c i ≤ 255) (hL : ∀ i, 0 ≤ fL ha hl a l c i ∧ fL ha hl a l c i ≤ 255) {x y : Int} (x0 : 0 ≤ x) (x1 : x < nn) (y0 : 0 ≤ y) (y1 : y < nn) :
    predS nn mode delta ha hl a l c x y = predR nn mode delta ha hl a l c x y := by
  obtain ⟨n4, n64, n0⟩ := sz_even hz
  have a1 := fA_at (c := c) la ll
  have l1 := fL_at (c := c) la ll
  have aN : ∀ i : Int, i < 0 → fA ha hl a l c i = fC ha hl a l c := fun i h => fA_neg h
  have lN : ∀ i : Int, i < 0 → fL ha hl a l c i = fC ha hl a l c := fun i h => fL_neg h
  have aF : ∀ i : Int, (nn : Int) - 1 ≤ i → fA ha hl a l c i = fA ha hl a l c ((nn : Int) - 1) := fun i h => fA_far la ll (by omega) h
  have lF : ∀ i : Int, (nn : Int) - 1 ≤ i → fL ha hl a l c i = fL ha hl a l c ((nn : Int) - 1) := fun i h => fL_far la ll (by omega) h
  have atA : ∀ i : Int, 0 ≤ i → i < nn → atL (tab (faF ha hl a l) nn) i = fA ha hl a l c i := fun i h0 h1 => by
    unfold atL; rw [tab_get _ _ _ (by omega), ← a1 _ (by omega)]; congr 1; omega
  have atL' : ∀ i : Int, 0 ≤ i → i < nn → atL (tab (flF ha hl a l) nn) i = fL ha hl a l c i := fun i h0 h1 => by
    unfold atL; rw [tab_get _ _ _ (by omega), ← l1 _ (by omega)]; congr 1; omega
  unfold predS predR pixR
  obtain ⟨C, hC⟩ : ∃ C, C = fC ha hl a l c := ⟨_, rfl⟩
  obtain ⟨A, hAd⟩ : ∃ A, A = fA ha hl a l c := ⟨_, rfl⟩
  obtain ⟨L, hLd⟩ : ∃ L, L = fL ha hl a l c := ⟨_, rfl⟩
  rw [← hC] at aN lN
  rw [← hAd] at a1 aN aF atA hA
  rw [← hLd] at l1 lN lF atL' hL
  rw [← hC, ← hAd, ← hLd]
  obtain ⟨fa, hfa⟩ : ∃ f, f = tab (faF ha hl a l) nn := ⟨_, rfl⟩
  obtain ⟨fl, hfl⟩ : ∃ f, f = tab (flF ha hl a l) nn := ⟨_, rfl⟩
  have rA : ∀ i, rdI (lngL fa C) i = A i := by rw [hfa]; exact rd_lng (by omega) a1 aN aF
  have rL : ∀ i, rdI (lngL fl C) i = L i := by rw [hfl]; exact rd_lng (by omega) l1 lN lF
  have lenA : 4 ≤ (lngL fa C).length := by rw [lng_length]; omega
  have lenL : 4 ≤ (lngL fl C).length := by rw [lng_length]; omega
  rw [← hfa] at atA
  rw [← hfl] at atL'
  rw [← hfa, ← hfl]
  have soft : ∀ dn ac half q, softS nn dn ac half q A L x y = softS nn dn ac half q (atL fa) (atL fl) x y := fun dn ac half q => by
    unfold softS
    rw [atA x x0 x1, atL' y y0 y1, atA ((nn : Int) - 1) (by omega) (by omega), atL' ((nn : Int) - 1) (by omega) (by omega)]
  cases hs : (angleOf mode delta).2 with
  | false =>
    have hmode : mode = 0 ∨ mode = 9 ∨ mode = 10 ∨ mode = 11 ∨ mode = 12 := by
      unfold Bad at hbad
      rw [hs] at hbad
      simp at hbad
      omega
    simp only [Bool.false_eq_true, false_and, if_false]
    rcases hmode with rfl | rfl | rfl | rfl | rfl
    · simp
    · simp; exact soft _ _ _ _
    · simp; exact soft _ _ _ _
    · simp; exact soft _ _ _ _
    · simp; rw [atA x x0 x1, atL' y y0 y1]
  | true =>
    have hab := angle_bd mode delta hs
    have hss := sl_same ⟨(mode - 1).toNat, by omega⟩ ⟨(delta + 3).toNat, by omega⟩
    have hvs := vis_same ⟨(mode - 1).toNat, by omega⟩ ⟨(delta + 3).toNat, by omega⟩
    simp only at hss hvs
    rw [show (((mode - 1).toNat : Nat) : Int) + 1 = mode by omega, show (((delta + 3).toNat : Nat) : Int) - 3 = delta by omega] at hss hvs
    obtain ⟨an, han⟩ : ∃ an, an = (angleOf mode delta).1 := ⟨_, rfl⟩
    rw [← han] at hss hvs hab
    rw [← han]
    obtain ⟨s1, s2, s3, s4, s5⟩ := hss
    simp only [if_true, true_and]
    rw [if_neg (by omega), if_neg (by omega)]
    unfold dirS
    have hdE0 : delta = 0 → ∀ e, dirE nn delta C e = e := fun h e => by unfold dirE; simp [h]
    by_cases c90 : an = 90
    · rw [if_pos c90, if_pos c90, hdE0 (by have := s4 c90; omega), atA x x0 x1]
    · by_cases c180 : an = 180
      · rw [if_neg c90, if_neg c90, if_pos c180, if_pos c180, hdE0 (by have := s5 c180; omega), atL' y y0 y1]
      · rw [if_neg c90, if_neg c90, if_neg c180, if_neg c180]
        -- slopes
        have hsl : ∀ u (E1 E2 : Int → Int), slt nn u an E1 E2 x y = sltR nn u an E1 E2 x y := by
          intro u E1 E2
          unfold slt sltR
          by_cases q1 : an < 90
          · rw [if_pos q1, if_pos q1, s1 q1]
          · by_cases q2 : 180 < an
            · rw [if_neg q1, if_neg q1, if_pos q2, if_pos q2, s2 q2]
            · rw [if_neg q1, if_neg q1, if_neg q2, if_neg q2, (s3 (by omega) (by omega)).1, (s3 (by omega) (by omega)).2]
        rw [hsl]
        by_cases hd : delta = 0
        · have h8 : S8 nn mode delta = false := by unfold S8; simp [hd]
          have h4 : S4 nn mode delta = false := by unfold S4; simp [hd]
          have e1 : edL nn mode delta fa C = lngL fa C := by unfold edL; rw [h8, h4]; rfl
          have e2 : edL nn mode delta fl C = lngL fl C := by unfold edL; rw [h8, h4]; rfl
          have e3 : edU nn mode delta = 0 := by unfold edU; rw [h4]; rfl
          have e4 : dirU nn delta = 0 := by unfold dirU; simp [hd]
          rw [e1, e2, e3, e4, hdE0 hd, hdE0 hd, funext rA, funext rL]
        · by_cases h8 : 8 ≤ nn
          · have h8' : S8 nn mode delta = true := by unfold S8; rw [hs]; simp [hd, h8]
            have h4 : S4 nn mode delta = false := by unfold S4; simp; omega
            have e1 : edL nn mode delta fa C = smL (lngL fa C) nn := by unfold edL; rw [h8']; rfl
            have e2 : edL nn mode delta fl C = smL (lngL fl C) nn := by unfold edL; rw [h8']; rfl
            have e3 : edU nn mode delta = 0 := by unfold edU; rw [h4]; rfl
            have e4 : dirU nn delta = 0 := by unfold dirU; rw [if_neg]; omega
            have e5 : ∀ e, dirE nn delta C e = fun i => eSm (2 * nn - 1) C e (cl (2 * nn - 1) i) := fun e => by unfold dirE; rw [if_pos ⟨hd, by omega⟩]
            rw [e1, e2, e3, e4, e5, e5, funext (rd_sm (by omega) lenA rA aN), funext (rd_sm (by omega) lenL rL lN)]
          · have hn4 : nn = 4 := by
              have := hz; simp [Sz] at this; omega
            have h8' : S8 nn mode delta = false := by unfold S8; simp; omega
            have h4 : S4 nn mode delta = true := by unfold S4; rw [hs]; simp [hd, hn4]
            have e1 : edL nn mode delta fa C = dbL (lngL fa C) nn := by unfold edL; rw [h8', h4]; rfl
            have e2 : edL nn mode delta fl C = dbL (lngL fl C) nn := by unfold edL; rw [h8', h4]; rfl
            have e3 : edU nn mode delta = 1 := by unfold edU; rw [h4]; rfl
            have e4 : dirU nn delta = 1 := by unfold dirU; rw [if_pos]; exact ⟨hd, by omega⟩
            have e5 : ∀ e, dirE nn delta C e = fun i => eDb e (cl (4 * nn) i) := fun e => by unfold dirE; rw [if_neg (by omega), if_pos hd]
            rw [e1, e2, e3, e4, e5, e5]
            have dA := rd_db (C := C) (by omega) rA hA aF
            have dL := rd_db (C := C) (by omega) rL hL lF
            have bA := slR_bd an
            have bA2 := slR_bd (270 - an)
            have m1 := mul_bd (a := y + 1) (A := 64) (by omega) (by omega) bA.1 bA.2
            have m2 := mul_bd (a := x + 1) (A := 64) (by omega) (by omega) bA2.1 bA2.2
            unfold sltR
            by_cases q1 : an < 90
            · rw [if_pos q1, if_pos q1]
              exact (btw_congr dA n4 (by omega)).symm
            · by_cases q2 : 180 < an
              · rw [if_neg q1, if_neg q1, if_pos q2, if_pos q2]
                exact (btw_congr dL n4 (by omega)).symm
              · rw [if_neg q1, if_neg q1, if_neg q2, if_neg q2]
                have hv := hvs ⟨x.toNat, by omega⟩ ⟨y.toNat, by omega⟩ (by omega) (by omega)
                simp only at hv
                rw [show ((x.toNat : Nat) : Int) = x by omega, show ((y.toNat : Nat) : Int) = y by omega] at hv
                unfold vis
                simp only [Nat.one_ne_zero, if_false]
                by_cases q3 : -2 ≤ (64 * x - (y + 1) * slR (180 - an)) / 32
                · rw [if_pos (by simpa using q3), if_pos (by simpa using q3)]
                  exact (btw_congr dA n4 (by omega)).symm
                · rw [if_neg (by simpa using q3), if_neg (by simpa using q3)]
                  exact (btw_congr dL n4 (by omega)).symm
end Go.Proofs.Ytpjcmgmmolediaa
