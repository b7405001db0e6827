/- What comes of a block's codings, whatever is answered: bounds, and how much is counted. -/
import Derived.Test.YtbajipmhnoakeaaCr
set_option linter.unusedVariables false
set_option linter.unusedSimpArgs false
set_option maxRecDepth 20000
namespace Go.Proofs.Ytbajipmhnoakeaa
open Go Go.Zf

namespace Pr
variable {α β : Type}
/-- Whatever is answered within bounds: what comes of it, and at most so much is counted. -/
def Hr (Q : Option α → Prop) : Pr α → Nat → Prop
  | .done a, _ => Q (some a)
  | .stop, _ => Q none
  | .sym k c _ f, N => ∃ M, N = M + 1 ∧ k < 32 ∧ c < cx k ∧ ∀ x, x < vl k → Hr Q (f x) M
  | .num n _ f, N => ∃ M, N = M + n ∧ ∀ x, x < 2 ^ n → Hr Q (f x) M
theorem Hr.mono {Q R : Option α → Prop} (hq : ∀ o, Q o → R o) : ∀ {p : Pr α} {N N' : Nat}, N ≤ N' → Hr Q p N → Hr R p N'
  | .done a, _, _, _, h => hq _ h
  | .stop, _, _, _, h => hq _ h
  | .sym k c v f, N, N', hn, ⟨M, e, h1, h2, h3⟩ => ⟨M + (N' - N), by omega, h1, h2, fun x hx => Hr.mono hq (by omega) (h3 x hx)⟩
  | .num n v f, N, N', hn, ⟨M, e, h3⟩ => ⟨M + (N' - N), by omega, fun x hx => Hr.mono hq (by omega) (h3 x hx)⟩
theorem Hr.bind {Q : Option β → Prop} {f : α → Pr β} {B : Nat} : ∀ {p : Pr α} {A : Nat}, Hr (fun o => match o with | some a => Hr Q (f a) B | none => Q none) p A → Hr Q (p.bind f) (A + B)
  | .done a, A, h => Hr.mono (fun _ h => h) (Nat.le_add_left B A) h
  | .stop, A, h => h
  | .sym k c v g, A, ⟨M, e, h1, h2, h3⟩ => ⟨M + B, by omega, h1, h2, fun x hx => Hr.bind (h3 x hx)⟩
  | .num n v g, A, ⟨M, e, h3⟩ => ⟨M + B, by omega, fun x hx => Hr.bind (h3 x hx)⟩
/-- What is counted at the least. -/
def least : Pr α → Nat
  | .sym .. => 1
  | _ => 0
theorem exec_Hr {Q : Option α → Prop} : ∀ (p : Pr α) {N m : Nat} {st : St}, Hr Q p N → st.sd.writes = false → SetOk st.S → SideOk m st.sd → m + N < 100000000 →
    Q (p.exec st).1 ∧ st.n + p.least ≤ (p.exec st).2.n ∧ (p.exec st).2.n ≤ st.n + N ∧ (p.exec st).2.sd.writes = false
  | .done a, N, m, st, h, hw, so, sd, hm => ⟨h, by simp [exec, least], by simp [exec]; omega, hw⟩
  | .stop, N, m, st, h, hw, so, sd, hm => ⟨h, by simp [exec, least], by simp [exec]; omega, hw⟩
  | .sym k c v f, N, m, st, ⟨M, e, hk, hc, h⟩, hw, so, sd, hm => by
    obtain ⟨r, _, _, tok, tl⟩ := so.get hk hc
    obtain ⟨v1, v2⟩ := Side.val_may (v := v) (sd := st.sd) tok (by rw [hw]; intro h; cases h)
    have hlt : st.symV k c v < vl k := by rw [tl] at v1; exact v1
    have s1 : SideOk (m + 1) (st.sym k c v).sd := Side.code_ok sd (by omega) v2
    have s2 : SetOk (st.sym k c v).S := by
      show SetOk (if st.ad then _ else st.S)
      split
      · exact so.set hk (adaptP_ok tok _) (by rw [adaptP_len]; exact tl)
      · exact so
    obtain ⟨i1, i2, i3, i4⟩ := exec_Hr (f (st.symV k c v)) (h _ hlt) (by rw [St.sym_wr]; exact hw) s2 s1 (by omega)
    have hn : (st.sym k c v).n = st.n + 1 := rfl
    rw [hn] at i2 i3
    rw [exec_sym]
    exact ⟨i1, by simp [least]; omega, by omega, i4⟩
  | .num n v f, N, m, st, ⟨M, e, h⟩, hw, so, sd, hm => by
    obtain ⟨b1, b2⟩ := bits_ok n v.toNat 0 sd (by omega)
    have hlt : st.numV n v.toNat < 2 ^ n := by simpa [St.numV] using b2
    obtain ⟨i1, i2, i3, i4⟩ := exec_Hr (f (st.numV n v.toNat)) (h _ hlt) (by rw [St.num_wr]; exact hw) (st := st.num n v.toNat) so (m := m + n) b1 (by omega)
    have hn : (st.num n v.toNat).n = st.n + n := rfl
    rw [hn] at i2 i3
    rw [exec_num]
    exact ⟨i1, by simp [least]; omega, by omega, i4⟩
end Pr

structure ROk (B : BD) : Prop where
  size : sizeOk B.size
  n : B.n = sideP B.size
  colour : B.colour ≤ 1
  sign : B.sign ≤ 2
  ord : B.ord = ordN B.n
def Bd (N : Nat) (lv : List Int) : Prop := lv.length = N ∧ ∀ x ∈ lv, -2097165 ≤ x ∧ x ≤ 2097165
theorem Bd.set {N : Nat} {lv : List Int} (a : Bd N lv) (i : Nat) {v : Int} (hv : -2097165 ≤ v ∧ v ≤ 2097165) : Bd N (lv.set i v) :=
  ⟨by rw [List.length_set]; exact a.1, fun x hx => by
    rcases List.mem_or_eq_of_mem_set hx with e | e
    · exact a.2 x e
    · rw [e]; exact hv⟩
theorem Bd.at {N : Nat} {lv : List Int} (a : Bd N lv) (i : Nat) : -2097165 ≤ lv.getD i 0 ∧ lv.getD i 0 ≤ 2097165 := by
  by_cases hi : i < lv.length
  · have : lv.getD i 0 = lv[i] := by simp [List.getD, hi]
    rw [this]; exact a.2 _ (List.getElem_mem hi)
  · have : lv.getD i 0 = 0 := by simp [List.getD, List.getElem?_eq_none (by omega : lv.length ≤ i)]
    rw [this]; omega

open Pr (Hr)
theorem endP_Hr {B : BD} (b : ROk B) : Hr (fun o => ∃ en, o = some en ∧ en ≤ B.n * B.n) (endP B) 11 := by
  obtain ⟨K, f1, f2, f3, f4, f5, f6⟩ := size_facts b.size
  rw [← b.n] at f1
  have hp : 0 < 2 ^ K := Nat.two_pow_pos K
  have hc := b.colour
  unfold endP
  refine ⟨10, rfl, by decide, ?_, fun z hz => ?_⟩
  · show _ < 4; split <;> omega
  dsimp only
  split
  · exact ⟨0, rfl, by omega⟩
  · refine ⟨9, rfl, f5, by rw [f6]; omega, fun c hc => ?_⟩
    rw [f4] at hc
    dsimp only
    split
    · exact ⟨1, rfl, by omega⟩
    · refine ⟨9 - (c - 1), by omega, fun x hx => ⟨_, rfl, ?_⟩⟩
      have h1 : 2 ^ c ≤ 2 ^ K := Nat.pow_le_pow_right (by omega) (by omega)
      have h2 : 2 ^ c = 2 ^ (c - 1) * 2 := by rw [← Nat.pow_succ]; congr 1; omega
      omega
theorem saidP_Hr {B : BD} (b : ROk B) (en i : Nat) (lv : List Int) : Hr (fun o => ∃ s, o = some s ∧ s ≤ 3) (saidP B en i lv) 1 := by
  have hc := b.colour
  have mb := (baseP_b lv B.n (B.ord.getD i 0)).1
  unfold saidP
  split
  · exact ⟨0, rfl, by decide, by show _ < 2; omega, fun x hx => ⟨_, rfl, by have : x < 3 := hx; omega⟩⟩
  · exact ⟨0, rfl, by decide, by show _ < 10; omega, fun x hx => ⟨_, rfl, by have : x < 4 := hx; omega⟩⟩
theorem lenP_Hr (wr : Bool) (X : Nat) : ∀ f k, f + k = 21 → Hr (fun o => o = none ∨ ∃ v, o = some v ∧ v ≤ 2097150) (lenP wr X f k) (f + 20)
  | 0, k, _ => .inl rfl
  | f + 1, k, h => by
    unfold lenP
    refine ⟨f + 20, by omega, fun b _ => ?_⟩
    dsimp only
    split
    · exact lenP_Hr wr X f (k + 1) (by omega)
    · refine ⟨f + 20 - k, by omega, fun v hv => .inr ⟨_, rfl, ?_⟩⟩
      have : 2 ^ k ≤ 2 ^ 20 := Nat.pow_le_pow_right (by omega) (by omega)
      omega
theorem amoP_Hr {B : BD} (b : ROk B) (a : Int) {more : Nat} (hm : more ≤ 6) : ∀ j sum, sum + 3 * j ≤ 15 → Hr (fun o => o = none ∨ ∃ v, o = some v ∧ v ≤ 2097165) (amoP B a more j sum) (j + 41)
  | 0, sum, h => by
    unfold amoP
    have := Hr.bind (B := 0) (f := fun v => Pr.done (sum + v)) (Q := fun o => o = none ∨ ∃ v, o = some v ∧ v ≤ 2097165) (Hr.mono (fun o ho => ?_) (Nat.le_refl _) (lenP_Hr B.wr ((imax (a - sum) 0).toNat + 1) 21 0 rfl))
    · exact this
    · rcases ho with rfl | ⟨v, rfl, hv⟩
      · exact .inl rfl
      · exact .inr ⟨_, rfl, by omega⟩
  | j + 1, sum, h => by
    have hc := b.colour
    unfold amoP
    refine ⟨j + 41, by omega, by decide, by show _ < 14; omega, fun s hs => ?_⟩
    have hs : s < 4 := hs
    dsimp only
    split
    · exact .inr ⟨_, rfl, by omega⟩
    · exact amoP_Hr b a hm j (sum + s) (by omega)
theorem amountP_Hr {B : BD} (b : ROk B) (lv : List Int) (at_ : Nat) {said : Nat} (hs : said ≤ 3) : Hr (fun o => o = none ∨ ∃ v, o = some v ∧ v ≤ 2097165) (amountP B lv at_ said) 45 := by
  unfold amountP
  split
  · exact .inr ⟨_, rfl, by omega⟩
  · exact Hr.mono (fun _ h => h) (by omega) (amoP_Hr b _ (moreP_b lv B.n at_).1 4 said (by omega))
def BdO (N : Nat) (o : Option (List Int)) : Prop := o = none ∨ ∃ lv, o = some lv ∧ Bd N lv
theorem amsP_Hr {B : BD} (b : ROk B) (en : Nat) {N : Nat} : ∀ i lv, Bd N lv → Hr (BdO N) (amsP B en i lv) (46 * i)
  | 0, lv, h => .inr ⟨lv, rfl, h⟩
  | i + 1, lv, h => by
    unfold amsP
    rw [show 46 * (i + 1) = 1 + (45 + 46 * i) by omega]
    refine Hr.bind (Hr.mono (fun o ho => ?_) (Nat.le_refl _) (saidP_Hr b en i lv))
    obtain ⟨s, rfl, hs⟩ := ho
    refine Hr.bind (Hr.mono (fun o ho => ?_) (Nat.le_refl _) (amountP_Hr b lv (B.ord.getD i 0) hs))
    rcases ho with rfl | ⟨v, rfl, hv⟩
    · exact .inl rfl
    · exact amsP_Hr b en i _ (h.set _ (by omega))
theorem sgsP_Hr {B : BD} (b : ROk B) {N : Nat} : ∀ r lv, Bd N lv → Hr (BdO N) (sgsP B r lv) r.length
  | [], lv, h => .inr ⟨lv, rfl, h⟩
  | p :: r, lv, h => by
    have hc := b.colour
    have hg := b.sign
    have hb := h.at p
    unfold sgsP
    split
    · exact Hr.mono (fun _ h => h) (by simp) (sgsP_Hr b r lv h)
    · rw [List.length_cons, Nat.add_comm]
      refine Hr.bind ?_
      have nxt : ∀ b' : Nat, Hr (BdO N) (sgsP B r (if b' = 1 then lv.set p (-lv.getD p 0) else lv)) r.length := fun b' => by
        split
        · exact sgsP_Hr b r _ (h.set _ (by omega))
        · exact sgsP_Hr b r _ h
      unfold belowP
      split
      · exact ⟨0, rfl, by decide, by show _ < 6; omega, fun x _ => nxt x⟩
      · exact ⟨0, rfl, fun x _ => nxt x⟩
theorem codeP_Hr {B : BD} (b : ROk B) : Hr (BdO (B.n * B.n)) (codeP B) (11 + 47 * (B.n * B.n)) ∧ (codeP B).least = 1 := by
  refine ⟨?_, rfl⟩
  unfold codeP
  refine Hr.bind (Hr.mono (fun o ho => ?_) (Nat.le_refl _) (endP_Hr b))
  obtain ⟨en, rfl, hen⟩ := ho
  have h0 : Bd (B.n * B.n) (List.replicate (B.n * B.n) 0) := ⟨by simp, fun x hx => by rw [(List.mem_replicate.1 hx).2]; omega⟩
  refine Hr.mono (fun _ h => h) (by omega : 46 * en + en ≤ _) ?_
  refine Hr.bind (Hr.mono (fun o ho => ?_) (Nat.le_refl _) (amsP_Hr b en en _ h0))
  rcases ho with rfl | ⟨lv, rfl, hl⟩
  · exact .inl rfl
  · exact Hr.mono (fun _ h => h) (by rw [List.length_take]; omega) (sgsP_Hr b _ lv hl)
end Go.Proofs.Ytbajipmhnoakeaa
