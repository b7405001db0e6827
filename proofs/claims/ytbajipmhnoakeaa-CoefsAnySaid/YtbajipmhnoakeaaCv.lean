/- The plain law: what a block's codings echo. -/
import Derived.Test.YtbajipmhnoakeaaCt
set_option linter.unusedVariables false
set_option linter.unusedSimpArgs false
set_option maxRecDepth 20000
namespace Go.Proofs.Ytbajipmhnoakeaa
open Go Go.Zf

def Op.cost : Op → Nat
  | .num n _ => n
  | .sym _ _ _ => 1
def costL (l : List Op) : Nat := (l.map Op.cost).sum
theorem costL_append (a b : List Op) : costL (a ++ b) = costL a + costL b := by simp [costL]
theorem run_n : ∀ (l : List Op) (st : St), (st.run l).n = st.n + costL l
  | [], st => by simp [St.run, costL]
  | o :: l, st => by
    have := run_n l (st.step o)
    have h1 : (st.step o).n = st.n + o.cost := by cases o <;> rfl
    have h2 : costL (o :: l) = o.cost + costL l := by simp [costL]
    show ((st.step o).run l).n = _
    rw [this, h1, h2]; omega

structure BOk (B : BD) : Prop where
  size : sizeOk B.size
  n : B.n = sideP B.size
  colour : B.colour ≤ 1
  sign : B.sign ≤ 2
  ord : B.ord = ordN B.n
  srcl : B.src.length = B.n * B.n
  srcb : ∀ x ∈ B.src, -1048576 ≤ x ∧ x ≤ 1048576
  wr : B.wr = true
theorem BOk.oo {B : BD} (a : BOk B) : OrdOk B.n := by rw [a.n]; exact ord_ok a.size
theorem BOk.src {B : BD} (a : BOk B) (i : Nat) : -1048576 ≤ B.src.getD i 0 ∧ B.src.getD i 0 ≤ 1048576 := by
  by_cases hi : i < B.src.length
  · have : B.src.getD i 0 = B.src[i] := by simp [List.getD, hi]
    rw [this]; exact a.srcb _ (List.getElem_mem hi)
  · have : B.src.getD i 0 = 0 := by simp [List.getD, List.getElem?_eq_none (by omega : B.src.length ≤ i)]
    rw [this]; omega

theorem lenP_ech {X : Nat} (hX : X ≠ 0) (hb : Nat.log2 X ≤ 20) : ∀ (d f k : Nat), k + d = Nat.log2 X → d < f →
    ∃ ops, (lenP true X f k).ech = (some (X - 1), ops) ∧ (∀ o ∈ ops, o.ok) ∧ costL ops = d + 1 + Nat.log2 X := by
  have lb := log2_b hX
  intro d
  induction d with
  | zero =>
    intro f k hk hf
    obtain ⟨f, rfl⟩ : ∃ g, f = g + 1 := ⟨f - 1, by omega⟩
    have hk' : k = Nat.log2 X := by omega
    rw [← hk'] at lb hb ⊢
    have pc := two_pow_cast k
    have e1 : ((X : Int) - 2 ^ k).toNat = X - 2 ^ k := by omega
    refine ⟨[.num 1 1, .num k (X - 2 ^ k)], ?_, ?_, ?_⟩
    · unfold lenP
      simp only [Pr.ech]
      rw [← hk']
      simp only [if_true, Int.toNat_one, show ¬ (1 : Nat) = 0 by decide, if_false, Pr.ech, e1]
      rw [show 2 ^ k + (X - 2 ^ k) - 1 = X - 1 by omega]
    · intro o ho
      simp only [List.mem_cons, List.not_mem_nil, or_false] at ho
      rcases ho with rfl | rfl
      · exact ⟨by decide, by decide⟩
      · exact ⟨by omega, by have := Nat.pow_succ 2 k; omega⟩
    · simp [costL, Op.cost]
  | succ d ih =>
    intro f k hk hf
    obtain ⟨f, rfl⟩ : ∃ g, f = g + 1 := ⟨f - 1, by omega⟩
    obtain ⟨ops, h1, h2, h3⟩ := ih f (k + 1) (by omega) (by omega)
    refine ⟨.num 1 0 :: ops, ?_, ?_, ?_⟩
    · unfold lenP
      simp only [Pr.ech]
      rw [if_neg (show ¬ k = Nat.log2 X by omega)]
      simp only [Int.toNat_zero, if_true]
      rw [h1]
    · intro o ho
      rcases List.mem_cons.1 ho with rfl | ho
      · exact ⟨by decide, by decide⟩
      · exact h2 o ho
    · have : costL (Op.num 1 0 :: ops) = 1 + costL ops := by simp [costL, Op.cost]
      rw [this, h3]; omega

theorem amoP_ech {B : BD} (b : BOk B) {a more : Nat} (ha : a ≤ 1048576) (hm : more ≤ 6) : ∀ (j sum : Nat), sum ≤ a → 3 * j + sum = 15 →
    ∃ ops, (amoP B (a : Int) more j sum).ech = (some a, ops) ∧ (∀ o ∈ ops, o.ok) ∧ costL ops = if a < 15 then (a - sum) / 3 + 1 else j + (2 * Nat.log2 (a - 14) + 1) := by
  have hcol := b.colour
  intro j
  induction j with
  | zero =>
    intro sum hs hj
    have hs15 : sum = 15 := by omega
    subst hs15
    have e1 : (imax ((a : Int) - 15) 0).toNat + 1 = a - 14 := by unfold imax; split <;> omega
    have hX : a - 14 ≠ 0 := by omega
    have lb : Nat.log2 (a - 14) < 20 := (Nat.log2_lt hX).2 (by omega)
    obtain ⟨ops, h1, h2, h3⟩ := lenP_ech hX (by omega) (Nat.log2 (a - 14)) 21 0 (by omega) (by omega)
    refine ⟨ops, ?_, h2, ?_⟩
    · unfold amoP
      rw [b.wr]
      have e2 : (imax ((a : Int) - ((15 : Nat) : Int)) 0).toNat + 1 = a - 14 := e1
      rw [e2, Pr.ech_some h1]
      simp only [Pr.ech, List.append_nil]
      rw [show 15 + (a - 14 - 1) = a by omega]
    · rw [h3, if_neg (by omega)]; omega
  | succ j ih =>
    intro sum hs hj
    obtain ⟨s, hsd⟩ : ∃ s : Nat, s = min (a - sum) 3 := ⟨_, rfl⟩
    have e1 : imin (imax ((a : Int) - sum) 0) 3 = (s : Int) := by unfold imin imax; split <;> split <;> omega
    have okS : (Op.sym 29 (7 * B.colour + more) s).ok := ⟨by decide, by show _ < 14; omega, by show s < 4; omega⟩
    by_cases c3 : s < 3
    · refine ⟨[.sym 29 (7 * B.colour + more) s], ?_, ?_, ?_⟩
      · unfold amoP
        simp only [Pr.ech]
        rw [e1, Int.toNat_natCast, if_pos c3]
        simp only [Pr.ech]
        rw [show sum + s = a by omega]
      · intro o ho
        rw [List.mem_singleton.1 ho]; exact okS
      · rw [if_pos (show a < 15 by omega)]
        simp [costL, Op.cost]
        omega
    · obtain ⟨ops, h1, h2, h3⟩ := ih (sum + 3) (by omega) (by omega)
      have hs3 : s = 3 := by omega
      refine ⟨.sym 29 (7 * B.colour + more) s :: ops, ?_, ?_, ?_⟩
      · unfold amoP
        simp only [Pr.ech]
        rw [e1, Int.toNat_natCast, if_neg c3, hs3, h1]
      · intro o ho
        rcases List.mem_cons.1 ho with rfl | ho
        · exact okS
        · exact h2 o ho
      · have : costL (Op.sym 29 (7 * B.colour + more) s :: ops) = 1 + costL ops := by simp [costL, Op.cost]
        rw [this, h3]
        split <;> omega
def amountCost (a : Nat) : Nat := if a < 3 then 0 else if a < 15 then (a - 3) / 3 + 1 else 4 + (2 * Nat.log2 (a - 14) + 1)
theorem amountP_ech {B : BD} (b : BOk B) (lv : List Int) {p a : Nat} (ha : iabs (B.src.getD p 0) = a) :
    ∃ ops, (amountP B lv p (min a 3)).ech = (some a, ops) ∧ (∀ o ∈ ops, o.ok) ∧ costL ops = amountCost a := by
  have hs := b.src p
  have hab := iabs_b (B.src.getD p 0)
  unfold amountP amountCost
  by_cases c3 : a < 3
  · refine ⟨[], ?_, by simp, by simp [costL, c3]⟩
    rw [if_pos (by omega), show min a 3 = a by omega]; rfl
  · rw [if_neg (by omega), ha]
    obtain ⟨ops, h1, h2, h3⟩ := amoP_ech b (a := a) (more := moreP lv B.n p) (by omega) (moreP_b _ _ _).1 4 3 (by omega) (by omega)
    rw [show min a 3 = 3 by omega]
    exact ⟨ops, h1, h2, by rw [h3, if_neg c3]⟩
theorem saidP_ech {B : BD} (b : BOk B) (lv : List Int) {en i a : Nat} (ha : iabs (B.src.getD (B.ord.getD i 0) 0) = a) (hz : i + 1 = en → a ≠ 0) :
    ∃ o, (saidP B en i lv).ech = (some (min a 3), [o]) ∧ o.ok ∧ o.cost = 1 := by
  have hcol := b.colour
  have mb := (baseP_b lv B.n (B.ord.getD i 0)).1
  unfold saidP
  rw [ha]
  by_cases ce : i + 1 = en
  · rw [if_pos ce]
    have := hz ce
    have e1 : imax (imin (a : Int) 3 - 1) 0 = ((min a 3 - 1 : Nat) : Int) := by unfold imin imax; split <;> split <;> omega
    refine ⟨.sym 27 B.colour (min a 3 - 1), ?_, ⟨by decide, by show _ < 2; omega, by show _ < 3; omega⟩, rfl⟩
    simp only [Pr.ech]
    rw [e1, Int.toNat_natCast]
    rw [show 1 + (min a 3 - 1) = min a 3 by omega]
  · rw [if_neg ce]
    have e1 : imin (a : Int) 3 = ((min a 3 : Nat) : Int) := by unfold imin; split <;> omega
    refine ⟨.sym 28 (5 * B.colour + baseP lv B.n (B.ord.getD i 0)) (min a 3), ?_, ⟨by decide, by show _ < 10; omega, by show _ < 4; omega⟩, rfl⟩
    simp only [Pr.ech]
    rw [e1, Int.toNat_natCast]

theorem getD_set {l : List Int} {p q : Nat} {v : Int} (hp : p < l.length) : (l.set p v).getD q 0 = if q = p then v else l.getD q 0 := by
  by_cases h : q = p
  · subst h; rw [if_pos rfl]; simp [List.getD, hp]
  · rw [if_neg h]; simp [List.getD, List.getElem?_set_ne (Ne.symm h)]
theorem amsP_ech {B : BD} (b : BOk B) {en : Nat} (hen : en ≤ B.n * B.n) (hz : ∀ i, i + 1 = en → B.src.getD (B.ord.getD i 0) 0 ≠ 0) : ∀ (i : Nat) (lv : List Int), i ≤ en → lv.length = B.n * B.n →
    ∃ lv' ops, (amsP B en i lv).ech = (some lv', ops) ∧ (∀ o ∈ ops, o.ok) ∧ lv'.length = B.n * B.n ∧ (∀ p, lv'.getD p 0 = if p ∈ B.ord.take i then iabs (B.src.getD p 0) else lv.getD p 0) ∧
      (i = 1 → costL ops = 1 + amountCost (iabs (B.src.getD (B.ord.getD 0 0) 0)).toNat) := by
  have oo := b.oo
  intro i
  induction i with
  | zero => intro lv hi hl; exact ⟨lv, [], rfl, by simp, hl, by simp, by simp⟩
  | succ i ih =>
    intro lv hi hl
    have hol : B.ord.length = B.n * B.n := by rw [b.ord]; exact oo.len
    have hio : i < B.ord.length := by omega
    have hat : B.ord.getD i 0 = B.ord[i] := by simp [List.getD, hio]
    have hatn : B.ord[i] < B.n * B.n := by
      have := List.getElem_mem hio
      have h2 := oo.lt B.ord[i] (by rw [← b.ord]; exact this)
      exact h2
    have hab := iabs_b (B.src.getD (B.ord.getD i 0) 0)
    obtain ⟨a, ha⟩ : ∃ a : Nat, iabs (B.src.getD (B.ord.getD i 0) 0) = a := ⟨(iabs (B.src.getD (B.ord.getD i 0) 0)).toNat, by omega⟩
    obtain ⟨o, s1, s2, s3⟩ := saidP_ech b lv (en := en) ha (fun h => by have := hz i h; omega)
    obtain ⟨ops1, t1, t2, t3⟩ := amountP_ech b lv ha
    obtain ⟨lv', ops2, u1, u2, u3, u4, _⟩ := ih (lv.set (B.ord.getD i 0) a) (by omega) (by rw [List.length_set]; exact hl)
    refine ⟨lv', [o] ++ (ops1 ++ ops2), ?_, ?_, u3, ?_, ?_⟩
    · unfold amsP
      rw [Pr.ech_some s1, Pr.ech_some t1, u1]
    · intro x hx
      rcases List.mem_append.1 hx with hx | hx
      · rw [List.mem_singleton.1 hx]; exact s2
      · rcases List.mem_append.1 hx with hx | hx
        · exact t2 x hx
        · exact u2 x hx
    · intro p
      rw [u4 p, List.take_add_one, List.getElem?_eq_getElem hio, getD_set (by rw [hl, hat]; exact hatn), hat]
      rw [hat] at ha
      by_cases h1 : p ∈ B.ord.take i
      · rw [if_pos h1, if_pos (List.mem_append_left _ h1)]
      · rw [if_neg h1]
        by_cases h2 : p = B.ord[i]
        · rw [if_pos h2, if_pos (List.mem_append_right _ (by simp [h2])), h2, ha]
        · rw [if_neg h2, if_neg]
          intro h
          rcases List.mem_append.1 h with h | h
          · exact h1 h
          · simp at h; exact h2 h
    · intro h1
      have hi0 : i = 0 := by omega
      subst hi0
      have hops : ops2 = [] := by
        have : (amsP B en 0 (lv.set (B.ord.getD 0 0) a)).ech = (some (lv.set (B.ord.getD 0 0) a), []) := rfl
        rw [this] at u1
        injection u1 with _ e
        exact e.symm
      rw [costL_append, costL_append, hops, t3, ha]
      simp [costL, s3]

theorem sgsP_ech {B : BD} (b : BOk B) : ∀ (r : List Nat) (lv : List Int), r.Nodup → (∀ p ∈ r, p < lv.length) →
    ∃ lv' ops, (sgsP B r lv).ech = (some lv', ops) ∧ (∀ o ∈ ops, o.ok) ∧ lv'.length = lv.length ∧ (∀ p, lv'.getD p 0 = if p ∈ r ∧ B.src.getD p 0 < 0 then -lv.getD p 0 else lv.getD p 0) ∧
      (∀ p, r = [p] → costL ops = if lv.getD p 0 = 0 then 0 else 1) := by
  have hcol := b.colour
  have hsig := b.sign
  intro r
  induction r with
  | nil => intro lv hn hl; exact ⟨lv, [], rfl, by simp, rfl, by simp, by simp⟩
  | cons q r ih =>
    intro lv hn hl
    obtain ⟨hq, hn⟩ := List.nodup_cons.1 hn
    by_cases cz : lv.getD q 0 = 0
    · obtain ⟨lv', ops, h1, h2, h3, h4, h5⟩ := ih lv hn (fun p hp => hl p (List.mem_cons_of_mem _ hp))
      refine ⟨lv', ops, ?_, h2, h3, ?_, ?_⟩
      · unfold sgsP; rw [if_pos cz, h1]
      · intro p
        rw [h4 p]
        by_cases e : p = q
        · subst e; rw [cz]; simp
        · simp [e]
      · intro p hp
        injection hp with e1 e2
        subst e1 e2
        rw [if_pos cz]
        have : (sgsP B [] lv).ech = (some lv, []) := rfl
        rw [this] at h1
        injection h1 with _ e
        rw [← e]; rfl
    · obtain ⟨v, hv⟩ : ∃ v : Nat, v = if B.src.getD q 0 < 0 then 1 else 0 := ⟨_, rfl⟩
      have hv2 : v < 2 := by rw [hv]; split <;> omega
      have hvi : (if B.src.getD q 0 < 0 then (1 : Int) else 0).toNat = v := by rw [hv]; split <;> rfl
      have hb : ∃ o, (belowP B q).ech = (some v, [o]) ∧ o.ok ∧ o.cost = 1 := by
        unfold belowP
        by_cases c0 : q = 0
        · rw [if_pos c0]
          exact ⟨.sym 30 (3 * B.colour + B.sign) v, by simp only [Pr.ech]; rw [hvi], ⟨by decide, by show _ < 6; omega, by show v < 2; omega⟩, rfl⟩
        · rw [if_neg c0]
          exact ⟨.num 1 v, by simp only [Pr.ech]; rw [hvi], ⟨by decide, by show v < 2 ^ 1; omega⟩, rfl⟩
      obtain ⟨o, b1, b2, b3⟩ := hb
      obtain ⟨lv1, hlv1⟩ : ∃ lv1, lv1 = if v = 1 then lv.set q (-lv.getD q 0) else lv := ⟨_, rfl⟩
      have hlen : lv1.length = lv.length := by rw [hlv1]; split; rw [List.length_set]; rfl
      obtain ⟨lv', ops, h1, h2, h3, h4, h5⟩ := ih lv1 hn (fun p hp => by rw [hlen]; exact hl p (List.mem_cons_of_mem _ hp))
      refine ⟨lv', [o] ++ ops, ?_, ?_, by rw [h3, hlen], ?_, ?_⟩
      · unfold sgsP
        rw [if_neg cz, Pr.ech_some b1, ← hlv1, h1]
      · intro x hx
        rcases List.mem_append.1 hx with hx | hx
        · rw [List.mem_singleton.1 hx]; exact b2
        · exact h2 x hx
      · intro p
        rw [h4 p]
        by_cases e : p = q
        · subst e
          rw [if_neg (by rintro ⟨h, _⟩; exact hq h)]
          by_cases cs : B.src.getD p 0 < 0
          · rw [if_pos cs] at hv
            rw [if_pos ⟨List.mem_cons_self .., cs⟩, hlv1, if_pos hv, getD_set (hl p (List.mem_cons_self ..)), if_pos rfl]
          · rw [if_neg cs] at hv
            rw [if_neg (by rintro ⟨_, h⟩; exact cs h), hlv1, if_neg (by omega)]
        · have e2 : lv1.getD p 0 = lv.getD p 0 := by
            rw [hlv1]
            split
            · rw [getD_set (hl q (List.mem_cons_self ..)), if_neg e]
            · rfl
          rw [e2]
          simp [e]
      · intro p hp
        injection hp with e1 e2
        subst e1 e2
        rw [if_neg cz]
        have : (sgsP B [] lv1).ech = (some lv1, []) := rfl
        rw [this] at h1
        injection h1 with _ e
        rw [← e]
        simp [costL, b3]

/-! Where the levels end. -/
theorem endTo_zero {B : BD} : ∀ {i : Nat}, ∀ j, endTo B i ≤ j → j < i → B.src.getD (B.ord.getD j 0) 0 = 0
  | 0, j, h1, h2 => by omega
  | i + 1, j, h1, h2 => by
    unfold endTo at h1
    by_cases c : B.src.getD (B.ord.getD i 0) 0 ≠ 0
    · rw [if_pos c] at h1; omega
    · rw [if_neg c] at h1
      by_cases e : j = i
      · subst e; exact Classical.not_not.1 c
      · exact endTo_zero j h1 (by omega)
theorem endTo_last {B : BD} : ∀ {i : Nat} j, j + 1 = endTo B i → B.src.getD (B.ord.getD j 0) 0 ≠ 0
  | 0, j, h => by simp [endTo] at h
  | i + 1, j, h => by
    unfold endTo at h
    by_cases c : B.src.getD (B.ord.getD i 0) 0 ≠ 0
    · rw [if_pos c] at h
      have : j = i := by omega
      subst this; exact c
    · rw [if_neg c] at h; exact endTo_last j h
theorem endP_ech {B : BD} (b : BOk B) : ∃ ops, (endP B).ech = (some (endTo B B.ord.length), ops) ∧ (∀ o ∈ ops, o.ok) ∧ (endTo B B.ord.length = 1 → costL ops = 2) := by
  have hcol := b.colour
  have oo := b.oo
  have hol : B.ord.length = B.n * B.n := by rw [b.ord]; exact oo.len
  obtain ⟨K, f1, f2, f3, f4, f5, f6⟩ := size_facts b.size
  rw [← b.n] at f1
  have hle := endTo_le B B.ord.length
  obtain ⟨E, hE⟩ : ∃ E, E = endTo B B.ord.length := ⟨_, rfl⟩
  unfold endP
  rw [← hE] at hle ⊢
  have ok1 : ∀ z : Nat, z < 2 → (Op.sym 22 (2 * B.colour + if 8 < B.size then 1 else 0) z).ok := fun z hz => ⟨by decide, by show _ < 4; split <;> omega, by show z < 2; exact hz⟩
  by_cases c0 : E = 0
  · refine ⟨[.sym 22 (2 * B.colour + if 8 < B.size then 1 else 0) 1], ?_, ?_, by omega⟩
    · simp only [Pr.ech]
      rw [if_pos c0]
      simp only [Int.toNat_one, if_true, Pr.ech]
      rw [c0]
    · intro o ho
      rw [List.mem_singleton.1 ho]; exact ok1 1 (by decide)
  · have hM : max E 1 = E := by omega
    rw [hM]
    have hcls := cls_b (e := E) (K := K) (by omega) (by omega) (by omega)
    have ok2 : (Op.sym (ekP B.size) B.colour (clsP E)).ok := ⟨f5, by rw [f6]; omega, by rw [f4]; omega⟩
    by_cases cc : clsP E = 0
    · refine ⟨[.sym 22 (2 * B.colour + if 8 < B.size then 1 else 0) 0, .sym (ekP B.size) B.colour (clsP E)], ?_, ?_, ?_⟩
      · simp only [Pr.ech]
        rw [if_neg c0]
        simp only [Int.toNat_zero, show ¬ (0 : Nat) = 1 by decide, if_false, Pr.ech, Int.toNat_natCast]
        rw [if_pos cc]
        simp only [Pr.ech]
        have : E = 1 := by
          unfold clsP at cc
          split at cc
          · assumption
          · omega
        rw [this]
      · intro o ho
        simp only [List.mem_cons, List.not_mem_nil, or_false] at ho
        rcases ho with rfl | rfl
        · exact ok1 0 (by decide)
        · exact ok2
      · intro _; simp [costL, Op.cost]
    · have xb := ext_b (e := E) (by omega) cc
      refine ⟨[.sym 22 (2 * B.colour + if 8 < B.size then 1 else 0) 0, .sym (ekP B.size) B.colour (clsP E), .num (clsP E - 1) (extP E).toNat], ?_, ?_, ?_⟩
      · simp only [Pr.ech]
        rw [if_neg c0]
        simp only [Int.toNat_zero, show ¬ (0 : Nat) = 1 by decide, if_false, Pr.ech, Int.toNat_natCast]
        rw [if_neg cc]
        simp only [Pr.ech]
        rw [xb.2.2]
      · intro o ho
        simp only [List.mem_cons, List.not_mem_nil, or_false] at ho
        rcases ho with rfl | rfl | rfl
        · exact ok1 0 (by decide)
        · exact ok2
        · have pc := two_pow_cast (clsP E - 1)
          exact ⟨by omega, by omega⟩
      · intro h1
        exact absurd (by rw [h1]; rfl) cc

theorem ext_getD {a b : List Int} (h : a.length = b.length) (k : ∀ p, p < a.length → a.getD p 0 = b.getD p 0) : a = b := by
  apply List.ext_getElem h
  intro i h1 h2
  have := k i h1
  simpa [List.getD, h1, h2] using this
/-- What is written is what was handed in. -/
theorem codeP_ech {B : BD} (b : BOk B) : ∃ ops, (codeP B).ech = (some B.src, ops) ∧ (∀ o ∈ ops, o.ok) ∧
    (endTo B B.ord.length = 1 → costL ops = 4 + amountCost (iabs (B.src.getD (B.ord.getD 0 0) 0)).toNat) := by
  have oo := b.oo
  have hol : B.ord.length = B.n * B.n := by rw [b.ord]; exact oo.len
  obtain ⟨ops1, a1, a2, a3⟩ := endP_ech b
  have hle := endTo_le B B.ord.length
  have hz := endTo_zero (B := B) (i := B.ord.length)
  have hl := endTo_last (B := B) (i := B.ord.length)
  obtain ⟨E, hE⟩ : ∃ E, E = endTo B B.ord.length := ⟨_, rfl⟩
  rw [← hE] at a1 hle hz hl a3 ⊢
  obtain ⟨lv1, ops2, b1, b2, b3, b4, b5⟩ := amsP_ech b (en := E) (by omega) (fun i h => hl i h) E (List.replicate (B.n * B.n) 0) (Nat.le_refl _) (by simp)
  have hnod : (B.ord.take E).Nodup := by
    have : B.ord.Nodup := by rw [b.ord]; exact oo.nod
    exact this.sublist (List.take_sublist _ _)
  obtain ⟨lv2, ops3, c1, c2, c3, c4, c5⟩ := sgsP_ech b (B.ord.take E) lv1 hnod (fun p hp => by
    rw [b3]; exact oo.lt p (by rw [← b.ord]; exact List.mem_of_mem_take hp))
  have hres : lv2 = B.src := by
    refine ext_getD (by rw [c3, b3, b.srcl]) fun p hp => ?_
    rw [c4 p, b4 p]
    have hpn : p < B.n * B.n := by rw [c3, b3] at hp; exact hp
    have hab := iabs_b (B.src.getD p 0)
    by_cases hm : p ∈ B.ord.take E
    · rw [if_pos hm]
      by_cases cs : B.src.getD p 0 < 0
      · rw [if_pos ⟨hm, cs⟩]; omega
      · rw [if_neg (by rintro ⟨_, h⟩; exact cs h)]; omega
    · rw [if_neg hm, if_neg (by rintro ⟨h, _⟩; exact hm h)]
      have h0 : (List.replicate (B.n * B.n) (0 : Int)).getD p 0 = 0 := by simp [List.getD, List.getElem?_replicate]; split <;> rfl
      rw [h0]
      have hmem : p ∈ B.ord := by rw [b.ord]; exact oo.mem p hpn
      obtain ⟨j, hj, hjp⟩ := List.mem_iff_getElem.1 hmem
      have hjE : E ≤ j := by
        refine Nat.le_of_not_lt fun h => hm ?_
        exact List.mem_iff_getElem.2 ⟨j, by rw [List.length_take]; omega, by rw [List.getElem_take]; exact hjp⟩
      have := hz j hjE hj
      have e : B.ord.getD j 0 = p := by simp [List.getD, hj, hjp]
      rw [e] at this
      exact this.symm
  refine ⟨ops1 ++ (ops2 ++ ops3), ?_, ?_, ?_⟩
  · unfold codeP
    rw [Pr.ech_some a1, Pr.ech_some b1, c1, hres]
  · intro o ho
    rcases List.mem_append.1 ho with ho | ho
    · exact a2 o ho
    · rcases List.mem_append.1 ho with ho | ho
      · exact b2 o ho
      · exact c2 o ho
  · intro h1
    rw [costL_append, costL_append, a3 h1, b5 h1]
    have h0 : 0 < B.ord.length := by omega
    have ht : B.ord.take E = [B.ord.getD 0 0] := by
      rw [h1]
      have : B.ord.getD 0 0 = B.ord[0] := by simp [List.getD, h0]
      rw [this, List.take_one]
      simp [List.head?_eq_getElem?, h0]
    rw [ht] at b4 c5
    have hne := hl 0 (by omega)
    have hab := iabs_b (B.src.getD (B.ord.getD 0 0) 0)
    have h9 : lv1.getD (B.ord.getD 0 0) 0 = iabs (B.src.getD (B.ord.getD 0 0) 0) := by rw [b4, if_pos (List.mem_singleton.2 rfl)]
    have := c5 _ rfl
    rw [this, if_neg (by rw [h9]; omega)]
    omega
end Go.Proofs.Ytbajipmhnoakeaa
