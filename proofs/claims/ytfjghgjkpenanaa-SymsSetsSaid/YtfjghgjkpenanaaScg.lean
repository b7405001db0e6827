/- SymsSets: a set is spoilt in one place. -/
import Derived.Test.YtfjghgjkpenanaaScf
set_option linter.unusedVariables false
set_option linter.unusedSimpArgs false
set_option maxRecDepth 20000
namespace Go.Proofs.Ytfjghgjkpenanaa
open Go Go.Zf
open Go.Zf (wi64)

theorem cut_hi {z b o n m : Nat} {k : Cap} (hk : CapOk z n k) (hm : m ≤ n) : ∃ k', slS z (.sl b o n k) none (some (.int .i64 m)) none = some (.sl b o m k') ∧ CapOk z m k' := by
  cases k with
  | ex c =>
    have hk : n ≤ c := hk
    exact ⟨.ex c, by simp [slS, sbV, optB, show m ≤ c by omega, show (m : Int) ≤ c by omega], show m ≤ c by omega⟩
  | op z' =>
    have hk : z' = z := hk
    subst hk
    exact ⟨.op z', by simp [slS, sbV, optB, hm, show (m : Int) ≤ n by omega], rfl⟩
theorem cut_lo {b o n : Nat} {k : Cap} (hk : CapOk 1 n k) (hn : 2 ≤ n) : ∃ k', slS 1 (.sl b o n k) (some (.int .i64 1)) none none = some (.sl b (o + 1) (n - 1) k') ∧ CapOk 1 (n - 1) k' := by
  cases k with
  | ex c =>
    have hk : n ≤ c := hk
    exact ⟨.ex (c - 1), by simp [slS, sbV, optB, show 1 ≤ n by omega, show (1 : Int) ≤ n by omega, show ¬ c = 1 by omega], show n - 1 ≤ c - 1 by omega⟩
  | op z' =>
    have hk : z' = 1 := hk
    subst hk
    exact ⟨.op 1, by simp [slS, sbV, optB, show 1 ≤ n by omega, show (1 : Int) ≤ n by omega], rfl⟩
theorem SlR.cutHi {D : Nat → Prop} {h : H} {v : V} {t z n m : Nat} {cs : List V} (a : SlR D h v t z n cs) (hm : m ≤ n) : ∃ v', slS z v none (some (.int .i64 m)) none = some v' ∧ SlR D h v' t z m (cs.take (m * z)) := by
  rcases a with ⟨rfl, rfl, rfl⟩ | ⟨b, o, k, c, rfl, h2, h3, rfl, h5, h6⟩
  · have : m = 0 := by omega
    subst this
    exact ⟨.nils, rfl, .inl ⟨rfl, rfl, by simp⟩⟩
  · obtain ⟨k', e, hk'⟩ := cut_hi (b := b) (o := o) h6 hm
    have := Nat.mul_le_mul_right z hm
    exact ⟨_, e, .inr ⟨b, o, k', c, rfl, h2, by omega, by rw [List.take_take, Nat.min_eq_left this], h5, hk'⟩⟩
theorem U16.cutLo {D : Nat → Prop} {h : H} {v : V} {c : List Nat} (a : U16 D h v c) (hc : 2 ≤ c.length) : ∃ v', slS 1 v (some (.int .i64 1)) none none = some v' ∧ U16 D h v' c.tail ∧ V.cells v' = some [v'] := by
  obtain ⟨a, hb⟩ := a
  rcases a with ⟨_, h, _⟩ | ⟨b, o, k, x, rfl, h2, h3, h4, h5, h6⟩
  · omega
  · obtain ⟨k', e, hk'⟩ := cut_lo (b := b) (o := o) h6 hc
    refine ⟨_, e, ⟨.inr ⟨b, o + 1, k', x, by rw [List.length_tail], h2, by rw [List.length_tail]; omega, ?_, h5, by rw [List.length_tail]; exact hk'⟩, fun y hy => hb y (List.mem_of_mem_tail hy)⟩, rfl⟩
    have : wordsV c.tail = (wordsV c).tail := by simp [wordsV, List.map_tail]
    rw [this, h4]
    apply List.ext_getElem?
    intro j
    simp only [List.getElem?_tail, List.getElem?_take, List.getElem?_drop, List.length_tail, Nat.mul_one]
    by_cases hj : j + 1 < c.length
    · rw [if_pos hj, if_pos (by omega)]; congr 1; omega
    · rw [if_neg hj, if_neg (by omega)]

instance : Inhabited Tb := ⟨⟨[], 0⟩⟩
/-- One number of some table is written. -/
theorem U16.put {D : Nat → Prop} {g : H} {v : V} {c : List Nat} {bu j y : Nat} {cu : List V} (a : U16 D g v c) (hb : g.get bu = some (.cells cu tU false)) (hj : j < cu.length) (hy : y < 65536) : ∃ c' : List Nat, c'.length = c.length ∧ U16 D (g.put bu (.cells (cu.set j (.int .u16 y)) tU false)) v c' := by
  obtain ⟨a, hc⟩ := a
  rcases a with ⟨rfl, h0, h1⟩ | ⟨b, o, k, x, rfl, h2, h3, h4, h5, h6⟩
  · have : c = [] := List.length_eq_zero_iff.mp h0
    subst this
    exact ⟨[], rfl, .inl ⟨rfl, rfl, rfl⟩, fun x hx => by simp at hx⟩
  · by_cases e : b = bu
    · subst e
      rw [hb] at h2; cases h2
      rw [Nat.mul_one] at h3
      have hlen : (wordsV c).length = c.length := wordsV_length c
      by_cases hr : o ≤ j ∧ j < o + c.length
      · refine ⟨c.set (j - o) y, by rw [List.length_set], .inr ⟨b, o, k, _, by rw [List.length_set], get_put_same (H.get_lt hb), by rw [List.length_set, List.length_set]; omega, ?_, h5, by rw [List.length_set]; exact h6⟩, fun z hz => ?_⟩
        · rw [← wordsV_set, h4, Nat.mul_one, List.length_set, Nat.mul_one]
          apply List.ext_getElem?
          intro i
          simp only [List.getElem?_set, List.getElem?_take, List.getElem?_drop, List.length_take, List.length_drop]
          by_cases hi : i < c.length
          · rw [if_pos hi]
            by_cases e2 : j - o = i
            · rw [if_pos e2, if_pos (by omega), if_pos (show j = o + i by omega), if_pos hi, if_pos hj]
            · rw [if_neg e2, if_pos hi, if_neg (by omega)]
          · rw [if_neg hi]
            by_cases e2 : j - o = i
            · omega
            · rw [if_neg e2, if_neg hi]
        · rcases List.mem_or_eq_of_mem_set hz with hz | hz
          · exact hc z hz
          · omega
      · refine ⟨c, rfl, .inr ⟨b, o, k, _, rfl, get_put_same (H.get_lt hb), by rw [List.length_set]; omega, ?_, h5, h6⟩, hc⟩
        rw [h4, Nat.mul_one]
        apply List.ext_getElem?
        intro i
        simp only [List.getElem?_set, List.getElem?_take, List.getElem?_drop]
        by_cases hi : i < c.length
        · rw [if_pos hi, if_pos hi, if_neg (by omega)]
        · rw [if_neg hi, if_neg hi]
    · exact ⟨c, rfl, .inr ⟨b, o, k, x, rfl, by rw [get_put_ne e, h2], h3, h4, h5, h6⟩, hc⟩
theorem RowR.put {D : Nat → Prop} {g : H} {v : V} {r : List Tb} {bu j y : Nat} {cu : List V} (a : RowR D g v r) (hb : g.get bu = some (.cells cu tU false)) (hj : j < cu.length) (hy : y < 65536) : ∃ r' : List Tb, r'.length = r.length ∧ (∀ (i : Nat) (t' : Tb), r'[i]? = some t' → ∃ t, r[i]? = some t ∧ t'.c.length = t.c.length) ∧ RowR D (g.put bu (.cells (cu.set j (.int .u16 y)) tU false)) v r' := by
  obtain ⟨cs, S, Ee⟩ := a
  have hch : ∀ m, m < r.length → ∃ t' : Tb, (∃ t, r[m]? = some t ∧ t'.c.length = t.c.length) ∧ ∃ vc, cs[2 * m]? = some vc ∧ cs[2 * m + 1]? = some (.int .i64 t'.n) ∧ U16 D (g.put bu (.cells (cu.set j (.int .u16 y)) tU false)) vc t'.c := fun m hm => by
    obtain ⟨t, ht⟩ := get_of_lt hm
    obtain ⟨vc, h1, h2, h3⟩ := Ee m t ht
    obtain ⟨c', hc1, hc2⟩ := h3.put hb hj hy
    exact ⟨⟨c', t.n⟩, ⟨t, ht, hc1⟩, vc, h1, h2, hc2⟩
  obtain ⟨f, hf⟩ := Go.Deep.choose_lt hch
  have hget : ∀ (i : Nat) (t' : Tb), ((List.range r.length).map f)[i]? = some t' → i < r.length ∧ f i = t' := fun i t' h => by
    have hi : i < r.length := by have := lt_of_get h; simpa using this
    refine ⟨hi, ?_⟩
    simp [hi] at h; exact h
  refine ⟨(List.range r.length).map f, by simp, fun i t' h => ?_, cs, ?_, fun i t' h => ?_⟩
  · obtain ⟨hi, rfl⟩ := hget i t' h
    exact (hf i hi).1
  · simp only [List.length_map, List.length_range]
    exact S.keep fun b c _ hbc => by rw [get_put_ne]; rintro rfl; rw [hb] at hbc; cases hbc
  · obtain ⟨hi, rfl⟩ := hget i t' h
    exact (hf i hi).2
theorem SetR.put {D : Nat → Prop} {g : H} {v : V} {S : List (List Tb)} {bu j y : Nat} {cu : List V} (a : SetR D g v S) (sm : Small S) (hb : g.get bu = some (.cells cu tU false)) (hj : j < cu.length) (hy : y < 65536) : ∃ S', Small S' ∧ SetR D (g.put bu (.cells (cu.set j (.int .u16 y)) tU false)) v S' := by
  obtain ⟨cs, O, Rr⟩ := a
  have hch : ∀ m, m < S.length → ∃ r' : List Tb, (∃ r, S[m]? = some r ∧ r'.length = r.length ∧ ∀ (i : Nat) (t' : Tb), r'[i]? = some t' → ∃ t, r[i]? = some t ∧ t'.c.length = t.c.length) ∧ ∃ vr, cs[m]? = some vr ∧ RowR D (g.put bu (.cells (cu.set j (.int .u16 y)) tU false)) vr r' := fun m hm => by
    obtain ⟨r, hr⟩ := get_of_lt hm
    obtain ⟨vr, h1, h2⟩ := Rr m r hr
    obtain ⟨r', k1, k2, k3⟩ := h2.put hb hj hy
    exact ⟨r', ⟨r, hr, k1, k2⟩, vr, h1, k3⟩
  obtain ⟨f, hf⟩ := Go.Deep.choose_lt hch
  have hget : ∀ (i : Nat) (t' : List Tb), ((List.range S.length).map f)[i]? = some t' → i < S.length ∧ f i = t' := fun i t' h => by
    have hi : i < S.length := by have := lt_of_get h; simpa using this
    refine ⟨hi, ?_⟩
    simp [hi] at h; exact h
  refine ⟨(List.range S.length).map f, ⟨by simp; exact sm.1, fun i r' h => ?_⟩, cs, ?_, fun i t' h => ?_⟩
  · obtain ⟨hi, rfl⟩ := hget i r' h
    obtain ⟨r, k1, k2, k3⟩ := (hf i hi).1
    have := sm.2 i r k1
    refine ⟨by rw [k2]; exact this.1, fun i' t' ht' => ?_⟩
    obtain ⟨t, y1, y2⟩ := k3 i' t' ht'
    rw [y2]; exact this.2 i' t y1
  · simp only [List.length_map, List.length_range]
    exact O.keep fun b c _ hbc => by rw [get_put_ne]; rintro rfl; rw [hb] at hbc; cases hbc
  · obtain ⟨hi, rfl⟩ := hget i t' h
    exact (hf i hi).2

theorem Small.take {S : List (List Tb)} (a : Small S) (k : Nat) : Small (S.take k) := ⟨by rw [List.length_take]; have := a.1; omega, fun i r hr => by
  rw [List.getElem?_take] at hr
  split at hr
  · exact a.2 i r hr
  · cases hr⟩
theorem Small.set {S : List (List Tb)} (a : Small S) {k : Nat} {r : List Tb} (hr : r.length < 1000 ∧ ∀ (i : Nat) (t : Tb), r[i]? = some t → t.c.length < 1000) : Small (S.set k r) := ⟨by rw [List.length_set]; exact a.1, fun i r' hr' => by
  rw [List.getElem?_set] at hr'
  split at hr'
  · split at hr'
    · cases hr'; exact hr
    · cases hr'
  · exact a.2 i r' hr'⟩
/-- The rows are cut short. -/
theorem SetR.cut {D : Nat → Prop} {g : H} {v : V} {S : List (List Tb)} (a : SetR D g v S) {k : Nat} (hk : k ≤ S.length) : ∃ v', slS 1 v none (some (.int .i64 k)) none = some v' ∧ SetR D g v' (S.take k) := by
  obtain ⟨cs, O, Rr⟩ := a
  obtain ⟨v', e, O'⟩ := O.cutHi hk
  have hl : (S.take k).length = k := by rw [List.length_take]; omega
  refine ⟨v', e, cs.take (k * 1), by rw [hl]; exact O', fun i r hr => ?_⟩
  rw [List.getElem?_take] at hr
  split at hr
  · rename_i hi
    obtain ⟨vr, h1, h2⟩ := Rr i r hr
    exact ⟨vr, by rw [List.getElem?_take, if_pos (by omega), h1], h2⟩
  · cases hr
/-- One row is cut short. -/
theorem SetW.cutRow {D : Nat → Prop} {g : H} {v : V} {S : List (List Tb)} (a : SetW D g v S) {k c : Nat} {r : List Tb} (hr : S[k]? = some r) (hc : c ≤ r.length) :
    ∃ b o vr vr', iaS 1 v (.int .i64 k) = some (.ptr b o) ∧ g.rd1 b o = some vr ∧ slS 2 vr none (some (.int .i64 c)) none = some vr' ∧ V.same vr vr = true ∧ vr'.isCell = true ∧ D b ∧ ∃ g', g.wr1 b o vr' = some g' ∧ Mod D g g' ∧ SetR D g' v (S.set k (r.take c)) := by
  obtain ⟨cs, B, h1, h2, _⟩ := a
  rcases h1 with ⟨rfl, rfl, rfl⟩ | ⟨b, k0, rfl, o1, o2, o3, o4⟩
  · simp at hr
  have hk := lt_of_get hr
  obtain ⟨vr, k1, k2⟩ := h2 k r hr
  obtain ⟨rc, Sr, Er⟩ := k2.rowR
  obtain ⟨vr', e, S'⟩ := Sr.cutHi hc
  obtain ⟨g', hg'⟩ : ∃ z, z = g.put b (.cells (cs.set k vr') tR false) := ⟨_, rfl⟩
  have hkeep : ∀ b' x ty, g.get b' = some (.cells x ty false) → ty ≠ tR → g'.get b' = g.get b' := fun b' x ty hb hne => by
    rw [hg', get_put_ne]; rintro rfl; rw [o1] at hb; cases hb; exact hne rfl
  refine ⟨b, k, vr, vr', by simp [hk], by rw [rd1_of o1, k1], e, Sr.same, S'.cell, o3, g', by rw [wr1_of o1 (by omega), hg'], ⟨by rw [hg', H.n_put]; exact Nat.le_refl _, fun d _ hd => by rw [hg', get_put_ne (by rintro rfl; exact hd o3)]⟩, cs.set k vr', ?_, fun i s hs => ?_⟩
  · have := SlR.of (D := D) (h := g') (n := (S.set k (r.take c)).length) (z := 1) (k := k0) (b := b) (c := cs.set k vr') (by rw [hg', get_put_same (H.get_lt o1)]) (by rw [List.length_set, List.length_set]; omega) o3 (by rw [List.length_set]; exact o4)
    rw [List.length_set] at this
    rw [List.length_set]; exact this
  · rw [List.getElem?_set] at hs ⊢
    by_cases ei : k = i
    · subst ei
      rw [if_pos rfl, if_pos hk] at hs
      cases hs
      refine ⟨vr', by rw [if_pos rfl, if_pos (by omega)], rc.take (c * 2), ?_, ?_⟩
      · have hl : (r.take c).length = c := by rw [List.length_take]; omega
        rw [hl]
        exact S'.keep fun b' x _ hb => hkeep b' x tT hb (by decide)
      · intro i t ht
        rw [List.getElem?_take] at ht
        split at ht
        · rename_i hi
          obtain ⟨vc, e1, e2, e3⟩ := Er i t ht
          exact ⟨vc, by rw [List.getElem?_take, if_pos (by omega), e1], by rw [List.getElem?_take, if_pos (by omega), e2], e3.keep fun b' x _ hb => hkeep b' x tU hb (by decide)⟩
        · cases ht
    · rw [if_neg ei] at hs ⊢
      obtain ⟨vi, j1, j2⟩ := h2 i s hs
      obtain ⟨rc', Sr', Er'⟩ := j2.rowR
      exact ⟨vi, j1, rc', Sr'.keep fun b' x _ hb => hkeep b' x tT hb (by decide), Er'.keep fun b' x _ hb => hkeep b' x tU hb (by decide)⟩
end Go.Proofs.Ytfjghgjkpenanaa
