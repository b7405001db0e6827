/- spoil: the kinds of what is there are enough. -/
import Derived.Test.YtfjghgjkpenanaaSan
set_option linter.unusedVariables false
set_option linter.unusedSimpArgs false
set_option maxRecDepth 20000
namespace Go.Proofs.Ytfjghgjkpenanaa
open Go Go.Zf
open Go.Zf (wi64)

def U16k (D : Nat → Prop) (h : H) (vc : V) (n : Nat) : Prop :=
  (vc = .nils ∧ n = 0) ∨ ∃ b o k c, vc = .sl b o n k ∧ h.get b = some (.cells c tU false) ∧ o + n ≤ c.length ∧ D b ∧ ∀ i, i < n → ∃ y : Int, c[o + i]? = some (.int .u16 y)
def RowK (D : Nat → Prop) (h : H) (vr : V) (ls : List Nat) : Prop :=
  (vr = .nils ∧ ls = []) ∨ ∃ bb k c, vr = .sl bb 0 ls.length k ∧ h.get bb = some (.cells c tT false) ∧ ls.length * 2 ≤ c.length ∧ D bb ∧ ∀ (i n : Nat), ls[i]? = some n → ∃ vc m, c[2 * i]? = some vc ∧ c[2 * i + 1]? = some (.int .i64 m) ∧ U16k D h vc n
def Wk (D : Nat → Prop) (h : H) (v : V) (L : List (List Nat)) : Prop :=
  (v = .nils ∧ L = []) ∨ ∃ b k c, v = .sl b 0 L.length k ∧ h.get b = some (.cells c tR false) ∧ L.length ≤ c.length ∧ D b ∧ ∀ (k : Nat) (ls : List Nat), L[k]? = some ls → ∃ vr, c[k]? = some vr ∧ RowK D h vr ls
theorem U16k.put_u {D : Nat → Prop} {g : H} {vc : V} {n bu j : Nat} {c : List V} {y : Int} (a : U16k D g vc n) (hb : g.get bu = some (.cells c tU false)) (hj : j < c.length) : U16k D (g.put bu (.cells (c.set j (.int .u16 y)) tU false)) vc n := by
  rcases a with a | ⟨b, o, k, c', h1, h2, h3, h4, h5⟩
  · exact .inl a
  · by_cases e : b = bu
    · subst e
      rw [hb] at h2; cases h2
      refine .inr ⟨b, o, k, _, h1, get_put_same (H.get_lt hb), by simpa using h3, h4, fun i hi => ?_⟩
      rw [List.getElem?_set]
      split
      · exact ⟨y, rfl⟩
      · exact h5 i hi
    · exact .inr ⟨b, o, k, c', h1, by rw [get_put_ne e, h2], h3, h4, h5⟩
theorem U16k.put_n {D : Nat → Prop} {g : H} {vc : V} {n bb : Nat} {c c2 : List V} (a : U16k D g vc n) (hb : g.get bb = some (.cells c tT false)) : U16k D (g.put bb (.cells c2 tT false)) vc n := by
  rcases a with a | ⟨b, o, k, c', h1, h2, h3, h4, h5⟩
  · exact .inl a
  · exact .inr ⟨b, o, k, c', h1, by rw [get_put_ne (by rintro rfl; rw [hb] at h2; cases h2), h2], h3, h4, h5⟩
theorem Wk.put_u {D : Nat → Prop} {g : H} {v : V} {L : List (List Nat)} {bu j : Nat} {c : List V} {y : Int} (a : Wk D g v L) (hb : g.get bu = some (.cells c tU false)) (hj : j < c.length) : Wk D (g.put bu (.cells (c.set j (.int .u16 y)) tU false)) v L := by
  rcases a with a | ⟨b, k, c', h1, h2, h3, h4, h5⟩
  · exact .inl a
  · refine .inr ⟨b, k, c', h1, by rw [get_put_ne (by rintro rfl; rw [hb] at h2; cases h2), h2], h3, h4, fun k ls hk => ?_⟩
    obtain ⟨vr, r1, r2⟩ := h5 k ls hk
    refine ⟨vr, r1, ?_⟩
    rcases r2 with r2 | ⟨bb, k', c', q1, q2, q3, q4, q5⟩
    · exact .inl r2
    · refine .inr ⟨bb, k', c', q1, by rw [get_put_ne (by rintro rfl; rw [hb] at q2; cases q2), q2], q3, q4, fun i n hi => ?_⟩
      obtain ⟨vc, m, s1, s2, s3⟩ := q5 i n hi
      exact ⟨vc, m, s1, s2, s3.put_u hb hj⟩
theorem Wk.put_n {D : Nat → Prop} {g : H} {v : V} {L : List (List Nat)} {bb i : Nat} {c : List V} {y : Int} (a : Wk D g v L) (hb : g.get bb = some (.cells c tT false)) (hj : 2 * i + 1 < c.length) : Wk D (g.put bb (.cells (c.set (2 * i + 1) (.int .i64 y)) tT false)) v L := by
  rcases a with a | ⟨b, k, c', h1, h2, h3, h4, h5⟩
  · exact .inl a
  · refine .inr ⟨b, k, c', h1, by rw [get_put_ne (by rintro rfl; rw [hb] at h2; cases h2), h2], h3, h4, fun k ls hk => ?_⟩
    obtain ⟨vr, r1, r2⟩ := h5 k ls hk
    refine ⟨vr, r1, ?_⟩
    rcases r2 with r2 | ⟨b2, k', c', q1, q2, q3, q4, q5⟩
    · exact .inl r2
    · by_cases e : b2 = bb
      · subst e
        rw [hb] at q2; cases q2
        refine .inr ⟨b2, k', _, q1, get_put_same (H.get_lt hb), by simpa using q3, q4, fun i' n hi => ?_⟩
        obtain ⟨vc, m, s1, s2, s3⟩ := q5 i' n hi
        refine ⟨vc, if i = i' then y else m, by rw [List.getElem?_set, if_neg (by omega), s1], ?_, s3.put_n hb⟩
        rw [List.getElem?_set]
        by_cases ei : i = i'
        · rw [if_pos (by omega), if_pos ei, if_pos hj]
        · rw [if_neg (by omega), if_neg ei, s2]
      · refine .inr ⟨b2, k', c', q1, by rw [get_put_ne e, q2], q3, q4, fun i n hi => ?_⟩
        obtain ⟨vc, m, s1, s2, s3⟩ := q5 i n hi
        exact ⟨vc, m, s1, s2, s3.put_n hb⟩
theorem Wk.of {D : Nat → Prop} {g : H} {v : V} {S : List (List Tb)} (a : SetW D g v S) : Wk D g v (S.map fun r => r.map fun t => t.c.length) := by
  obtain ⟨cs, B, h1, h2, _⟩ := a
  rcases h1 with ⟨rfl, rfl, rfl⟩ | ⟨b, k, rfl, a2, a3, a4⟩
  · exact .inl ⟨rfl, rfl⟩
  · refine .inr ⟨b, k, cs, by simp, a2, by simp; omega, a4, fun i ls hi => ?_⟩
    rw [List.getElem?_map] at hi
    cases hr : S[i]? with
    | none => rw [hr] at hi; cases hi
    | some r =>
      rw [hr] at hi
      simp only [Option.map_some, Option.some.injEq] at hi
      subst hi
      obtain ⟨vr, r1, r2⟩ := h2 i r hr
      refine ⟨vr, r1, ?_⟩
      rcases r2 with ⟨rfl, rfl⟩ | ⟨k', c', q1, q2, q3, q4, q5⟩
      · exact .inl ⟨rfl, rfl⟩
      · refine .inr ⟨_, k', c', by rw [List.length_map]; exact q1, q2, by rw [List.length_map]; omega, q4, fun j n hj => ?_⟩
        rw [List.getElem?_map] at hj
        cases ht : r[j]? with
        | none => rw [ht] at hj; cases hj
        | some t =>
          rw [ht] at hj
          simp only [Option.map_some, Option.some.injEq] at hj
          subst hj
          obtain ⟨vc, s1, s2, s3, s4⟩ := q5 j t ht
          refine ⟨vc, t.n, s1, s2, ?_⟩
          rcases s3 with ⟨rfl, e1, _⟩ | ⟨b', o', k'', x, e1, e2, e3, e4, e5⟩
          · exact .inl ⟨rfl, e1⟩
          · refine .inr ⟨b', o', k'', x, e1, e2, by omega, e5, fun i' hi' => ?_⟩
            have := congrArg (fun l => l[i']?) e4
            simp only [List.getElem?_take, List.getElem?_drop] at this
            rw [if_pos (by omega), wordsV_get _ _ hi'] at this
            exact ⟨_, this.symm⟩
theorem Wk.len {D : Nat → Prop} {g : H} {v : V} {L : List (List Nat)} (a : Wk D g v L) : lnS v = some (.int .i64 L.length) := by
  rcases a with ⟨rfl, rfl⟩ | ⟨b, k, c, rfl, _⟩ <;> simp
theorem Wk.same {D : Nat → Prop} {g : H} {v : V} {L : List (List Nat)} (a : Wk D g v L) : V.same v v = true ∧ V.cells v = some [v] := by
  rcases a with ⟨rfl, rfl⟩ | ⟨b, k, c, rfl, _⟩ <;> simp [V.same, V.cells]
theorem RowK.len {D : Nat → Prop} {g : H} {v : V} {L : List Nat} (a : RowK D g v L) : lnS v = some (.int .i64 L.length) := by
  rcases a with ⟨rfl, rfl⟩ | ⟨b, k, c, rfl, _⟩ <;> simp
theorem RowK.same {D : Nat → Prop} {g : H} {v : V} {L : List Nat} (a : RowK D g v L) : V.same v v = true := by
  rcases a with ⟨rfl, rfl⟩ | ⟨b, k, c, rfl, _⟩ <;> simp [V.same]
theorem U16k.len {D : Nat → Prop} {g : H} {v : V} {n : Nat} (a : U16k D g v n) : lnS v = some (.int .i64 n) := by
  rcases a with ⟨rfl, rfl⟩ | ⟨b, o, k, c, rfl, _⟩ <;> simp
theorem U16k.same {D : Nat → Prop} {g : H} {v : V} {n : Nat} (a : U16k D g v n) : V.same v v = true := by
  rcases a with ⟨rfl, rfl⟩ | ⟨b, o, k, c, rfl, _⟩ <;> simp [V.same]
theorem Wk.row {D : Nat → Prop} {g : H} {v : V} {L : List (List Nat)} (a : Wk D g v L) {k : Nat} {ls : List Nat} (h : L[k]? = some ls) : ∃ b o vr, iaS 1 v (.int .i64 k) = some (.ptr b o) ∧ g.rd1 b o = some vr ∧ RowK D g vr ls := by
  rcases a with ⟨rfl, rfl⟩ | ⟨b, k', c, rfl, h2, h3, h4, h5⟩
  · simp at h
  · obtain ⟨vr, r1, r2⟩ := h5 k ls h
    exact ⟨b, k, vr, by simp [lt_of_get h], by rw [rd1_of h2, r1], r2⟩
theorem RowK.tab {D : Nat → Prop} {g : H} {v : V} {ls : List Nat} (a : RowK D g v ls) {i n : Nat} (h : ls[i]? = some n) : ∃ bb vc c, iaS 2 v (.int .i64 i) = some (.ptr bb (i * 2)) ∧ g.rd1 bb (i * 2) = some vc ∧ U16k D g vc n ∧ g.get bb = some (.cells c tT false) ∧ 2 * i + 1 < c.length ∧ D bb := by
  rcases a with ⟨rfl, rfl⟩ | ⟨b, k', c, rfl, h2, h3, h4, h5⟩
  · simp at h
  · obtain ⟨vc, m, r1, r2, r3⟩ := h5 i n h
    exact ⟨b, vc, c, by simp [lt_of_get h], by rw [rd1_of h2, Nat.mul_comm, r1], r3, h2, lt_of_get r2, h4⟩
theorem U16k.at {D : Nat → Prop} {g : H} {v : V} {n : Nat} (a : U16k D g v n) {i : Nat} (h : i < n) : ∃ b o c y, iaS 1 v (.int .i64 i) = some (.ptr b o) ∧ g.rd1 b o = some (.int .u16 y) ∧ g.get b = some (.cells c tU false) ∧ o < c.length ∧ D b := by
  rcases a with ⟨rfl, rfl⟩ | ⟨b, o, k', c, rfl, h2, h3, h4, h5⟩
  · omega
  · obtain ⟨y, hy⟩ := h5 i h
    exact ⟨b, o + i, c, y, by simp [h], by rw [rd1_of h2, hy], h2, by omega, h4⟩

structure K16 (D : Nat → Prop) (h0 : H) (v : V) (L : List (List Nat)) (by_ : Int) (B : Nat) (e : E) (g : H) : Prop where
  md : Mod D h0 g
  wk : Wk D g v L
  b : g.get B = some (.cells [v] 25 false)
  e1 : e.s [0, 1, 2, 4, 5, 6] 1 = .int .u16 by_
  e2 : e.s [0, 1, 2, 4, 5, 6] 2 = .ptr B 0

theorem loop16_0 {D : Nat → Prop} {h0 : H} {v : V} {L : List (List Nat)} {by_ : Int} {B k c n : Nat} {ls : List Nat} (hB : ¬ D B) (hk : L[k]? = some ls) (hc : ls[c]? = some n) (hn : n < 1000) {e : E} {g : H} (hi : K16 D h0 v L by_ B e g ∧ e.s [0, 1, 2, 4, 5, 6] 4 = .int .i64 k ∧ e.s [0, 1, 2, 4, 5, 6] 5 = .int .i64 c ∧ e.s [0, 1, 2, 4, 5, 6] 6 = .int .i64 (0 : Nat)) :
    ∃ e' g', loopZ (l16_0 KW loopZ) e g = some ⟨.ex 4, e', g'⟩ ∧ K16 D h0 v L by_ B e' g' ∧ e'.s [0, 1, 2, 4, 5, 6] 4 = .int .i64 k ∧ e'.s [0, 1, 2, 4, 5, 6] 5 = .int .i64 c := by
  have loop := loop_run (body := l16_0 KW loopZ) (fun j e g => j ≤ n ∧ K16 D h0 v L by_ B e g ∧ e.s [0, 1, 2, 4, 5, 6] 4 = .int .i64 k ∧ e.s [0, 1, 2, 4, 5, 6] 5 = .int .i64 c ∧ e.s [0, 1, 2, 4, 5, 6] 6 = .int .i64 ((n - j : Nat) : Int)) (fun s => s.x = .ex 4 ∧ K16 D h0 v L by_ B s.e s.h ∧ s.e.s [0, 1, 2, 4, 5, 6] 4 = .int .i64 k ∧ s.e.s [0, 1, 2, 4, 5, 6] 5 = .int .i64 c)
    (fun j e g hi => by
      obtain ⟨hj, ⟨md, wk, b, e1, e2⟩, e4, e5, e6⟩ := hi
      obtain ⟨bO, oO, vr, i1, i2, R⟩ := wk.row hk
      obtain ⟨bb, vc, cc, i3, i4, U, _⟩ := R.tab hc
      have ul := U.len
      have s1 := wk.same
      have s2 := R.same
      have s3 := U.same
      cases j with
      | zero =>
        rw [Nat.sub_zero] at e6
        simp [l16_0, e2, rd1_of b, e4, i1, i2, e5, i3, i4, e6, ul]
        exact ⟨rfl, ⟨md, wk, b, by simp [e1], by simp [e2]⟩, by simp [e4], by simp [e5]⟩
      | succ j =>
        obtain ⟨i, hi⟩ : ∃ i, i = n - (j + 1) := ⟨_, rfl⟩
        have hi2 : n - j = i + 1 := by omega
        rw [← hi] at e6
        have hin : i < n := by omega
        obtain ⟨bu, ou, cu, y, i5, i6, i7, i8, i9⟩ := U.at hin
        have z1 : IntKind.i64.wrap ((i : Int) + 1) = i + 1 := wi64 (by omega) (by omega)
        obtain ⟨y2, hy2⟩ : ∃ y2, binK 0 .xor (.int .u16 y) (.int .u16 by_) = some (.int .u16 y2) := ⟨_, by simp; rfl⟩
        obtain ⟨g1, hg1⟩ : ∃ z, z = g.put bu (.cells (cu.set ou (.int .u16 y2)) tU false) := ⟨_, rfl⟩
        have hw : g.wr1 bu ou (.int .u16 y2) = some g1 := by rw [wr1_of i7 i8, hg1]
        have wk1 : Wk D g1 v L := by rw [hg1]; exact wk.put_u i7 i8
        have b1 : g1.get B = some (.cells [v] 25 false) := by rw [hg1, get_put_ne (by rintro rfl; exact hB i9), b]
        have md1 : Mod D h0 g1 := md.tr ⟨by rw [hg1, H.n_put]; exact Nat.le_refl _, fun d _ hd => by rw [hg1, get_put_ne (by rintro rfl; exact hd i9)]⟩
        simp [-binK_xor, l16_0, e2, rd1_of b, e4, i1, i2, e5, i3, i4, e6, ul, hin, show (i : Int) < n by omega, i5, i6, e1, hy2, hw, ck, V.same, s1.1, s2, s3, z1]
        exact ⟨j, Nat.lt_succ_self j, by omega, ⟨md1, wk1, b1, by simp [e1], by simp [e2]⟩, by simp [e4], by simp [e5], by simp [hi2, z1]⟩)
  obtain ⟨hK, e4, e5, e6⟩ := hi
  obtain ⟨⟨x, e', g'⟩, r1, r2, r3⟩ := loop n e g ⟨Nat.le_refl _, hK, e4, e5, by rw [Nat.sub_self]; exact e6⟩
  simp only at r2 r3
  subst r2
  exact ⟨e', g', r1, r3⟩

theorem loop16_1 {D : Nat → Prop} {h0 : H} {v : V} {L : List (List Nat)} {by_ : Int} {B k : Nat} {ls : List Nat} (hB : ¬ D B) (hk : L[k]? = some ls) (hl : ls.length < 1000) (hn : ∀ (i n : Nat), ls[i]? = some n → n < 1000) {e : E} {g : H} (hi : K16 D h0 v L by_ B e g ∧ e.s [0, 1, 2, 4, 5, 6] 4 = .int .i64 k ∧ e.s [0, 1, 2, 4, 5, 6] 5 = .int .i64 (0 : Nat)) :
    ∃ e' g', loopZ (l16_1 KW loopZ) e g = some ⟨.ex 2, e', g'⟩ ∧ K16 D h0 v L by_ B e' g' ∧ e'.s [0, 1, 2, 4, 5, 6] 4 = .int .i64 k := by
  have loop := loop_run (body := l16_1 KW loopZ) (fun j e g => j ≤ ls.length ∧ K16 D h0 v L by_ B e g ∧ e.s [0, 1, 2, 4, 5, 6] 4 = .int .i64 k ∧ e.s [0, 1, 2, 4, 5, 6] 5 = .int .i64 ((ls.length - j : Nat) : Int)) (fun s => s.x = .ex 2 ∧ K16 D h0 v L by_ B s.e s.h ∧ s.e.s [0, 1, 2, 4, 5, 6] 4 = .int .i64 k)
    (fun j e g hi => by
      obtain ⟨hj, ⟨md, wk, b, e1, e2⟩, e4, e5⟩ := hi
      obtain ⟨bO, oO, vr, i1, i2, R⟩ := wk.row hk
      have rl := R.len
      cases j with
      | zero =>
        rw [Nat.sub_zero] at e5
        simp [l16_1, e2, rd1_of b, e4, i1, i2, e5, rl]
        exact ⟨rfl, ⟨md, wk, b, by simp [e1], by simp [e2]⟩, by simp [e4]⟩
      | succ j =>
        obtain ⟨i, hi⟩ : ∃ i, i = ls.length - (j + 1) := ⟨_, rfl⟩
        have hi2 : ls.length - j = i + 1 := by omega
        rw [← hi] at e5
        have hin : i < ls.length := by omega
        obtain ⟨n, hc⟩ := get_of_lt hin
        have z1 : IntKind.i64.wrap ((i : Int) + 1) = i + 1 := wi64 (by omega) (by omega)
        obtain ⟨e', g', r1, ⟨md', wk', b', e1', e2'⟩, e4', e5'⟩ := loop16_0 (h0 := h0) (v := v) (by_ := by_) (c := i) (n := n) hB hk hc (hn i n hc) (e := ⟨[e.s [0, 1, 2, 4, 5, 6] 0, .int .u16 by_, .ptr B 0, .int .i64 k, .int .i64 i, .int .i64 0], 6, .int .i64 0⟩) (g := g) ⟨⟨md, wk, b, by simp, by simp⟩, by simp, by simp, by simp⟩
        obtain ⟨bO', oO', vr', q1, q2, R'⟩ := wk'.row hk
        rw [i1] at q1; cases q1
        obtain ⟨bb, vc, cc, q3, q4, _, q5, q6, q7⟩ := R'.tab hc
        obtain ⟨g1, hg1⟩ : ∃ z, z = g'.put bb (.cells (cc.set (2 * i + 1) (.int .i64 99)) tT false) := ⟨_, rfl⟩
        have hw : g'.wr1 bb (i * 2 + 1) (.int .i64 99) = some g1 := by rw [Nat.mul_comm i 2, wr1_of q5 q6, hg1]
        have wk1 : Wk D g1 v L := by rw [hg1]; exact wk'.put_n q5 q6
        have b1 : g1.get B = some (.cells [v] 25 false) := by rw [hg1, get_put_ne (by rintro rfl; exact hB q7), b']
        have md1 : Mod D h0 g1 := md'.tr ⟨by rw [hg1, H.n_put]; exact Nat.le_refl _, fun d _ hd => by rw [hg1, get_put_ne (by rintro rfl; exact hd q7)]⟩
        simp [l16_1, e2, rd1_of b, e4, i1, i2, e5, rl, hin, show (i : Int) < ls.length by omega, e1, r1, e2', rd1_of b', e4', q2, e5', q3, hw, z1]
        exact ⟨j, Nat.lt_succ_self j, by omega, ⟨md1, wk1, b1, by simp [e1'], by simp [e2']⟩, by simp [e4'], by simp [hi2, z1, e5']⟩)
  obtain ⟨hK, e4, e5⟩ := hi
  obtain ⟨⟨x, e', g'⟩, r1, r2, r3⟩ := loop ls.length e g ⟨Nat.le_refl _, hK, e4, by rw [Nat.sub_self]; exact e5⟩
  simp only at r2 r3
  subst r2
  exact ⟨e', g', r1, r3⟩

theorem spoil16_ok {D : Nat → Prop} {h : H} {v : V} {S : List (List Tb)} (W : SetW D h v S) (sm : Small S) (by_ : Int) : RT (fun w h' => w = .tup [] ∧ Mod D h h') (KW 16 [.agg [v], .int .u16 by_] h) := by
  obtain ⟨h1, b1, x1, g1, n1, u1⟩ := box25 W.setR
  have W1 : SetW (fun b => D b ∧ b < h.n) h1 v S := (W.mono fun b hb hd => ⟨hd, hb⟩).ext x1
  obtain ⟨L, hL⟩ : ∃ L, L = S.map fun r => r.map fun t => t.c.length := ⟨_, rfl⟩
  have K1 := Wk.of W1
  rw [← hL] at K1
  have hLl : L.length < 1000 := by rw [hL, List.length_map]; exact sm.1
  have hLr : ∀ (k : Nat) (ls : List Nat), L[k]? = some ls → ls.length < 1000 ∧ ∀ (i n : Nat), ls[i]? = some n → n < 1000 := fun k ls hk => by
    rw [hL, List.getElem?_map] at hk
    cases hr : S[k]? with
    | none => rw [hr] at hk; cases hk
    | some r =>
      rw [hr] at hk
      simp only [Option.map_some, Option.some.injEq] at hk
      subst hk
      have := sm.2 k r hr
      refine ⟨by rw [List.length_map]; exact this.1, fun i n hi => ?_⟩
      rw [List.getElem?_map] at hi
      cases ht : r[i]? with
      | none => rw [ht] at hi; cases hi
      | some t =>
        rw [ht] at hi
        simp only [Option.map_some, Option.some.injEq] at hi
        subst hi
        exact this.2 i t ht
  have hB : ¬ (D h.n ∧ h.n < h.n) := fun h => by omega
  have loop := loop_run (body := l16_2 KW loopZ) (fun j e g => j ≤ L.length ∧ K16 (fun b => D b ∧ b < h.n) h1 v L by_ h.n e g ∧ e.s [0, 1, 2, 4, 5, 6] 4 = .int .i64 ((L.length - j : Nat) : Int)) (fun s => s.x = .ex 0 ∧ K16 (fun b => D b ∧ b < h.n) h1 v L by_ h.n s.e s.h)
    (fun j e g hi => by
      obtain ⟨hj, ⟨md, wk, b, e1, e2⟩, e4⟩ := hi
      have Al := wk.len
      cases j with
      | zero =>
        rw [Nat.sub_zero] at e4
        simp [l16_2, e2, rd1_of b, e4, Al]
        exact ⟨rfl, ⟨md, wk, b, by simp [e1], by simp [e2]⟩⟩
      | succ j =>
        obtain ⟨i, hi⟩ : ∃ i, i = L.length - (j + 1) := ⟨_, rfl⟩
        have hi2 : L.length - j = i + 1 := by omega
        rw [← hi] at e4
        have hin : i < L.length := by omega
        obtain ⟨ls, hk⟩ := get_of_lt hin
        have z1 : IntKind.i64.wrap ((i : Int) + 1) = i + 1 := wi64 (by omega) (by omega)
        obtain ⟨e', g', r1, ⟨md', wk', b', e1', e2'⟩, e4'⟩ := loop16_1 (h0 := h1) (v := v) (by_ := by_) (k := i) hB hk (hLr i ls hk).1 (hLr i ls hk).2 (e := ⟨[e.s [0, 1, 2, 4, 5, 6] 0, .int .u16 by_, .ptr h.n 0, .int .i64 i, .int .i64 0, e.s [0, 1, 2, 4, 5, 6] 6], 5, .int .i64 0⟩) (g := g) ⟨⟨md, wk, b, by simp, by simp⟩, by simp, by simp⟩
        simp [l16_2, e2, rd1_of b, e4, Al, hin, show (i : Int) < L.length by omega, e1, r1, e4', z1]
        exact ⟨j, Nat.lt_succ_self j, by omega, ⟨md', wk', b', by simp [e1'], by simp [e2']⟩, by simp [hi2, z1]⟩)
  obtain ⟨⟨x, e', g'⟩, r1, r2, md, _, _, _, _⟩ := loop L.length ⟨[.agg [v], .int .u16 by_, .ptr h.n 0, .int .i64 0, .tup [], .tup []], 4, .int .i64 0⟩ h1 ⟨Nat.le_refl _, ⟨Mod.refl _ _, K1, g1, by simp, by simp⟩, by simp⟩
  simp only at r2
  subst r2
  rw [w16, f16, s16]
  simp [b1, r1]
  exact ⟨rfl, ((Mod.of x1).tr md).mono fun c _ hc => hc.1⟩
end Go.Proofs.Ytfjghgjkpenanaa
