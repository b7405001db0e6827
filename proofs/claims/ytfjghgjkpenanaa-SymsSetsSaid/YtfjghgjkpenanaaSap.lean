/- step: both coders do the same. -/
import Derived.Test.YtfjghgjkpenanaaSan
import Derived.Test.YtfjghgjkpenanaaSaf
set_option linter.unusedVariables false
set_option linter.unusedSimpArgs false
set_option maxRecDepth 20000
namespace Go.Proofs.Ytfjghgjkpenanaa
open Go Go.Zf
open Go.Zf (wi64)

theorem CoderRef.more {D : Nat → Prop} {g : H} {p m m' : Nat} {st : St} (a : CoderRef D g p m st) (h1 : m ≤ m') (h2 : m' < 100000000) : CoderRef D g p m' st := by
  obtain ⟨vo, vi, vs, Ds, Dw, a1, a2, a3, a4, a5, a6, a7, a8, a9⟩ := a
  refine ⟨vo, vi, vs, Ds, Dw, a1, a2, a3.more h1, ?_, a5, a6, ⟨a7.1, by omega⟩, a8, a9⟩
  cases hs : st.sd with
  | w o lo r => rw [hs] at a4; exact ⟨a4.1, by have := a4.2.1; omega, h2⟩
  | r o lo r => rw [hs] at a4; exact ⟨a4.1, a4.2.1, h2⟩
theorem bits_wr : ∀ (j v out : Nat) (sd : Side), (bits j v out sd).2.writes = sd.writes
  | 0, v, out, sd => rfl
  | j + 1, v, out, sd => by rw [bits, bits_wr]; exact Side.code_writes _ _ _
theorem coder_ext {D : Nat → Prop} {h h' : H} {p m : Nat} {st : St} (a : CoderAt D h p m st) (x : Ext h h') : CoderAt (grow D h h') h' p m st ∧ Mod D h h' :=
  ⟨(a.keep x.n fun b _ hb => x.get b hb).mono fun b _ hb => .inl hb, Mod.of x⟩
theorem ref_ext {D : Nat → Prop} {h h' : H} {p m : Nat} {st : St} (a : CoderRef D h p m st) (x : Ext h h') : CoderRef (grow D h h') h' p m st ∧ Mod D h h' :=
  ⟨(a.ext x).mono fun b _ hb => .inl hb, Mod.of x⟩

/-- What is asked for, of both. -/
theorem both18 (x : Dd) {m : Nat} {st : St} (hm : m + 30 < 100000000) :
    ∃ (a er : Int) (st' : St) (m' : Nat), m ≤ m' ∧ m' ≤ m + 30 ∧ st'.sd.writes = st.sd.writes ∧ st'.ad = st.ad ∧
      (∀ D g p, CoderAt D g p m st → ∃ g', (if x.b then KW 29 [.ptr p 0, .int .i64 x.n, .int .i64 x.v] g = some (.ret (.tup [.int .i64 a, .int .i64 er]), g') else KW 30 [.ptr p 0, .int .i64 x.k, .int .i64 x.c, .int .i64 x.v] g = some (.ret (.tup [.int .i64 a, .int .i64 er]), g')) ∧ CoderAt (grow D g g') g' p m' st' ∧ Mod D g g') ∧
      (∀ D g p, CoderRef D g p m st → ∃ g', (if x.b then KW 45 [.ptr p 0, .int .i64 x.n, .int .i64 x.v] g = some (.ret (.tup [.int .i64 a, .int .i64 er]), g') else KW 41 [.ptr p 0, .int .i64 x.k, .int .i64 x.c, .int .i64 x.v] g = some (.ret (.tup [.int .i64 a, .int .i64 er]), g')) ∧ CoderRef (grow D g g') g' p m' st' ∧ Mod D g g') := by
  obtain ⟨b, n, k, c, v⟩ := x
  cases b with
  | true =>
    simp only [if_true]
    by_cases ok : 0 ≤ n ∧ n ≤ 30 ∧ (st.sd.writes = true → 0 ≤ v ∧ v < pw n.toNat)
    · obtain ⟨N, rfl⟩ : ∃ N : Nat, n = N := ⟨n.toNat, by omega⟩
      rw [Int.toNat_natCast] at ok
      refine ⟨st.numV N v.toNat, 0, st.num N v.toNat, m + N, by omega, by omega, bits_wr _ _ _ _, rfl, fun D g p C => ?_, fun D g p C => ?_⟩
      · obtain ⟨w, g', e, rfl, C', M⟩ := (bits29_ok (n := N) (v := v) C (by omega) (by omega) ok.2.2).elim
        exact ⟨g', e, C', M⟩
      · obtain ⟨w, g', e, rfl, C', M⟩ := (bits45_ok (n := N) (v := v) C (by omega) (by omega) ok.2.2).elim
        exact ⟨g', e, C', M⟩
    · refine ⟨0, 2, st, m, by omega, by omega, rfl, rfl, fun D g p C => ⟨g, bits29_bad C ok, ?_⟩, fun D g p C => ⟨g, bits45_bad C ok, ?_⟩⟩
      · exact coder_ext C (Ext.refl g)
      · exact ref_ext C (Ext.refl g)
  | false =>
    simp only [Bool.false_eq_true, if_false]
    by_cases ok1 : 0 ≤ k ∧ k < 32
    · obtain ⟨K, rfl⟩ : ∃ K : Nat, k = K := ⟨k.toNat, by omega⟩
      by_cases ok : 0 ≤ c ∧ c < cx K ∧ (st.sd.writes = true → 0 ≤ v ∧ v < vl K)
      · obtain ⟨cc, rfl⟩ : ∃ cc : Nat, c = cc := ⟨c.toNat, by omega⟩
        refine ⟨st.symV K cc v, 0, st.sym K cc v, m + 1, by omega, by omega, Side.code_writes _ _ _, rfl, fun D g p C => ?_, fun D g p C => ?_⟩
        · obtain ⟨w, g', e, rfl, C', M⟩ := (symbol30_ok (k := K) (c := cc) (v := v) C (by omega) (by omega) (by omega) ok.2.2).elim
          exact ⟨g', e, C', M⟩
        · obtain ⟨w, g', e, rfl, C', M⟩ := (symbol41_ok (k := K) (c := cc) (v := v) C (by omega) (by omega) (by omega) ok.2.2).elim
          exact ⟨g', e, C', M⟩
      · refine ⟨0, 2, st, m, by omega, by omega, rfl, rfl, fun D g p C => ?_, fun D g p C => ?_⟩
        · obtain ⟨w, g', e, rfl, X⟩ := (symbol30_bad (k := K) C (by omega) ok).elim
          exact ⟨g', e, coder_ext C X⟩
        · obtain ⟨w, g', e, rfl, X⟩ := (symbol41_bad (k := K) C (by omega) ok).elim
          exact ⟨g', e, ref_ext C X⟩
    · refine ⟨0, 41, st, m, by omega, by omega, rfl, rfl, fun D g p C => ?_, fun D g p C => ?_⟩
      · obtain ⟨w, g', e, rfl, X⟩ := (symbol30_no C ok1).elim
        exact ⟨g', e, coder_ext C X⟩
      · obtain ⟨w, g', e, rfl, X⟩ := (symbol41_no C ok1).elim
        exact ⟨g', e, ref_ext C X⟩

/-- Both coders, side by side, in blocks from h0 on. -/
structure Pair (h0 : H) (g : H) (p q m : Nat) (st : St) : Prop where
  q : ∃ D F, CoderAt D g p m st ∧ CoderRef F g q m st ∧ (∀ b, D b → h0.n ≤ b ∧ b < g.n ∧ ¬ F b) ∧ (∀ b, F b → h0.n ≤ b ∧ b < g.n)
theorem Pair.ext {h0 g g' : H} {p q m : Nat} {st : St} (a : Pair h0 g p q m st) (x : Ext g g') : Pair h0 g' p q m st := by
  obtain ⟨D, F, C, R, hD, hF⟩ := a.q
  have := x.n
  exact ⟨D, F, C.ext x, R.ext x, fun b hb => by have := hD b hb; exact ⟨this.1, by omega, this.2.2⟩, fun b hb => by have := hF b hb; omega⟩

theorem step18_ok {h0 g : H} {p q m : Nat} {st : St} (P : Pair h0 g p q m st) (X : Ext h0 g) (x : Dd) (hm : m + 30 < 100000000) :
    ∃ (st' : St) (m' : Nat), m' ≤ m + 30 ∧ st'.sd.writes = st.sd.writes ∧ st'.ad = st.ad ∧ RT (fun w g' => w = .bool true ∧ Pair h0 g' p q m' st' ∧ Ext h0 g') (KW 18 [.ptr p 0, .ptr q 0, .agg x.cells] g) := by
  obtain ⟨D, F, C, R, hD, hF⟩ := P.q
  obtain ⟨a, er, st', m', m1, m2, hwr, had, hp, hr⟩ := both18 x (st := st) hm
  refine ⟨st', m', m2, hwr, had, ?_⟩
  obtain ⟨g1, hg1⟩ : ∃ z, z = g.new (.cells x.cells 43 false) := ⟨_, rfl⟩
  have x1 : Ext g g1 := by rw [hg1]; exact (Ext.refl g).new _
  have n1 : g1.n = g.n + 1 := by rw [hg1, H.n_new]
  have r1 : g1.get g.n = some (.cells x.cells 43 false) := by rw [hg1, get_new_same]
  have hbx : bx g 43 (.agg x.cells) = some (.ptr g.n 0, g1) := by rw [hg1]; rfl
  obtain ⟨g2, c2, C2, M2⟩ := hp D g1 p (C.ext x1)
  have M2n := M2.n
  have R2 : CoderRef F g2 q m st := (R.ext x1).mod M2 fun b hb _ hd => (hD b hd).2.2 hb
  obtain ⟨g3, c3, R3, M3⟩ := hr F g2 q R2
  have M3n := M3.n
  have C3 : CoderAt (grow D g1 g2) g3 p m' st' := C2.keep M3.n fun b hb hb2 => M3.get b hb2 fun hf => by
    rcases hb with hb | hb
    · exact (hD b hb).2.2 hf
    · have := (hF b hf).2; omega
  have e32 := count32_ok C3
  obtain ⟨_, _, _, eN⟩ := R3.set
  have r2 : g2.get g.n = some (.cells x.cells 43 false) := by rw [M2.get g.n (by omega) (fun hd => by have := (hD _ hd).2.1; omega), r1]
  have r3 : g3.get g.n = some (.cells x.cells 43 false) := by rw [M3.get g.n (H.get_lt r2) (fun hd => by have := (hF _ hd).2; omega), r2]
  have rb : ∀ (g' : H), g'.get g.n = some (.cells x.cells 43 false) → g'.rd1 g.n 0 = some (.bool x.b) ∧ g'.rd1 g.n 1 = some (.int .i64 x.n) ∧ g'.rd1 g.n 2 = some (.int .i64 x.k) ∧ g'.rd1 g.n 3 = some (.int .i64 x.c) ∧ g'.rd1 g.n 4 = some (.int .i64 x.v) := fun g' hg => by
    refine ⟨?_, ?_, ?_, ?_, ?_⟩ <;> rw [rd1_of hg] <;> rfl
  obtain ⟨s0, s1, s2, s3, s4⟩ := rb g1 r1
  obtain ⟨t0, t1, t2, t3, t4⟩ := rb g2 r2
  have fin : Pair h0 g3 p q m' st' ∧ Ext h0 g3 := by
    have hx := X.n
    refine ⟨⟨grow D g1 g2, grow F g2 g3, C3, R3, fun b hb => ?_, fun b hb => ?_⟩, M3.ext (M2.ext (X.trans x1) fun c hc h => by have := (hD _ h).1; omega) fun c hc h => by have := (hF _ h).1; omega⟩
    · rcases hb with hb | hb
      · have := hD b hb
        refine ⟨this.1, by omega, ?_⟩
        rintro (h | h)
        · exact this.2.2 h
        · omega
      · refine ⟨by omega, by omega, ?_⟩
        rintro (h | h)
        · have := (hF b h).2; omega
        · omega
    · rcases hb with hb | hb
      · have := hF b hb; omega
      · omega
  rw [w18, f18, s18]
  cases hb : x.b with
  | true =>
    rw [hb] at s0 c2 c3
    simp only [if_true] at c2 c3
    simp [hbx, s0, s1, s4, c2, t1, t4, c3, gl_t, e32, eN, ck, V.same]
    exact ⟨rfl, fin⟩
  | false =>
    rw [hb] at s0 c2 c3
    simp only [Bool.false_eq_true, if_false] at c2 c3
    simp [hbx, s0, s2, s3, s4, c2, t2, t3, t4, c3, gl_t, e32, eN, ck, V.same]
    exact ⟨rfl, fin⟩
end Go.Proofs.Ytfjghgjkpenanaa
