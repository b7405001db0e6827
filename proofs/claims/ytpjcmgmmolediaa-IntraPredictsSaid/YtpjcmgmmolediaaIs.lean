/- The document's answer: long edges. -/
import Derived.Test.YtpjcmgmmolediaaIr
set_option linter.unusedVariables false
set_option linter.unusedSimpArgs false
namespace Go.Proofs.Ytpjcmgmmolediaa
open Go Go.Zf Go.RowKit

theorem ldV68 (h : H) (v : V) : ldV Try.prog 68 h v = ldn 2 h v := by
  cases v <;> first | rfl | kernel_rfl
theorem resVs68 (s : Nat → V) (h : H) (a : Nat) (rs : List ResultVar) : resVs Try.prog s h (.cell a 68 :: rs) = bd (ldn 2 h (s a)) fun v => bd (resVs Try.prog s h rs) fun vs => some (v :: vs) := by
  show bd (ldV Try.prog 68 h (s a)) _ = _
  rw [ldV68]

/-- A list of numbers from a rule. -/
def tab (f : Nat → Int) (m : Nat) : List Int := (List.range m).map f
theorem tab_length (f : Nat → Int) (m : Nat) : (tab f m).length = m := by simp [tab]
theorem tab_succ (f : Nat → Int) (m : Nat) : tab f (m + 1) = tab f m ++ [f m] := by simp [tab, List.range_succ]
theorem tab_get (f : Nat → Int) (m i : Nat) (h : i < m) : (tab f m).getD i 0 = f i := by simp [tab, h]

def lngF (l : List Int) (i : Nat) : Int := l.getD (min i (l.length - 1)) 0
def lngL (l : List Int) (c : Int) : List Int := [c, c, c, c] ++ tab (lngF l) (2 * l.length + 4)

/-- A long edge that is being made: a box with a slice that grows. -/
structure Box (q : Nat) (u : Int) (l : List Int) (g : H) (sv : V) : Prop where
  b : g.get q = some (.cells [sv, .int .i64 u] 68 false)
  s : GrowV (q + 1) g sv 3 1 (intsV l) l.length

/-- One number more. -/
theorem Box.push {q : Nat} {u : Int} {l : List Int} {g : H} {sv : V} (a : Box q u l g sv) (x : Int) (hl : l.length < 100000) :
    ∃ v' g1 g2, apZ 3 1 8 (g.new (.cells [.int .i64 x] 3 false)) sv (.sl g.n 0 1 (.ex 1)) = some (v', g1) ∧ g1.wr1 q 0 v' = some g2 ∧ (∀ h b o, stZ 1 h (.ptr b o) v' = (h.wr1 b o v').bind fun h' => some (.und, h')) ∧ Box q u (l ++ [x]) g2 v' ∧ (∀ c, c < q → g2.get c = g.get c) ∧ g.n ≤ g2.n := by
  have hq := H.get_lt a.b
  obtain ⟨v', g1, k1, k2, k3, k4⟩ := push1 (bytes := 8) (.int .i64 x) a.s (by omega) (by omega)
  have hb1 : g1.get q = some (.cells [sv, .int .i64 u] 68 false) := by rw [k4 q hq (a.s.fresh.ne (by omega)), a.b]
  refine ⟨v', g1, _, k1, by rw [wr1_of hb1 (by simp)], k2.stZ, ⟨by rw [get_put_same (H.get_lt hb1)]; rfl, ?_⟩, fun c hc => by rw [get_put_ne (by omega), k4 c (by omega) (a.s.fresh.ne (by omega))], by rw [H.n_put]; exact k3⟩
  rw [intsV_append, List.length_append]
  exact k2.put (k2.fresh.ne (by omega))

structure I38 (h0 : H) (v : V) (l : List Int) (q p0 : Nat) (c : Int) (M : Nat) (j : Nat) (en : E) (g : H) : Prop where
  hj : j < M
  x : ∀ b, b < q → b < h0.n → g.get b = h0.get b
  hn : h0.n ≤ g.n
  b : ∃ sv, Box q 0 ([c, c, c, c] ++ tab (lngF l) (M - j)) g sv
  e0 : en.s [0, 1, 4, 5, 6, 7] 0 = v
  e4 : en.s [0, 1, 4, 5, 6, 7] 4 = .ptr p0 0
  e5 : en.s [0, 1, 4, 5, 6, 7] 5 = .int .i64 l.length
  e6 : en.s [0, 1, 4, 5, 6, 7] 6 = .ptr q 0
  e7 : en.s [0, 1, 4, 5, 6, 7] 7 = .int .i64 ((M - j : Nat) : Int)

theorem long38_ok {p : Nat} {h : H} {v : V} {l : List Int} {c : Int} (G : GrowV p h v 3 1 (intsV l) l.length) (h0 : 0 < l.length) (h1 : l.length ≤ 64) :
    RT (fun w h' => Ext h h' ∧ ∃ sv, w = .agg [sv, .int .i64 0] ∧ GrowV h.n h' sv 3 1 (intsV (lngL l c)) (lngL l c).length) (KW 38 [v, .int .i64 c] h) := by
  obtain ⟨M, hM⟩ : ∃ M, M = 2 * l.length + 4 := ⟨_, rfl⟩
  obtain ⟨h1', hh1⟩ : ∃ g, g = (h.new (.cells [.nils, .int .i64 0] 68 false)).new (.cells [.int .i64 c, .int .i64 c, .int .i64 c, .int .i64 c] 3 false) := ⟨_, rfl⟩
  have x1 : Ext h h1' := by rw [hh1]; exact ((Ext.refl h).new _).new _
  have hn1 : h1'.n = h.n + 2 := by rw [hh1]; simp only [H.n_new]
  have g0 : h1'.get h.n = some (.cells [.nils, .int .i64 0] 68 false) := by rw [hh1, get_new_lt (by rw [H.n_new]; omega), get_new_same]
  have g1 : h1'.get (h.n + 1) = some (.cells [.int .i64 c, .int .i64 c, .int .i64 c, .int .i64 c] 3 false) := by rw [hh1, get_new_eq (by rw [H.n_new])]
  obtain ⟨h2, hh2⟩ : ∃ g, g = (h1'.new (.cells [.nils, .int .i64 0] 68 false)).put h1'.n (.cells [.sl (h.n + 1) 0 4 (.ex 4), .int .i64 0] 68 false) := ⟨_, rfl⟩
  have x2 : Ext h1' h2 := by rw [hh2]; exact ((Ext.refl h1').new _).put (Nat.le_refl _) _
  have g2 : h2.get h1'.n = some (.cells [.sl (h.n + 1) 0 4 (.ex 4), .int .i64 0] 68 false) := by rw [hh2, get_put_same (by rw [H.n_new]; omega)]
  have g1' : h2.get (h.n + 1) = _ := (x2.get _ (H.get_lt g1)).trans g1
  have g0' : h2.get h.n = _ := (x2.get _ (H.get_lt g0)).trans g0
  have zz : ∀ n : Int, -1000 ≤ n → n ≤ 1000 → IntKind.i64.wrap n = n := fun n a b => Go.Zf.wi64 (by omega) (by omega)
  have zM : IntKind.i64.wrap (2 * (l.length : Int)) = 2 * l.length := zz _ (by omega) (by omega)
  have zM2 : IntKind.i64.wrap (2 * (l.length : Int) + 4) = M := by rw [zz _ (by omega) (by omega)]; omega
  have zl : IntKind.i64.wrap ((l.length : Int) - 1) = (l.length : Int) - 1 := zz _ (by omega) (by omega)
  have GX := (G.ext x1).ext x2
  -- a read
  have rd : ∀ (g : H), (∀ b, b < h1'.n → b < h2.n → g.get b = h2.get b) → ∀ k : Nat, k < M → ∃ b o, (if (l.length : Int) - 1 < (k : Int) then (l.length : Int) - 1 else (k : Int)) = ((min k (l.length - 1) : Nat) : Int) ∧ iaS 1 v (.int .i64 ((min k (l.length - 1) : Nat) : Int)) = some (.ptr b o) ∧ g.rd1 b o = some (.int .i64 (lngF l k)) := by
    intro g hg k hk
    obtain ⟨b, o, q1, q2, q3⟩ := G.at (i := min k (l.length - 1)) (by omega) (intsV_get l (min k (l.length - 1)) (by omega))
    refine ⟨b, o, by split <;> omega, q1, ?_⟩
    have : g.get b = h.get b := by rw [hg b (by omega) (by have := x2.n; omega), x2.get b (by omega), x1.get b q3]
    unfold H.rd1; rw [this]; exact q2
  have hpush := push1_ex (p := h1'.n + 1) (e := 3) (bytes := 8) (h := h2) (.int .i64 (lngF l 0)) g1' (n := 4) rfl (by have := H.get_lt g2; omega) (by omega)
  obtain ⟨v3, h3, k3, G3, n3, f3⟩ := hpush
  have g3 : h3.get h1'.n = some (.cells [.sl (h.n + 1) 0 4 (.ex 4), .int .i64 0] 68 false) := by rw [f3 _ (H.get_lt g2), g2]
  obtain ⟨h4, hh4⟩ : ∃ g, g = h3.put h1'.n (.cells [v3, .int .i64 0] 68 false) := ⟨_, rfl⟩
  have B4 : Box h1'.n 0 ([c, c, c, c] ++ tab (lngF l) 1) h4 v3 := ⟨by rw [hh4, get_put_same (H.get_lt g3)], by
    have := G3.put (c := h1'.n) (y := .cells [v3, .int .i64 0] 68 false) (G3.fresh.ne (by omega))
    rw [hh4]
    simpa [intsV, tab] using this⟩
  have S3 := G3.stZ
  obtain ⟨b0, o0, q1, q2, q3⟩ := rd h2 (fun _ _ _ => rfl) 0 (by omega)
  simp only [Int.natCast_zero, Nat.zero_min] at q1 q2
  have loop := loop_run (body := l38_0 KW loopZ) (I38 h2 v l h1'.n h.n c M) (fun s => s.x = .ex 0 ∧ I38 h2 v l h1'.n h.n c M 0 s.e s.h)
    (fun j en g hi => by
      obtain ⟨hj, x, hn, ⟨sv, B⟩, p0, p4, p5, p6, p7⟩ := hi
      cases j with
      | zero =>
        simp [l38_0, p5, zM, zM2, p7]
        exact ⟨rfl, hj, x, hn, ⟨sv, B⟩, by simp [p0], by simp [p4], by simp, by simp [p6], by simp⟩
      | succ j =>
        obtain ⟨k, hk⟩ : ∃ k, k = M - (j + 1) := ⟨_, rfl⟩
        have hk2 : M - j = k + 1 := by omega
        rw [← hk] at p7 B
        have z3 : IntKind.i64.wrap ((k : Int) + 1) = k + 1 := zz _ (by omega) (by omega)
        obtain ⟨b, o, r1, r2, r3⟩ := rd g x k (by omega)
        obtain ⟨v', g1, g2, a1, a2, a3, a4, a5, a6⟩ := B.push (lngF l k) (by simp [tab_length]; omega)
        have hsv := B.s.same
        simp [l38_0, p5, zM, zM2, p7, show (k : Int) < M by omega, show k < M by omega, p6, rd1_of B.b, zl, r1, p0, r2, r3, bs, fillW, splice, a1, a3, a2, ck, hsv, V.same, z3]
        refine ⟨j, Nat.lt_succ_self j, by omega, fun b hb hb2 => by rw [a5 b hb, x b hb hb2], by omega, ⟨v', ?_⟩, by simp [p0], by simp [p4], by simp [p5], by simp [p6], by simp [hk2]⟩
        rw [hk2, tab_succ, ← List.append_assoc]; exact a4)
  have q2' : iaS 1 v (.int .i64 0) = some (.ptr b0 o0) := by simpa using q2
  have z1 : IntKind.i64.wrap 1 = 1 := zz _ (by omega) (by omega)
  obtain ⟨s, r1, r2, ⟨_, x5, hn5, ⟨sv, B5⟩, t0, t4, t5, t6, t7⟩⟩ := loop (M - 1) ⟨[v, .int .i64 c, .ptr h.n 0, .int .i64 l.length, .ptr h1'.n 0, .int .i64 1], 7, .int .i64 1⟩ h4
    ⟨by omega, fun b hb hb2 => by rw [hh4, get_put_ne (by omega), f3 b hb2], by rw [hh4, H.n_put]; exact n3, ⟨v3, by rw [show M - (M - 1) = 1 by omega]; exact B4⟩, by simp, by simp, by simp, by simp, by simp; omega⟩
  have hround : loopZ (l38_0 KW loopZ) ⟨[v, .int .i64 c, .ptr h.n 0, .int .i64 l.length, .ptr h1'.n 0, .int .i64 0], 7, .int .i64 0⟩ h2 = some s := by
    rw [loopZ_eq]
    simp [l38_0, zM, zM2, show (0 : Int) < M by omega, show 0 < M by omega, rd1_of g2, zl, show ¬ (l.length : Int) - 1 < 0 by omega, q2', q3, bs, fillW, splice, k3, S3, wr1_of g3, ← hh4, z1, r1]
  obtain ⟨x6, e6, h6⟩ := s
  simp only at r2 x5 hn5 B5 t0 t4 t5 t6 t7
  subst r2
  have hl2 : h.n < h2.n := H.get_lt g0'
  have g06 : h6.get h.n = _ := (x5 h.n (by omega) hl2).trans g0'
  have q6 := B5.b
  obtain ⟨h7, hh7⟩ : ∃ g, g = h6.put h.n (.cells [sv, .int .i64 0] 68 false) := ⟨_, rfl⟩
  have g7 : h7.get h.n = some (.cells [sv, .int .i64 0] 68 false) := by rw [hh7, get_put_same (H.get_lt g06)]
  rw [w38, f38, s38]
  simp [nw, G.len, bs, fillW, splice, H.n_new, ← hh1, bl, wrN_of (o := 0) get_new_same, ← hh2, hround, t6, t4, rdN_of (o := 0) (n := 2) q6 (by simp), wrN_of (o := 0) g06, ← hh7, resVs68, rdN_of (o := 0) (n := 2) g7 (by simp)]
  refine ⟨⟨by rw [hh7, H.n_put]; have := x2.n; have := x1.n; omega, fun b hb => ?_⟩, sv, rfl, ?_⟩
  · rw [hh7, get_put_ne (by omega), x5 b (by omega) (by have := x2.n; have := x1.n; omega), x2.get b (by omega), x1.get b hb]
  · have := B5.s
    rw [Nat.sub_zero, hM] at this
    rw [hh7]
    have := this.put (c := h.n) (y := .cells [sv, .int .i64 0] 68 false) (this.fresh.ne (by omega))
    rcases this with h | ⟨b, q1, q2, q3, q4⟩
    · exact .inl h
    · exact .inr ⟨b, q1, q2, q3, by omega⟩
end Go.Proofs.Ytpjcmgmmolediaa
