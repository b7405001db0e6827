/- RacTakes: its loop, the call. -/
import Derived.Test.YtpikblkbeoophaaRp
set_option linter.unusedVariables false
set_option linter.unusedSimpArgs false
namespace Go.Proofs.Ytpikblkbeoophaa
open Go Go.Zf

theorem PartsAt.rd2 {h : H} {v : V} {ps : List (Nat × Nat)} (a : PartsAt h v ps) {i lo hi : Nat} (hps : ps[i]? = some (lo, hi)) :
    ∃ b, iaS 2 v (.int .i64 i) = some (.ptr b (i * 2)) ∧ h.rdN b (i * 2) 2 = some [.int .u32 lo, .int .u32 hi] ∧ lo < 4294967296 ∧ hi < 4294967296 := by
  rcases a with ⟨rfl, rfl⟩ | ⟨b, k, c, e, ro, rfl, h2, h3⟩
  · simp at hps
  · have hl := (List.getElem?_eq_some_iff.mp hps).1
    obtain ⟨h4, h5, h6, h7⟩ := h3 i lo _ hps
    have hc := (List.getElem?_eq_some_iff.mp h7).1
    refine ⟨b, by simp [hl], ?_, h4, h5⟩
    rw [rdN_of h2 (by omega)]
    congr 1
    apply List.ext_getElem?
    intro j
    rw [List.getElem?_take]
    match j with
    | 0 => simpa using h6
    | 1 => simpa using h7
    | j + 2 => simp; omega

def DEnd (h : H) (n p q : Nat) : Prop := ∃ at_ rest code rng, DTwo h n p q at_ rest code rng ∧ DInv code rng

theorem loop4_1 {lv : V} {ps : List (Nat × Nat)} {n p q : Nat} : ∀ (m i : Nat) (h : H) (e : E) (at_ : Nat) (rest : List Nat) (code rng : Nat), m + i = 300 → PartsAt h lv ps → ps.length < 9223372036854775808 →
    (∀ b o l k, lv = .sl b o l k → b < n) → DTwo h n p q at_ rest code rng → DInv code rng → at_ ≤ 4 + 3 * i →
    e.s [0, 1, 4, 5, 6, 7, 8, 9, 10, 11, 12, 13, 14, 15, 17] 1 = lv → e.s [0, 1, 4, 5, 6, 7, 8, 9, 10, 11, 12, 13, 14, 15, 17] 6 = .ptr p 0 → e.s [0, 1, 4, 5, 6, 7, 8, 9, 10, 11, 12, 13, 14, 15, 17] 7 = .ptr q 0 → e.s [0, 1, 4, 5, 6, 7, 8, 9, 10, 11, 12, 13, 14, 15, 17] 9 = .int .i64 i →
    ∃ e' h', loopZ (l4_1 KK loopZ) e h = some ⟨.ex 2, e', h'⟩ ∧ DEnd h' n p q ∧
      e'.s [0, 1, 4, 5, 6, 7, 8, 9, 10, 11, 12, 13, 14, 15, 17] 6 = .ptr p 0 ∧ e'.s [0, 1, 4, 5, 6, 7, 8, 9, 10, 11, 12, 13, 14, 15, 17] 7 = .ptr q 0
  | m, i, h, e, at_, rest, code, rng, hm, hP, hpl, hlv, hT, hI, hat, h1, h6, h7, h9 => by
    by_cases hlt : i < ps.length
    · by_cases h300 : i < 300
      · obtain ⟨m, rfl⟩ : ∃ m', m = m' + 1 := ⟨m - 1, by omega⟩
        obtain ⟨lo, hi, hps⟩ : ∃ lo hi, ps[i]? = some (lo, hi) := ⟨_, _, List.getElem?_eq_getElem hlt⟩
        obtain ⟨b, b1, b2, b3, b4⟩ := hP.rd2 hps
        have hv1 := value21_ok hT.d.choose_spec hI
        have hv2 := value22_ok hT.r hI
        have hvl : value code rng ≤ 32767 := by unfold value; omega
        obtain ⟨vl, hvv⟩ : ∃ x, x = value code rng := ⟨_, rfl⟩
        rw [← hvv] at hv1 hv2 hvl
        have hwr : IntKind.i64.wrap ((i : Int) + 1) = ((i + 1 : Nat) : Int) := by rw [wi64 (by omega) (by omega)]; simp
        obtain ⟨i1, hi1⟩ : ∃ i1, i1 = i + 1 := ⟨_, rfl⟩
        rw [← hi1] at hwr
        have hpl' := hT.lp
        have hql' := hT.lq
        -- the part's own block
        obtain ⟨g1, hg1⟩ : ∃ g, g = h.new (.cells [.int .u32 0, .int .u32 0] 31 false) := ⟨_, rfl⟩
        have c1 : g1.get h.n = some (.cells [.int .u32 0, .int .u32 0] 31 false) := by rw [hg1]; exact get_new_same
        have w1 := fun (vs : List V) (hv : vs.length = 2) => wrN_of c1 (o := 0) (vs := vs) (by simp [hv])
        obtain ⟨g2, hg2⟩ : ∃ g, g = g1.put h.n (.cells [.int .u32 lo, .int .u32 hi] 31 false) := ⟨_, rfl⟩
        have c2 : g2.get h.n = some (.cells [.int .u32 lo, .int .u32 hi] 31 false) := by rw [hg2]; exact get_put_same (H.get_lt c1)
        have n2 : g2.n = h.n + 1 := by rw [hg2, H.n_put, hg1, H.n_new]
        have k2 : ∀ c, c < h.n → g2.get c = h.get c := fun c hc => by rw [hg2, get_put_ne (by omega), hg1, get_new_lt hc]
        have T2 := hT.keep k2 (by omega)
        have P2 : PartsAt g2 lv ps := hP.keep (n := 0) k2
        have tm : (i : Int).tmod 4 = ((i % 4 : Nat) : Int) := by rw [Int.tmod_eq_emod_of_nonneg (by omega)]; rfl
        obtain ⟨r4, hr4⟩ : ∃ r, r = i % 4 := ⟨_, rfl⟩
        have tm' : (i : Int).tmod 4 = (r4 : Int) := by rw [hr4]; exact tm
        by_cases hi4 : 0 < r4
        · obtain ⟨g3, a1, a2, a3⟩ := about23_ok g2 vl lo hi b3 b4
          have c3 : g3.get h.n = some (.cells [.int .u32 lo, .int .u32 hi] 31 false) := by rw [a3 _ (by omega), c2]
          have w3 := fun (vs : List V) (hv : vs.length = 2) => wrN_of c3 (o := 0) (vs := vs) (by simp [hv])
          obtain ⟨x, hx⟩ : ∃ x, x = (abt vl lo hi).1 := ⟨_, rfl⟩
          obtain ⟨y, hy⟩ : ∃ y, y = (abt vl lo hi).2 := ⟨_, rfl⟩
          rw [← hx, ← hy] at a1
          obtain ⟨g4, hg4⟩ : ∃ g, g = g3.put h.n (.cells [.int .u32 x, .int .u32 y] 31 false) := ⟨_, rfl⟩
          have c4 : g4.get h.n = some (.cells [.int .u32 x, .int .u32 y] 31 false) := by rw [hg4]; exact get_put_same (H.get_lt c3)
          have n4 : g4.n = g3.n := by rw [hg4, H.n_put]
          have k4 : ∀ c, c < h.n → g4.get c = h.get c := fun c hc => by rw [hg4, get_put_ne (by omega), a3 c (by omega), k2 c hc]
          have T4 := hT.keep k4 (by omega)
          have P4 : PartsAt g4 lv ps := hP.keep (n := 0) k4
          obtain ⟨r, g5, g6, at', rest', code', rng', j1, j2, j3, j4, j5, j6, j7, j8, j9⟩ := dtwo_take T4 hI (by omega) x y
          have c5 : g5.get h.n = some (.cells [.int .u32 x, .int .u32 y] 31 false) := by rw [j8 _ (by omega), c4]
          have P6 : PartsAt g6 lv ps := by
            rcases P4 with a | ⟨b', k', c', e', ro', e1, e2, e3⟩
            · exact .inl a
            · have := hlv _ _ _ _ e1
              have := hT.np
              have := hT.nq
              exact .inr ⟨b', k', c', e', ro', e1, by rw [j9 b' (by omega), j8 b' (by omega), e2], e3⟩
          rw [loopZ_eq]
          simp [l4_1, h1, h6, h7, h9, hP.len, hlt, show (i : Int) < ps.length by omega, h300, show (i : Int) < 300 by omega, hv1, hv2, b1, b2, nw, ← hg1, stZ, w1, ← hg2, tm', hi4, show (0 : Int) < r4 by omega, rdN_of c2 (o := 0) (n := 2) (by simp), a1, w3, ← hg4, rd1_of c4, j1, rd1_of c5, j2, hwr, splice]
          exact loop4_1 m i1 g6 ⟨[_, lv, _, _, .ptr p 0, .ptr q 0, _, .int .i64 i1, _, _, _, _, _, _, _], 9, .int .i64 i1⟩ at' rest' code' rng' (by omega) P6 hpl hlv j3 j4 (by omega) (by simp) (by simp) (by simp) (by simp)
        · obtain ⟨r, g5, g6, at', rest', code', rng', j1, j2, j3, j4, j5, j6, j7, j8, j9⟩ := dtwo_take T2 hI (by omega) lo hi
          have c5 : g5.get h.n = some (.cells [.int .u32 lo, .int .u32 hi] 31 false) := by rw [j8 _ (by omega), c2]
          have P6 : PartsAt g6 lv ps := by
            rcases P2 with a | ⟨b', k', c', e', ro', e1, e2, e3⟩
            · exact .inl a
            · have := hlv _ _ _ _ e1
              have := hT.np
              have := hT.nq
              exact .inr ⟨b', k', c', e', ro', e1, by rw [j9 b' (by omega), j8 b' (by omega), e2], e3⟩
          rw [loopZ_eq]
          simp [l4_1, h1, h6, h7, h9, hP.len, hlt, show (i : Int) < ps.length by omega, h300, show (i : Int) < 300 by omega, hv1, hv2, b1, b2, nw, ← hg1, stZ, w1, ← hg2, tm', hi4, show ¬ (0 : Int) < r4 by omega, rd1_of c2, j1, rd1_of c5, j2, hwr, splice]
          exact loop4_1 m i1 g6 ⟨[_, lv, _, _, .ptr p 0, .ptr q 0, _, .int .i64 i1, _, _, _, _, _, _, _], 9, .int .i64 i1⟩ at' rest' code' rng' (by omega) P6 hpl hlv j3 j4 (by omega) (by simp) (by simp) (by simp) (by simp)
      · rw [loopZ_eq]
        simp [l4_1, h1, h6, h7, h9, hP.len, hlt, show (i : Int) < ps.length by omega, h300, show ¬ (i : Int) < 300 by omega]
        exact ⟨_, _, ⟨rfl, rfl⟩, ⟨_, _, _, _, hT, hI⟩, by simp, by simp⟩
    · rw [loopZ_eq]
      simp [l4_1, h1, h6, h7, h9, hP.len, hlt, show ¬ (i : Int) < ps.length by omega]
      exact ⟨_, _, ⟨rfl, rfl⟩, ⟨_, _, _, _, hT, hI⟩, by simp, by simp⟩

theorem takes4_ok {h : H} {lv bv : V} {ps : List (Nat × Nat)} {l : List Nat} (hP : PartsAt h lv ps) (hpl : ps.length < 9223372036854775808) (hB : SlB h bv l) (hl : l.length < 140737488355329) (hb : ∀ x ∈ l, x < 256) :
    ∃ h', KK 4 [bv, lv] h = some (.ret (.bool true), h') := by
  obtain ⟨h1, v1, a1, b1, c1, d1⟩ := copy18_ok hB hl
  obtain ⟨h2, p, v2, a2, b2, c2, c2', d2⟩ := read19_ok b1.slb hl hb
  obtain ⟨h3, q, at3, a3, b3, f3, c3, c3', d3⟩ := read20_ok (hB.keep (h' := h2) fun c hc => by rw [d2 c (by omega), d1 c hc]) hl hb
  have dd := b2 (fun c => c = p ∨ c = q) (.inl rfl) (fun c h1 h2 h3 h4 => by rcases h4 with e | e; exact h3 e; omega)
  have rr := b3 (fun c => c = p ∨ c = q) (.inr rfl) (fun c h1 h2 h3 h4 => by rcases h4 with e | e; omega; exact h3 e)
  have T3 : DTwo h3 h1.n p q at3 (dread l).1 (dread l).2 4294967295 :=
    ⟨⟨v2, dd.keep fun c hc _ => d3 c hc⟩, rr, by omega, by omega, by omega, by omega, by omega⟩
  have hx : lnS v1 = some (.int .i64 l.length) ∧ ∃ b, (b < h1.n ∨ l = []) ∧ (0 < l.length → h.n ≤ b ∧ ∃ k c, v1 = .sl b 0 l.length k ∧ h1.get b = some (.cells c 5 false) ∧ ∀ j, j < l.length → ∃ x : Int, c[j]? = some (.int .u8 x)) := by
    rcases b1 with ⟨rfl, rfl⟩ | ⟨b, k, rfl, rfl, g1, g2⟩ | ⟨b, rfl, g1, g2, g3⟩
    · exact ⟨by simp, 0, .inr rfl, fun h => by simp at h⟩
    · exact ⟨by simp, 0, .inr rfl, fun h => by simp at h⟩
    · exact ⟨by simp, b, .inl (H.get_lt g3), fun _ => ⟨g1, _, _, rfl, g3, fun j hj => ⟨(l[j] : Nat), by simp [bytesV, hj]⟩⟩⟩
  obtain ⟨hx1, b, hbl, hx2⟩ := hx
  obtain ⟨e4, h4, a4, n4, k4, q1, q2, q3⟩ := loop4_0 hx1 (b := if l = [] then h3.n else b) (by omega) l.length 0 h3 ⟨[bv, lv, .bool false, v1, .ptr p 0, .ptr q 0, .int .i64 0, .und, .und, .und, .und, .und, .und, .und, .und], 8, .int .i64 0⟩ (by omega)
    (fun hpos => by
      have hne : l ≠ [] := by rintro rfl; simp at hpos
      obtain ⟨g0, k, c, g1, g2, g3⟩ := hx2 hpos
      have := H.get_lt g2
      exact ⟨k, c, by rw [if_neg hne]; exact g1, by rw [if_neg hne, d3 b (by omega), d2 b (by omega), g2], g3⟩) (by simp) (by simp)
  simp at q1 q2 q3
  have hk4 : ∀ c, c < h3.n → (h1.n ≤ c ∨ c < h.n) → h4.get c = h3.get c := by
    intro c hc hor
    refine k4 c ?_
    by_cases hne : l = []
    · rw [if_pos hne]; omega
    · rw [if_neg hne]
      have hpos : 0 < l.length := List.length_pos_iff.mpr hne
      obtain ⟨g0, _⟩ := hx2 hpos
      rcases hbl with g | g
      · omega
      · exact absurd g hne
  -- the decoders' bytes lie in new blocks
  have dd' := b2 (fun c => c = p ∨ c = q ∨ c < h1.n) (.inl rfl) (fun c h1 h2 h3 h4 => by rcases h4 with e | e | e; exact h3 e; omega; omega)
  have rr' := b3 (fun c => c = p ∨ c = q ∨ c < h1.n) (.inr (.inl rfl)) (fun c h1 h2 h3 h4 => by rcases h4 with e | e | e; omega; exact h3 e; omega)
  have dd3 := dd'.keep (h' := h3) fun c hc _ => d3 c hc
  have T4 : DTwo h4 h1.n p q at3 (dread l).1 (dread l).2 4294967295 := by
    refine ⟨⟨v2, ?_⟩, ?_, T3.ne, T3.np, T3.nq, by rw [n4]; exact T3.lp, by rw [n4]; exact T3.lq⟩
    · have := dd3.keep (h' := h4) fun c hc hx => hk4 c hc (.inl (by rcases hx with rfl | hx; omega; exact Nat.le_of_not_lt fun hlt => hx (.inr (.inr hlt))))
      exact ⟨this.cell, .inl rfl, this.sl.mono fun b _ hX hY => hX (by rcases hY with e | e; exact .inl e; exact .inr (.inl e)), this.byte⟩
    · have := rr'.keep (h' := h4) fun c hc hx => hk4 c hc (.inl (by rcases hx with rfl | hx; omega; exact Nat.le_of_not_lt fun hlt => hx (.inr (.inr hlt))))
      obtain ⟨⟨v, B, r1, r2, r3, r4⟩, r5, r6⟩ := this
      exact ⟨⟨v, B, r1, r2.mono fun b _ hX hY => hX (by rcases hY with e | e; exact .inl e; exact .inr (.inl e)), r3, r4⟩, .inr rfl, r6⟩
  have P4 : PartsAt h4 lv ps := by
    refine hP.keep (n := 0) fun c hc => ?_
    rw [hk4 c (by omega) (.inr hc), d3 c (by omega), d2 c (by omega), d1 c hc]
  have hlv : ∀ b o l k, lv = .sl b o l k → b < h1.n := fun b o l k e => by
    rcases hP with ⟨g, _⟩ | ⟨b', k', c', e', ro', g1, g2, g3⟩
    · rw [g] at e; cases e
    · rw [g1] at e; cases e; have := H.get_lt g2; omega
  have hInv := dread_inv hb
  obtain ⟨e5, h5, a5, ⟨at5, rest5, code5, rng5, T5, I5⟩, q6, q7⟩ := loop4_1 300 0 h4 ⟨[e4.s [0, 1, 4, 5, 6, 7, 8, 9, 10, 11, 12, 13, 14, 15, 17] 0, lv, e4.s [0, 1, 4, 5, 6, 7, 8, 9, 10, 11, 12, 13, 14, 15, 17] 4, e4.s [0, 1, 4, 5, 6, 7, 8, 9, 10, 11, 12, 13, 14, 15, 17] 5, .ptr p 0, .ptr q 0, e4.s [0, 1, 4, 5, 6, 7, 8, 9, 10, 11, 12, 13, 14, 15, 17] 8, .int .i64 0,
    e4.s [0, 1, 4, 5, 6, 7, 8, 9, 10, 11, 12, 13, 14, 15, 17] 10, e4.s [0, 1, 4, 5, 6, 7, 8, 9, 10, 11, 12, 13, 14, 15, 17] 11, e4.s [0, 1, 4, 5, 6, 7, 8, 9, 10, 11, 12, 13, 14, 15, 17] 12, e4.s [0, 1, 4, 5, 6, 7, 8, 9, 10, 11, 12, 13, 14, 15, 17] 13, e4.s [0, 1, 4, 5, 6, 7, 8, 9, 10, 11, 12, 13, 14, 15, 17] 14, e4.s [0, 1, 4, 5, 6, 7, 8, 9, 10, 11, 12, 13, 14, 15, 17] 15, e4.s [0, 1, 4, 5, 6, 7, 8, 9, 10, 11, 12, 13, 14, 15, 17] 17], 9, .int .i64 0⟩ at3 _ _ _ (by omega) P4 hpl hlv T4 hInv.1 (by omega) (by simp) (by simp) (by simp) (by simp)
  have hv1 := value21_ok T5.d.choose_spec I5
  have hv2 := value22_ok T5.r I5
  obtain ⟨h6, w1, w2, w3⟩ := works17_ok h5
  refine ⟨h6, ?_⟩
  rw [KK, c4, f4, s4]
  simp at a5 a4
  simp [a1, a2, a3, a4, q1, q2, q3, a5, q6, q7, hv1, hv2, w1]

theorem core4 {Hd : Type} {enc : TypeId × Value → Hd} {W : World} {base : Nat} {v0 v1 : Value} {d0 d1 : DataW Hd} {p0 p1 : List MemPlace}
    (hok : Value.okWide Try.prog W .any base 32 v0) (hd : DataW.Trod enc Try.prog W 0 (fun _ => true) true 32 v0 d0 p0)
    (hok1 : Value.okWide Try.prog W .any base 22 v1) (hd1 : DataW.Trod enc Try.prog W 0 (fun _ => true) true 22 v1 d1 p1)
    (hk : (DataW.weightsEach Try.prog [32, 22] [d0, d1]).all (· ≤ reachBytes) = true) :
    Calls Try.prog 4 #[v0, v1] W fun e W' => e = .returned (.bool true) ∧ Go.RowKit.Below W.heap.size W W' := by
  obtain ⟨i, h, x, l, a, _, hx, hB, n1, k1, hl, hb, hr, _⟩ := argBytes (ArgH.empty W) hok hd
  obtain ⟨i', h', y, ps, a', le, hy, hP, n2, k2, hpl⟩ := argParts a hok1 hd1
  have hl' := reach hk (j := 0) rfl rfl hr
  obtain ⟨h'', hrun⟩ := takes4_ok hP hpl (hB.keep k2) (by omega) hb
  exact law_calls (us := [v0, v1]) (callZ_ok mixed kp hrun) a'.rel (.cons (hx.mono le) (.cons hy .nil)) a'.dom a'.no
end Go.Proofs.Ytpikblkbeoophaa
