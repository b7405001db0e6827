/- RacEndless. -/
import Derived.Test.YtpikblkbeoophaaRq
set_option linter.unusedVariables false
set_option linter.unusedSimpArgs false
namespace Go.Proofs.Ytpikblkbeoophaa
open Go Go.Zf

/-- A decoder in a block of its own, from n on. -/
def DOne (h : H) (n p : Nat) (rest : List Nat) (code rng : Nat) : Prop := ∃ v, DecAt h (fun c => c = p) p v rest code rng ∧ n ≤ p ∧ p < h.n
theorem DOne.keep {h h' : H} {n p : Nat} {rest : List Nat} {code rng : Nat} (a : DOne h n p rest code rng) (hk : ∀ c, c < h.n → h'.get c = h.get c) (hn : h.n ≤ h'.n) : DOne h' n p rest code rng := by
  obtain ⟨v, a1, a2, a3⟩ := a
  exact ⟨v, a1.keep fun c hc _ => hk c hc, a2, by omega⟩
theorem done_take {h : H} {n p : Nat} {rest : List Nat} {code rng lo hi : Nat} (a : DOne h n p rest code rng) (inv : DInv code rng) (h1 : lo ≤ value code rng) (h2 : value code rng < hi) (h3 : hi ≤ 32768) :
    ∃ h', KK 24 [.ptr p 0, .int .u32 lo, .int .u32 hi] h = some (.ret (.int .i64 0), h') ∧ DOne h' n p (take rest code rng lo hi).1 (take rest code rng lo hi).2.1 (take rest code rng lo hi).2.2 ∧
      DInv (take rest code rng lo hi).2.1 (take rest code rng lo hi).2.2 ∧ Only h h' p := by
  obtain ⟨v, a1, a2, a3⟩ := a
  obtain ⟨h', v', k1, k2, k3⟩ := take24_ok a1 inv h1 h2 h3
  exact ⟨h', k1, ⟨v', k2, a2, by rw [k3.1]; exact a3⟩, (take_inv inv h1 h2 h3 a1.byte).1, k3⟩

/-- A part that is about a value, in a block of its own. -/
theorem about_new {h : H} {vl lo hi : Nat} (b3 : lo < 4294967296) (b4 : hi < 4294967296) :
    ∃ g1 g2 g3, KK 23 [.int .u32 vl, .agg [.int .u32 lo, .int .u32 hi]] h = some (.ret (.agg [.int .u32 (abt vl lo hi).1, .int .u32 (abt vl lo hi).2]), g1) ∧
      nw g1 31 [.int .u32 0, .int .u32 0] = some (.ptr g1.n 0, g2) ∧ stZ 2 g2 (.ptr g1.n 0) (.agg [.int .u32 (abt vl lo hi).1, .int .u32 (abt vl lo hi).2]) = some (.und, g3) ∧
      g3.get g1.n = some (.cells [.int .u32 (abt vl lo hi).1, .int .u32 (abt vl lo hi).2] 31 false) ∧ h.n ≤ g1.n ∧ g3.n = g1.n + 1 ∧ ∀ c, c < h.n → g3.get c = h.get c := by
  obtain ⟨g1, a1, a2, a3⟩ := about23_ok h vl lo hi b3 b4
  obtain ⟨g2, hg2⟩ : ∃ g, g = g1.new (.cells [.int .u32 0, .int .u32 0] 31 false) := ⟨_, rfl⟩
  have c2 : g2.get g1.n = some (.cells [.int .u32 0, .int .u32 0] 31 false) := by rw [hg2]; exact get_new_same
  have w := wrN_of c2 (o := 0) (vs := [.int .u32 (abt vl lo hi).1, .int .u32 (abt vl lo hi).2]) (by simp)
  refine ⟨g1, g2, g2.put g1.n (.cells [.int .u32 (abt vl lo hi).1, .int .u32 (abt vl lo hi).2] 31 false), a1, by rw [hg2]; rfl, ?_, get_put_same (H.get_lt c2), a2, by rw [H.n_put, hg2, H.n_new], fun c hc => by rw [get_put_ne (by omega), hg2, get_new_lt (by omega), a3 c hc]⟩
  simp [stZ, w, splice]

theorem loop6_0 {lv : V} {ps : List (Nat × Nat)} {n p : Nat} : ∀ (m i : Nat) (h : H) (e : E) (rest : List Nat) (code rng : Nat), m + i = 500 → PartsAt h lv ps → ps.length < 9223372036854775808 →
    (∀ b o l k, lv = .sl b o l k → b < n) → DOne h n p rest code rng → DInv code rng →
    e.s [0, 1, 4, 5, 6, 7, 8, 9, 11] 1 = lv → e.s [0, 1, 4, 5, 6, 7, 8, 9, 11] 5 = .ptr p 0 → e.s [0, 1, 4, 5, 6, 7, 8, 9, 11] 6 = .int .i64 i →
    ∃ e' h', loopZ (l6_0 KK loopZ) e h = some ⟨.ex 0, e', h'⟩
  | m, i, h, e, rest, code, rng, hm, hP, hpl, hlv, hT, hI, h1, h5, h6 => by
    by_cases hlt : i < ps.length
    · by_cases h500 : i < 500
      · obtain ⟨m, rfl⟩ : ∃ m', m = m' + 1 := ⟨m - 1, by omega⟩
        obtain ⟨lo, hi, hps⟩ : ∃ lo hi, ps[i]? = some (lo, hi) := ⟨_, _, List.getElem?_eq_getElem hlt⟩
        obtain ⟨b, b1, b2, b3, b4⟩ := hP.rd2 hps
        have hD := hT.choose_spec.1
        have hv1 := value21_ok hD hI
        have hvl : value code rng ≤ 32767 := by unfold value; omega
        have n1 := take24_no (lo := 0) (hi := value code rng) hD hI (by omega)
        have n2 := take24_no (lo := value code rng + 1) (hi := 32768) hD hI (by omega)
        have n3 := take24_no (lo := value code rng) (hi := value code rng) hD hI (by omega)
        have n4 := take24_no (lo := value code rng) (hi := 32769) hD hI (by omega)
        obtain ⟨q1, q2, q3⟩ := abt_ok (value code rng) lo hi hvl
        obtain ⟨g1, g2, g3, a1, a2, a3, a4, a5, a6, a7⟩ := about_new (h := h) (vl := value code rng) b3 b4
        obtain ⟨h', k1, k2, k3, k4⟩ := done_take (hT.keep a7 (by omega)) hI q1 q2 q3
        have hwr : IntKind.i64.wrap ((i : Int) + 1) = ((i + 1 : Nat) : Int) := by rw [wi64 (by omega) (by omega)]; simp
        obtain ⟨i1, hi1⟩ : ∃ i1, i1 = i + 1 := ⟨_, rfl⟩
        rw [← hi1] at hwr
        obtain ⟨tk, htk⟩ : ∃ tk, tk = take rest code rng (abt (value code rng) lo hi).1 (abt (value code rng) lo hi).2 := ⟨_, rfl⟩
        rw [← htk] at k2 k3
        have hPp : PartsAt h' lv ps := by
          rcases hP with a | ⟨b', k', c', e', ro', e1, e2, e3⟩
          · exact .inl a
          · have := hlv _ _ _ _ e1
            have := hT.choose_spec.2.1
            have := H.get_lt e2
            exact .inr ⟨b', k', c', e', ro', e1, by rw [k4.2 b' (by omega), a7 b' (by omega), e2], e3⟩
        obtain ⟨vl, hvv⟩ : ∃ x, x = value code rng := ⟨_, rfl⟩
        rw [← hvv] at hv1 n1 n2 n3 n4 a1 a3 a4 k1 hvl
        obtain ⟨ab, hab⟩ : ∃ ab, ab = abt vl lo hi := ⟨_, rfl⟩
        rw [← hab] at a1 a3 a4 k1
        have w1 : IntKind.u32.wrap ((vl : Int) + 1) = (vl : Int) + 1 := w32 (by omega) (by omega)
        simp at n1 n2 n4
        rw [loopZ_eq]
        by_cases c0 : 0 < vl
        · by_cases c7 : vl < 32767
          · simp [l6_0, h1, h5, h6, hP.len, hlt, show (i : Int) < ps.length by omega, h500, show (i : Int) < 500 by omega, hv1, show ¬ (32767 : Int) < vl by omega, show ¬ 32767 < vl by omega, c0, show (0 : Int) < vl by omega, n1, c7, show (vl : Int) < 32767 by omega, w1, n2, n3, n4, b1, b2, a1, a2, a3, rd1_of a4, k1, hwr]
            exact loop6_0 m i1 h' ⟨[_, lv, _, .ptr p 0, .int .i64 i1, _, _, _, _], 6, .int .i64 i1⟩ _ _ _ (by omega) hPp hpl hlv k2 k3 (by simp) (by simp) (by simp)
          · simp [l6_0, h1, h5, h6, hP.len, hlt, show (i : Int) < ps.length by omega, h500, show (i : Int) < 500 by omega, hv1, show ¬ (32767 : Int) < vl by omega, show ¬ 32767 < vl by omega, c0, show (0 : Int) < vl by omega, n1, c7, show ¬ (vl : Int) < 32767 by omega, w1, n2, n3, n4, b1, b2, a1, a2, a3, rd1_of a4, k1, hwr]
            exact loop6_0 m i1 h' ⟨[_, lv, _, .ptr p 0, .int .i64 i1, _, _, _, _], 6, .int .i64 i1⟩ _ _ _ (by omega) hPp hpl hlv k2 k3 (by simp) (by simp) (by simp)
        · have c7 : vl < 32767 := by omega
          simp [l6_0, h1, h5, h6, hP.len, hlt, show (i : Int) < ps.length by omega, h500, show (i : Int) < 500 by omega, hv1, show ¬ (32767 : Int) < vl by omega, show ¬ 32767 < vl by omega, c0, show ¬ (0 : Int) < vl by omega, n1, c7, show (vl : Int) < 32767 by omega, w1, n2, n3, n4, b1, b2, a1, a2, a3, rd1_of a4, k1, hwr]
          exact loop6_0 m i1 h' ⟨[_, lv, _, .ptr p 0, .int .i64 i1, _, _, _, _], 6, .int .i64 i1⟩ _ _ _ (by omega) hPp hpl hlv k2 k3 (by simp) (by simp) (by simp)
      · rw [loopZ_eq]
        simp [l6_0, h1, h5, h6, hP.len, hlt, show (i : Int) < ps.length by omega, h500, show ¬ (i : Int) < 500 by omega]
    · rw [loopZ_eq]
      simp [l6_0, h1, h5, h6, hP.len, hlt, show ¬ (i : Int) < ps.length by omega]

theorem endless6_ok {h : H} {lv bv : V} {ps : List (Nat × Nat)} {l : List Nat} (hP : PartsAt h lv ps) (hpl : ps.length < 9223372036854775808) (hB : SlB h bv l) (hl : l.length < 140737488355329) (hb : ∀ x ∈ l, x < 256) :
    ∃ h', KK 6 [bv, lv] h = some (.ret (.bool true), h') := by
  obtain ⟨h1, w1, w2, w3⟩ := works17_ok h
  obtain ⟨h2, p, v2, a2, b2, c2, c2', d2⟩ := read19_ok (hB.keep w3) hl hb
  have dd := b2 (fun c => c = p) rfl (fun c h1 h2 h3 h4 => h3 h4)
  have hP2 : PartsAt h2 lv ps := hP.keep (n := 0) fun c hc => by rw [d2 c (by omega), w3 c hc]
  have hlv : ∀ b o l k, lv = .sl b o l k → b < h1.n := fun b o l k e => by
    rcases hP with ⟨g, _⟩ | ⟨b', k', c', e', ro', g1, g2, g3⟩
    · rw [g] at e; cases e
    · rw [g1] at e; cases e; have := H.get_lt g2; omega
  obtain ⟨e3, h3, a3⟩ := loop6_0 500 0 h2 ⟨[bv, lv, .bool false, .ptr p 0, .int .i64 0, .und, .und, .und, .und], 6, .int .i64 0⟩ _ _ _ (by omega) hP2 hpl hlv ⟨v2, dd, c2, c2'⟩ (dread_inv hb).1 (by simp) (by simp) (by simp)
  refine ⟨h3, ?_⟩
  rw [KK, c6, f6, s6]
  simp at a3
  simp [w1, a2, a3]

theorem core6 {Hd : Type} {enc : TypeId × Value → Hd} {W : World} {base : Nat} {v0 v1 : Value} {d0 d1 : DataW Hd} {p0 p1 : List MemPlace}
    (hok : Value.okWide Try.prog W .any base 32 v0) (hd : DataW.Trod enc Try.prog W 0 (fun _ => true) true 32 v0 d0 p0)
    (hok1 : Value.okWide Try.prog W .any base 22 v1) (hd1 : DataW.Trod enc Try.prog W 0 (fun _ => true) true 22 v1 d1 p1)
    (hk : (DataW.weightsEach Try.prog [32, 22] [d0, d1]).all (· ≤ reachBytes) = true) :
    Calls Try.prog 6 #[v0, v1] W fun e W' => e = .returned (.bool true) ∧ Go.RowKit.Below W.heap.size W W' := by
  obtain ⟨i, h, x, l, a, _, hx, hB, n1, k1, hl, hb, hr, _⟩ := argBytes (ArgH.empty W) hok hd
  obtain ⟨i', h', y, ps, a', le, hy, hP, n2, k2, hpl⟩ := argParts a hok1 hd1
  have hl' := reach hk (j := 0) rfl rfl hr
  obtain ⟨h'', hrun⟩ := endless6_ok hP hpl (hB.keep k2) (by omega) hb
  exact law_calls (us := [v0, v1]) (callZ_ok mixed kp hrun) a'.rel (.cons (hx.mono le) (.cons hy .nil)) a'.dom a'.no
end Go.Proofs.Ytpikblkbeoophaa
