/- RacPuts: its loops. -/
import Derived.Test.YtpikblkbeoophaaRm
set_option linter.unusedVariables false
set_option linter.unusedSimpArgs false
namespace Go.Proofs.Ytpikblkbeoophaa
open Go Go.Zf

theorem EncAt.keep {h h' : H} {q : Nat} {t : TypeId} {w : V} {out : List Nat} {low : Nat} {rng : V} (a : EncAt h q t w out low rng) (hk : ∀ c, fp q w c → c < h.n → h'.get c = h.get c) : EncAt h' q t w out low rng := by
  refine ⟨by rw [hk q (.inl rfl) (H.get_lt a.cell), a.cell], ?_, a.byte, a.low64⟩
  rcases a.grow with g | ⟨b, g1, g2, g3⟩
  · exact .inl g
  · exact .inr ⟨b, g1, g2, by rw [hk b (.inr ⟨_, _, _, g1⟩) (H.get_lt g3), g3]⟩
theorem EncAt.fp_lt {h : H} {q : Nat} {t : TypeId} {w : V} {out : List Nat} {low : Nat} {rng : V} (a : EncAt h q t w out low rng) : ∀ c, fp q w c → c < h.n := by
  rintro c (rfl | ⟨o, n, k, rfl⟩)
  · exact H.get_lt a.cell
  · rcases a.grow with ⟨g, _⟩ | ⟨b, g1, g2, g3⟩
    · cases g
    · cases g1; exact H.get_lt g3

/-- The program's encoder and the reference's, alike, in blocks of their own from n on. -/
def Two (h : H) (n p q : Nat) (out : List Nat) (low rng : Nat) : Prop :=
  ∃ v w, EncAt h p 52 v out low (.int .u32 rng) ∧ EncAt h q 56 w out low (.int .u64 rng) ∧ (∀ c, fp p v c → n ≤ c) ∧ (∀ c, fp q w c → n ≤ c) ∧ (∀ c, fp p v c → fp q w c → False) ∧ n ≤ h.n

theorem Two.keep {h h' : H} {n p q : Nat} {out : List Nat} {low rng : Nat} (a : Two h n p q out low rng) (hk : ∀ c, c < h.n → h'.get c = h.get c) (hn : h.n ≤ h'.n) : Two h' n p q out low rng := by
  obtain ⟨v, w, a1, a2, a3, a4, a5, a6⟩ := a
  exact ⟨v, w, a1.keep fun c _ hc => hk c hc, a2.keep fun c _ hc => hk c hc, a3, a4, a5, by omega⟩

theorem Own.fp {h h' : H} {p : Nat} {v v' : V} (a : Own h h' p v v') : ∀ c, fp p v' c → fp p v c ∨ h.n ≤ c := by
  rintro c (e | ⟨o, n, k, e⟩)
  · exact .inl (.inl e)
  · rcases a.nw with e1 | e1
    · exact .inl (.inr ⟨o, n, k, by rw [← e1, e]⟩)
    · exact .inr (e1 c o n k e)

theorem two_put {h : H} {n p q : Nat} {out : List Nat} {low rng : Nat} (a : Two h n p q out low rng) (inv : EInv low rng) (hlen : out.length < 1099511627000) (lo hi : Nat) :
    ∃ r h1 h2 out' low' rng', KK 12 [.ptr p 0, .int .u32 lo, .int .u32 hi] h = some (.ret (.int .i64 r), h1) ∧ KK 13 [.ptr q 0, .int .u32 lo, .int .u32 hi] h1 = some (.ret (.int .i64 r), h2) ∧
      Two h2 n p q out' low' rng' ∧ EInv low' rng' ∧ out'.length ≤ out.length + 3 ∧ (∀ c, c < n → h1.get c = h.get c) ∧ (∀ c, c < n → h2.get c = h1.get c) := by
  obtain ⟨v, w, a1, a2, a3, a4, a5, a6⟩ := a
  by_cases hc : lo < hi ∧ hi ≤ 32768
  · obtain ⟨h1, v1, k1, k2, k3⟩ := put12_ok a1 inv hlen hc.1 hc.2
    have hq1 : EncAt h1 q 56 w out low (.int .u64 rng) := a2.keep fun c hc hl => k3.fr.2 c hl fun hf => a5 c hf hc
    obtain ⟨h2, w2, l1, l2, l3⟩ := put13_ok hq1 inv hlen hc.1 hc.2
    have n1 := k3.fr.1
    have n2 := l3.fr.1
    have hf1 := k3.fp
    have hf2 := l3.fp
    have hp2 : EncAt h2 p 52 v1 (put out low rng lo hi).1 (put out low rng lo hi).2.1 (.int .u32 (put out low rng lo hi).2.2) := k2.keep fun c hc hl => l3.fr.2 c hl fun hf => by
      rcases hf1 c hc with h3 | h3
      · exact a5 c h3 hf
      · have := a2.fp_lt c hf; omega
    refine ⟨0, h1, h2, _, _, _, k1, l1, ⟨v1, w2, hp2, l2, fun c hc => ?_, fun c hc => ?_, fun c hc hd => ?_, by omega⟩, (put_inv inv hc.1 hc.2).1, (put_inv inv hc.1 hc.2).2, fun c hc => k3.fr.2 c (by omega) fun hf => ?_, fun c hc => l3.fr.2 c (by omega) fun hf => ?_⟩
    · rcases hf1 c hc with h3 | h3
      · exact a3 c h3
      · omega
    · rcases hf2 c hc with h3 | h3
      · exact a4 c h3
      · omega
    · rcases hf2 c hd with h4 | h4
      · rcases hf1 c hc with h3 | h3
        · exact a5 c h3 h4
        · have := a2.fp_lt c h4; omega
      · have := k2.fp_lt c hc; omega
    · have := a3 c hf; omega
    · have := a4 c hf; omega
  · exact ⟨2, h, h, out, low, rng, put12_no a1 inv hc, put13_no hc, ⟨v, w, a1, a2, a3, a4, a5, a6⟩, inv, by omega, fun _ _ => rfl, fun _ _ => rfl⟩

/-- Both sides' bytes are the same. -/
theorem two_bytes {h : H} {n p q : Nat} {out : List Nat} {low rng : Nat} (a : Two h n p q out low rng) (inv : EInv low rng) (hlen : out.length < 1099511627000) :
    ∃ h1 h2 x y l, KK 14 [.ptr p 0] h = some (.ret x, h1) ∧ KK 16 [.ptr q 0] h1 = some (.ret y, h2) ∧ KK 15 [x, y] h2 = some (.ret (.bool true), h2) ∧ Wr h2 h.n x l ∧ l.length < 9223372036854775807 ∧
      h.n ≤ h1.n ∧ h1.n ≤ h2.n ∧ (∀ c, c < h.n → h1.get c = h.get c) ∧ (∀ c, c < h1.n → h2.get c = h1.get c) := by
  obtain ⟨v, w, a1, a2, a3, a4, a5, a6⟩ := a
  obtain ⟨h1, x, k1, k2, k3, k4⟩ := bytes14_wr a1 inv hlen
  obtain ⟨h2, y, l1, l2, l3, l4⟩ := bytes16_wr (a2.keep fun c _ hc => k4 c hc) inv hlen
  have hll : (bytes out low).length < 9223372036854775807 := by
    rw [bytes_len]; have := trimN_le (emits 4 out low).1 (out.length + 4); omega
  have hx2 : Wr h2 h.n x (bytes out low) := by
    obtain ⟨b, k, L, m1, m2, m3, m4, m5, m6⟩ := k2
    exact ⟨b, k, L, m1, m2, by rw [l4 b (H.get_lt m3), m3], m4, m5, m6⟩
  exact ⟨h1, h2, x, y, _, k1, l1, eq15_ok hx2.slb.at l2.slb.at hll, hx2, hll, k3, l3, k4, l4⟩

/-- The bytes that were answered are spoilt. -/
theorem loop3_0 {b len n : Nat} {k : Cap} (hn : n ≤ b) (hlen : len < 9223372036854775807) : ∀ (m i : Nat) (h : H) (e : E), m + i = len →
    (∃ c, h.get b = some (.cells c 5 false) ∧ ∀ j, j < len → ∃ x : Int, c[j]? = some (.int .u8 x)) →
    e.s [0, 2, 3, 4, 5, 6, 7] 6 = .sl b 0 len k → e.s [0, 2, 3, 4, 5, 6, 7] 7 = .int .i64 i →
    ∃ e' h', loopZ (l3_0 KK loopZ) e h = some ⟨.ex 2, e', h'⟩ ∧ h'.n = h.n ∧ (∀ c, c ≠ b → h'.get c = h.get c) ∧
      e'.s [0, 2, 3, 4, 5, 6, 7] 0 = e.s [0, 2, 3, 4, 5, 6, 7] 0 ∧ e'.s [0, 2, 3, 4, 5, 6, 7] 3 = e.s [0, 2, 3, 4, 5, 6, 7] 3 ∧ e'.s [0, 2, 3, 4, 5, 6, 7] 4 = e.s [0, 2, 3, 4, 5, 6, 7] 4 ∧ e'.s [0, 2, 3, 4, 5, 6, 7] 5 = e.s [0, 2, 3, 4, 5, 6, 7] 5
  | 0, i, h, e, hm, hc, h6, h7 => by
    rw [loopZ_eq]
    simp [l3_0, h6, h7, show ¬ (i : Int) < len by omega, show ¬ i < len by omega]
    exact ⟨_, _, ⟨rfl, rfl⟩, rfl, fun _ _ => rfl, by simp, by simp, by simp, by simp⟩
  | m + 1, i, h, e, hm, ⟨c, hb, hc⟩, h6, h7 => by
    obtain ⟨x, hx⟩ := hc i (by omega)
    have hcl : i < c.length := (List.getElem?_eq_some_iff.mp hx).1
    have hw := fun v => wr1_of hb (o := i) hcl v
    have hwr : IntKind.i64.wrap ((i : Int) + 1) = ((i + 1 : Nat) : Int) := by rw [wi64 (by omega) (by omega)]; simp
    obtain ⟨y, hy⟩ : ∃ y : Int, y = IntKind.u8.wrap (BitVec.ofInt IntKind.u8.bits x ^^^ BitVec.ofInt IntKind.u8.bits 255).toNat := ⟨_, rfl⟩
    have hbin : binK 0 .xor (.int .u8 x) (.int .u8 255) = some (.int .u8 y) := by rw [binK_xor, hy]
    obtain ⟨h1, hh1⟩ : ∃ h1, h1 = h.put b (.cells (c.set i (.int .u8 y)) 5 false) := ⟨_, rfl⟩
    obtain ⟨i1, hi1⟩ : ∃ i1, i1 = i + 1 := ⟨_, rfl⟩
    rw [← hi1] at hwr
    rw [loopZ_eq]
    simp [l3_0, h6, h7, show (i : Int) < len by omega, show i < len by omega, rd1_of hb, hx, -binK_xor, hbin, hw, ← hh1, hwr]
    obtain ⟨e', h', k1, k2, k3, k4, k5, k6, k7⟩ := loop3_0 (k := k) hn hlen m i1 h1 ⟨[e.s [0, 2, 3, 4, 5, 6, 7] 0, e.s [0, 2, 3, 4, 5, 6, 7] 2, e.s [0, 2, 3, 4, 5, 6, 7] 3, e.s [0, 2, 3, 4, 5, 6, 7] 4, e.s [0, 2, 3, 4, 5, 6, 7] 5, .sl b 0 len k, .int .i64 i1], 7, .int .i64 i1⟩ (by omega)
      ⟨_, by rw [hh1]; exact get_put_same (H.get_lt hb), fun j hj => by
        by_cases hji : i = j
        · subst hji; exact ⟨y, by simp [hcl]⟩
        · rw [List.getElem?_set_ne hji]; exact hc j hj⟩ (by simp) (by simp)
    refine ⟨e', h', k1, by rw [k2, hh1, H.n_put], fun d hd => by rw [k3 d hd, hh1, get_put_ne hd], ?_, ?_, ?_, ?_⟩
    · rw [k4]; simp
    · rw [k5]; simp
    · rw [k6]; simp
    · rw [k7]; simp

def TwoEnd (h : H) (n p q : Nat) : Prop := ∃ out low rng, Two h n p q out low rng ∧ EInv low rng ∧ out.length ≤ 900
theorem loop3_1 {lv : V} {ps : List (Nat × Nat)} {n p q : Nat} : ∀ (m i : Nat) (h : H) (e : E) (out : List Nat) (low rng : Nat), m + i = 300 → PartsAt h lv ps → ps.length < 9223372036854775808 →
    (∀ b o l k, lv = .sl b o l k → b < n) → Two h n p q out low rng → EInv low rng → out.length ≤ 3 * i →
    e.s [0, 2, 3, 4, 5, 6, 7] 0 = lv → e.s [0, 2, 3, 4, 5, 6, 7] 3 = .ptr p 0 → e.s [0, 2, 3, 4, 5, 6, 7] 4 = .ptr q 0 → e.s [0, 2, 3, 4, 5, 6, 7] 5 = .int .i64 i →
    ∃ e' h', loopZ (l3_1 KK loopZ) e h = some ⟨.ex 0, e', h'⟩ ∧ TwoEnd h' n p q ∧
      e'.s [0, 2, 3, 4, 5, 6, 7] 3 = .ptr p 0 ∧ e'.s [0, 2, 3, 4, 5, 6, 7] 4 = .ptr q 0
  | m, i, h, e, out, low, rng, hm, hP, hpl, hlv, hT, hI, hout, h0, h3, h4, h5 => by
    by_cases hlt : i < ps.length
    · by_cases h300 : i < 300
      · obtain ⟨m, rfl⟩ : ∃ m', m = m' + 1 := ⟨m - 1, by omega⟩
        obtain ⟨lo, hi, hps⟩ : ∃ lo hi, ps[i]? = some (lo, hi) := ⟨_, _, List.getElem?_eq_getElem hlt⟩
        obtain ⟨b, b1, b2, b3, b4, b5⟩ := hP.at hps
        obtain ⟨r, h1, h2, out', low', rng', k1, k2, k3, k4, k5, k6, k7⟩ := two_put hT hI (by omega) lo hi
        have hbn : b < n := by
          rcases hP with ⟨rfl, rfl⟩ | ⟨b', k', c', e', ro', rfl, g2, g3⟩
          · simp at hps
          · simp [hlt] at b1; subst b1; exact hlv _ _ _ _ rfl
        have hbr : ∀ o, h1.rd1 b o = h.rd1 b o := fun o => by simp only [H.rd1, k6 b hbn]
        have b2' := (hbr (i * 2)).trans b2
        have b3' := (hbr (i * 2 + 1)).trans b3
        have hwr : IntKind.i64.wrap ((i : Int) + 1) = ((i + 1 : Nat) : Int) := by rw [wi64 (by omega) (by omega)]; simp
        obtain ⟨i1, hi1⟩ : ∃ i1, i1 = i + 1 := ⟨_, rfl⟩
        rw [← hi1] at hwr
        have hP2 : PartsAt h2 lv ps := by
          rcases hP with a | ⟨b', k', c', e', ro', g1, g2, g3⟩
          · exact .inl a
          · have := hlv _ _ _ _ g1
            exact .inr ⟨b', k', c', e', ro', g1, by rw [k7 b' this, k6 b' this, g2], g3⟩
        obtain ⟨rest, hrest⟩ : ∃ rest : List Nat, rest = [0, 2, 3, 4, 5, 6, 7] := ⟨_, rfl⟩
        by_cases hsp : (i < 20 ∨ i % 16 = 0)
        · obtain ⟨h3', h4', x, y, l, j1, j2, j3, j4, j5, j6, j7, j8, j9⟩ := two_bytes k3 k4 (by omega)
          have hT4 : Two h4' n p q out' low' rng' := k3.keep (fun c hc => by rw [j9 c (by omega), j8 c hc]) (by omega)
          have hn2 : n ≤ h2.n := by obtain ⟨_, _, _, _, _, _, _, g⟩ := k3; exact g
          obtain ⟨wb, wk, wL, w1, w2, w3, w4, w5, w6⟩ := j4
          have hch : ∃ c, h4'.get wb = some (.cells c 5 false) ∧ ∀ j, j < l.length → ∃ x : Int, c[j]? = some (.int .u8 x) :=
            ⟨_, w3, fun j hj => ⟨(wL[j]'(by omega) : Nat), by simp [bytesV, show j < wL.length by omega]⟩⟩
          obtain ⟨e5, h5', y1, y2, y3, y4, y5, y6, y7⟩ := loop3_0 (b := wb) (len := l.length) (n := n) (k := wk) (by omega) j5 l.length 0 h4' ⟨[lv, e.s [0, 2, 3, 4, 5, 6, 7] 2, .ptr p 0, .ptr q 0, .int .i64 i, x, .int .i64 0], 7, .int .i64 0⟩ (by omega) hch (by simp [w1]) (by simp)
          simp at y4 y5 y6 y7
          have hT5 : Two h5' n p q out' low' rng' := by
            obtain ⟨v, w, a1, a2, a3, a4, a5, a6⟩ := hT4
            obtain ⟨v', w', a1', a2', _⟩ := k3
            refine ⟨v, w, a1.keep fun c hc _ => y3 c ?_, a2.keep fun c hc _ => y3 c ?_, a3, a4, a5, by omega⟩
            · have := a1.fp_lt c hc
              intro e1; subst e1
              have e2 : v = v' := by
                have g1 := a1.cell
                have g2 := a1'.cell
                rw [j9 p (by have := H.get_lt g2; omega), j8 p (H.get_lt g2), g2] at g1
                simpa using g1.symm
              subst e2
              have := a1'.fp_lt c hc; omega
            · intro e1; subst e1
              have e2 : w = w' := by
                have g1 := a2.cell
                have g2 := a2'.cell
                rw [j9 q (by have := H.get_lt g2; omega), j8 q (H.get_lt g2), g2] at g1
                simpa using g1.symm
              subst e2
              have := a2'.fp_lt c hc; omega
          have hP5 : PartsAt h5' lv ps := by
            rcases hP2 with a | ⟨b', k', c', e', ro', g1, g2, g3⟩
            · exact .inl a
            · have := hlv _ _ _ _ g1
              exact .inr ⟨b', k', c', e', ro', g1, by rw [y3 b' (by omega), j9 b' (by omega), j8 b' (by omega), g2], g3⟩
          have hcond : (i < 20 → True) ∧ (¬ i < 20 → (i : Int).tmod 16 = 0) := ⟨fun _ => trivial, fun h => by
            rw [Int.tmod_eq_emod_of_nonneg (by omega)]; omega⟩
          rw [loopZ_eq]
          by_cases h20 : i < 20
          · simp [l3_1, h0, h3, h4, h5, hP.len, hlt, show (i : Int) < ps.length by omega, h300, show (i : Int) < 300 by omega, b1, b2, b3, k1, b2', b3', k2, h20, show (i : Int) < 20 by omega, j1, j2, j3, y1, y4, y5, y6, y7, hwr]
            exact loop3_1 m i1 h5' ⟨[lv, _, .ptr p 0, .ptr q 0, .int .i64 i1, _, _], 5, .int .i64 i1⟩ out' low' rng' (by omega) hP5 hpl hlv hT5 k4 (by omega) (by simp) (by simp) (by simp) (by simp)
          · have := hcond.2 h20
            simp [l3_1, h0, h3, h4, h5, hP.len, hlt, show (i : Int) < ps.length by omega, h300, show (i : Int) < 300 by omega, b1, b2, b3, k1, b2', b3', k2, h20, show ¬ (i : Int) < 20 by omega, this, j1, j2, j3, y1, y4, y5, y6, y7, hwr]
            exact loop3_1 m i1 h5' ⟨[lv, _, .ptr p 0, .ptr q 0, .int .i64 i1, _, _], 5, .int .i64 i1⟩ out' low' rng' (by omega) hP5 hpl hlv hT5 k4 (by omega) (by simp) (by simp) (by simp) (by simp)
        · have h20 : ¬ i < 20 := by omega
          have hmod : ¬ (i : Int).tmod 16 = 0 := by rw [Int.tmod_eq_emod_of_nonneg (by omega)]; omega
          rw [loopZ_eq]
          simp [l3_1, h0, h3, h4, h5, hP.len, hlt, show (i : Int) < ps.length by omega, h300, show (i : Int) < 300 by omega, b1, b2, b3, k1, b2', b3', k2, h20, show ¬ (i : Int) < 20 by omega, hmod, hwr]
          exact loop3_1 m i1 h2 ⟨[lv, _, .ptr p 0, .ptr q 0, .int .i64 i1, _, _], 5, .int .i64 i1⟩ out' low' rng' (by omega) hP2 hpl hlv k3 k4 (by omega) (by simp) (by simp) (by simp) (by simp)
      · rw [loopZ_eq]
        simp [l3_1, h0, h5, h3, h4, hP.len, hlt, show (i : Int) < ps.length by omega, h300, show ¬ (i : Int) < 300 by omega]
        exact ⟨_, _, ⟨rfl, rfl⟩, ⟨_, _, _, hT, hI, by omega⟩, by simp, by simp⟩
    · rw [loopZ_eq]
      simp [l3_1, h0, h5, h3, h4, hP.len, hlt, show ¬ (i : Int) < ps.length by omega]
      exact ⟨_, _, ⟨rfl, rfl⟩, ⟨_, _, _, hT, hI, by omega⟩, by simp, by simp⟩

theorem puts3_ok {h : H} {lv : V} {ps : List (Nat × Nat)} (hP : PartsAt h lv ps) (hpl : ps.length < 9223372036854775808) : ∃ h', KK 3 [lv] h = some (.ret (.bool true), h') := by
  obtain ⟨h1, a1, b1, c1, d1⟩ := new10_ok h
  obtain ⟨h2, a2, b2, c2, d2⟩ := new11_ok h1
  have hT : Two h2 h.n h.n h1.n [] 0 4294967295 := by
    refine ⟨.nils, .nils, b1.keep fun c hc hl => d2 c hl, b2, ?_, ?_, ?_, by omega⟩
    · rintro c (rfl | ⟨o, n, k, e⟩)
      · exact Nat.le_refl _
      · cases e
    · rintro c (rfl | ⟨o, n, k, e⟩)
      · omega
      · cases e
    · rintro c (rfl | ⟨o, n, k, e⟩) (e' | ⟨o', n', k', e'⟩)
      · omega
      · cases e'
      · cases e
      · cases e
  have hlv : ∀ b o l k, lv = .sl b o l k → b < h.n := fun b o l k e => by
    rcases hP with ⟨g, _⟩ | ⟨b', k', c', e', ro', g1, g2, g3⟩
    · rw [g] at e; cases e
    · rw [g1] at e; cases e; exact H.get_lt g2
  have hP2 : PartsAt h2 lv ps := (hP.keep (n := 0) d1).keep (n := 0) d2
  obtain ⟨e3, h3, a3, ⟨out, low, rng, b3, inv3, d3⟩, k3, k4⟩ := loop3_1 (n := h.n) 300 0 h2 ⟨[lv, .bool false, .ptr h.n 0, .ptr h1.n 0, .int .i64 0, .und, .und], 5, .int .i64 0⟩ [] 0 4294967295 (by omega) hP2 hpl hlv hT ⟨by omega, by omega, by omega⟩ (by simp) (by simp) (by simp) (by simp) (by simp)
  obtain ⟨h4, h5, x, y, l, j1, j2, j3, j4, j5, j6, j7, j8, j9⟩ := two_bytes b3 inv3 (by omega)
  obtain ⟨h6, w1, w2, w3⟩ := works17_ok h5
  refine ⟨h6, ?_⟩
  rw [KK, c3, f3, s3]
  simp at a3
  simp [a1, a2, a3, k3, k4, j1, j2, j3, w1]
end Go.Proofs.Ytpikblkbeoophaa
