/- Small functions of the laws: EqInts, Sign, Bring, Log. The same chain whatever is handed in. -/
import Derived.Test.YtbajipmhnoakeaaCv
set_option linter.unusedVariables false
set_option linter.unusedSimpArgs false
set_option maxRecDepth 20000
namespace Go.Proofs.Ytbajipmhnoakeaa
open Go Go.Zf
open Go.Zf (wi64)

theorem eqInts11_ok {X Y : Nat → Prop} {h : H} {va vb : V} {la lb : List Int} (a : IntsX X h va la) (b : IntsX Y h vb lb) (hl : la.length < 100000000) : KW 11 [va, vb] h = some (.ret (.bool (decide (la = lb))), h) := by
  have sa := a.len
  have sb := b.len
  rw [w11, f11, s11]
  by_cases hlen : la.length = lb.length
  · simp [sa, sb, hlen]
    refine loop_in (C := fun x => fin Try.prog _ _ (sq (blk 0 x) _) = _) (fun j e g => j ≤ la.length ∧ g = h ∧ e.s [0, 1, 4, 5] 0 = va ∧ e.s [0, 1, 4, 5] 1 = vb ∧ e.s [0, 1, 4, 5] 5 = .int .i64 ((la.length - j : Nat) : Int) ∧ la.take (la.length - j) = lb.take (la.length - j))
      (fun st => st.h = h ∧ ((st.x = .ex 0 ∧ la = lb) ∨ (st.x = .rt ∧ la ≠ lb ∧ st.e.s [0, 1, 4, 5] 4 = .bool false))) ?_ la.length ⟨Nat.le_refl _, rfl, by simp, by simp, by simp, by simp⟩ ?_
    · rintro j e g ⟨hj, rfl, e0, e1, e5, hp⟩
      cases j with
      | zero =>
        rw [Nat.sub_zero] at e5 hp
        rw [List.take_length, hlen, List.take_length] at hp
        simp [l11_0, e0, e5, sa]
        exact ⟨rfl, .inl ⟨rfl, hp⟩⟩
      | succ j =>
        obtain ⟨i, hi⟩ : ∃ i, i = la.length - (j + 1) := ⟨_, rfl⟩
        rw [← hi] at e5 hp
        have hil : i < la.length := by omega
        have hil2 : i < lb.length := by omega
        obtain ⟨b1, o1, t1, t2, _, _⟩ := a.at_ i _ (List.getElem?_eq_getElem hil)
        obtain ⟨b2, o2, t3, t4, _, _⟩ := b.at_ i _ (List.getElem?_eq_getElem hil2)
        have z1 : IntKind.i64.wrap ((i : Int) + 1) = ((i + 1 : Nat) : Int) := by rw [wi64 (by omega) (by omega)]; omega
        have hil' : (i : Int) < la.length := by omega
        by_cases hc : la[i] = lb[i]
        · simp [l11_0, e0, e1, e5, sa, hil', t1, t2, t3, t4, hc, z1, -Int.natCast_add, hil]
          refine ⟨j, by omega, by omega, rfl, by simp [e0], by simp [e1], by simp [show la.length - j = i + 1 by omega], ?_⟩
          rw [show la.length - j = i + 1 by omega, List.take_add_one, List.take_add_one, hp, List.getElem?_eq_getElem hil, List.getElem?_eq_getElem hil2, hc]
        · simp [l11_0, e0, e1, e5, sa, hil', t1, t2, t3, t4, hc, z1, -Int.natCast_add, hil]
          refine ⟨rfl, .inr ⟨rfl, fun he => ?_, by simp⟩⟩
          subst he; exact hc rfl
    · rintro ⟨sx, se, sh⟩ ⟨h1, h2 | h2⟩
      · obtain ⟨h2, h3⟩ := h2
        simp only at h1 h2
        subst h1 h2
        simp [h3]
      · obtain ⟨h2, h3, h4⟩ := h2
        simp only at h1 h2 h4
        subst h1 h2
        simp [h3, h4]
  · have hne : ¬ la = lb := fun h => hlen (by rw [h])
    simp [sa, sb, hlen, hne, show ¬ (la.length : Int) = lb.length by omega]

def signP (l : List Int) : Int := if l.length = 0 ∨ l.getD 0 0 = 0 then 0 else if l.getD 0 0 < 0 then 1 else 2
theorem sign16_ok {X : Nat → Prop} {h : H} {v : V} {l : List Int} (a : IntsX X h v l) : KW 16 [v] h = some (.ret (.int .i64 (signP l)), h) := by
  have sa := a.len
  rw [w16, f16, s16]
  unfold signP
  by_cases h0 : l.length = 0
  · simp [sa, h0]
  · have hl : 0 < l.length := by omega
    obtain ⟨b, o, t1, t2, _, _⟩ := a.at_ 0 _ (List.getElem?_eq_getElem hl)
    have t1' : iaS 1 v (.int .i64 0) = some (.ptr b o) := t1
    have hg : l.getD 0 0 = l[0] := by simp [List.getD, hl]
    rw [hg]
    obtain ⟨x, hx⟩ : ∃ x, x = l[0] := ⟨_, rfl⟩
    rw [← hx] at t2 ⊢
    have hl0 : ¬ (l.length : Int) = 0 := by omega
    have hln : l ≠ [] := by intro e; rw [e] at h0; exact h0 rfl
    by_cases c0 : x = 0
    · simp [sa, hl0, h0, t1', t2, c0, hln]
    · by_cases c1 : x < 0
      · simp [sa, hl0, h0, t1', t2, c0, c1, hln]
      · simp [sa, hl0, h0, t1', t2, c0, c1, hln]

def bringP (x : Int) (n : Nat) : Nat := if n = 0 then 0 else if x.tmod n < 0 then (x.tmod n + n).toNat else (x.tmod n).toNat
theorem bringP_lt (x : Int) {n : Nat} (hn : 0 < n) : bringP x n < n := by
  have hp : (0 : Int) < n := by omega
  have q1 := Int.tmod_lt_of_pos x hp
  unfold bringP
  rw [if_neg (by omega)]
  split <;> omega
theorem bring23_ok (x : Int) (n : Nat) (hn : n ≤ 1000) (h : H) : KW 23 [.int .i64 x, .int .i64 n] h = some (.ret (.int .i64 (bringP x n)), h) := by
  rw [w23, f23, s23]
  unfold bringP
  by_cases h0 : n = 0
  · subst h0
    simp
  · have hp : (0 : Int) < n := by omega
    have q1 := Int.tmod_lt_of_pos x hp
    have q2 : -(n : Int) < x.tmod n := by
      by_cases hx : 0 ≤ x
      · have := Int.tmod_nonneg (n : Int) hx; omega
      · have e : x.tmod n = -((-x).tmod n) := by rw [Int.neg_tmod, Int.neg_neg]
        have := Int.tmod_lt_of_pos (-x) hp
        omega
    by_cases hx : x.tmod n < 0
    · have z : IntKind.i64.wrap (x.tmod n + n) = x.tmod n + n := Go.Zf.wi64 (by omega) (by omega)
      simp [show ¬ (n : Int) ≤ 0 by omega, h0, show ¬ (n : Int) = 0 by omega, hx, z]
      omega
    · simp [show ¬ (n : Int) ≤ 0 by omega, h0, show ¬ (n : Int) = 0 by omega, hx]
      omega

structure I15 (h : H) (x j : Nat) (e : E) (g : H) : Prop where
  hg : g = h
  ex : ∃ y : Nat, y ≠ 0 ∧ y < 4294967296 ∧ Nat.log2 y = j ∧ j ≤ Nat.log2 x ∧ e.s [0, 2, 3] 0 = .int .i64 (y : Nat)
  e3 : e.s [0, 2, 3] 3 = .int .i64 ((Nat.log2 x - j : Nat) : Int)
theorem log15_ok {x : Nat} (h0 : x ≠ 0) (hx : x < 4294967296) (h : H) : KW 15 [.int .i64 x] h = some (.ret (.int .i64 (Nat.log2 x : Nat)), h) := by
  have hl : Nat.log2 x < 32 := (Nat.log2_lt h0).2 hx
  rw [w15, f15, s15]
  simp
  refine loop_in (C := fun o => fin Try.prog _ _ (sq (blk 0 o) _) = _) (I15 h x)
    (fun st => st.x = .ex 0 ∧ st.h = h ∧ st.e.s [0, 2, 3] 3 = .int .i64 (Nat.log2 x : Nat)) ?_ (Nat.log2 x) ⟨rfl, ⟨x, h0, hx, rfl, Nat.le_refl _, by simp⟩, by simp⟩ ?_
  · rintro j e g ⟨hg, ⟨y, y0, yx, hy, hj, e0⟩, e3⟩
    subst hg
    have hb := log2_b y0
    cases j with
    | zero =>
      rw [hy] at hb
      have : y = 1 := by omega
      subst this
      simp [l15_0, e0]
      exact ⟨rfl, rfl, by simp [e3]⟩
    | succ j =>
      have h2 : 2 ≤ y := by
        rw [hy, Nat.pow_succ] at hb
        have := Nat.two_pow_pos j
        omega
      have l2 := log2_div (x := y) (k := 1) (by omega)
      rw [Nat.pow_one] at l2
      have z1 : IntKind.i64.wrap ((y : Int) / 2) = ((y / 2 : Nat) : Int) := by rw [wi64 (by omega) (by omega)]; omega
      obtain ⟨u, hu⟩ : ∃ u, u = y / 2 := ⟨_, rfl⟩
      rw [← hu] at l2 z1
      obtain ⟨q, hq⟩ : ∃ q, q = Nat.log2 x - (j + 1) := ⟨_, rfl⟩
      rw [← hq] at e3
      have z2 : IntKind.i64.wrap ((q : Int) + 1) = ((q + 1 : Nat) : Int) := by rw [wi64 (by omega) (by omega)]; omega
      have z3 : (y : Int).tdiv 2 = (y : Int) / 2 := Int.tdiv_eq_ediv_of_nonneg (by omega)
      simp [l15_0, e0, e3, show (1 : Int) < (y : Int) by omega, z3, z1, z2, -Int.natCast_add, show 1 < y by omega]
      exact ⟨j, by omega, rfl, ⟨u, by omega, by omega, by omega, by omega, by simp⟩, by simp [show Nat.log2 x - j = q + 1 by omega]⟩
  · rintro ⟨sx, se, sh⟩ ⟨h1, h2, h3⟩
    simp only at h1 h2 h3
    subst h1 h2
    simp [h3]

/-! The same chain, whatever is handed in. -/
theorem lenP_sim (wr wr' : Bool) (X X' : Nat) : ∀ f k, Pr.Sim (lenP wr X f k) (lenP wr' X' f k)
  | 0, k => trivial
  | f + 1, k => by
    unfold lenP
    refine ⟨rfl, fun b => ?_⟩
    dsimp only
    by_cases hb : b = 0
    · rw [if_pos hb, if_pos hb]; exact lenP_sim wr wr' X X' f (k + 1)
    · rw [if_neg hb, if_neg hb]; exact ⟨rfl, fun v => rfl⟩
structure Kin (B B' : BD) : Prop where
  size : B'.size = B.size
  n : B'.n = B.n
  colour : B'.colour = B.colour
  sign : B'.sign = B.sign
  ord : B'.ord = B.ord
theorem amoP_sim {B B' : BD} (a : Kin B B') (x x' : Int) (more : Nat) : ∀ j sum, Pr.Sim (amoP B x more j sum) (amoP B' x' more j sum)
  | 0, sum => by unfold amoP; exact Pr.Sim.bind (fun v => Pr.Sim.refl _) (lenP_sim _ _ _ _ _ _)
  | j + 1, sum => by
    unfold amoP
    refine ⟨rfl, by rw [a.colour], fun s => ?_⟩
    dsimp only
    by_cases hs : s < 3
    · rw [if_pos hs, if_pos hs]; rfl
    · rw [if_neg hs, if_neg hs]; exact amoP_sim a x x' more j (sum + s)
theorem amsP_sim {B B' : BD} (a : Kin B B') (en : Nat) : ∀ i lv, Pr.Sim (amsP B en i lv) (amsP B' en i lv)
  | 0, lv => rfl
  | i + 1, lv => by
    unfold amsP
    refine Pr.Sim.bind (fun said => ?_) ?_
    · rw [a.ord]
      refine Pr.Sim.bind (fun v => amsP_sim a en i _) ?_
      unfold amountP
      by_cases hs : said < 3
      · rw [if_pos hs, if_pos hs]; rfl
      · rw [if_neg hs, if_neg hs, a.n]; exact amoP_sim a _ _ _ _ _
    · unfold saidP
      rw [a.ord, a.colour, a.n]
      by_cases hi : i + 1 = en
      · rw [if_pos hi, if_pos hi]; exact ⟨rfl, rfl, fun x => rfl⟩
      · rw [if_neg hi, if_neg hi]; exact ⟨rfl, rfl, fun x => rfl⟩
theorem sgsP_sim {B B' : BD} (a : Kin B B') : ∀ r lv, Pr.Sim (sgsP B r lv) (sgsP B' r lv)
  | [], lv => rfl
  | p :: r, lv => by
    unfold sgsP
    by_cases h0 : lv.getD p 0 = 0
    · rw [if_pos h0, if_pos h0]; exact sgsP_sim a r lv
    · rw [if_neg h0, if_neg h0]
      refine Pr.Sim.bind (fun b => sgsP_sim a r _) ?_
      unfold belowP
      rw [a.colour, a.sign]
      by_cases hp : p = 0
      · rw [if_pos hp, if_pos hp]; exact ⟨rfl, rfl, fun x => rfl⟩
      · rw [if_neg hp, if_neg hp]; exact ⟨rfl, fun x => rfl⟩
theorem codeP_sim {B B' : BD} (a : Kin B B') : Pr.Sim (codeP B) (codeP B') := by
  unfold codeP
  refine Pr.Sim.bind (fun en => ?_) ?_
  · rw [a.n]
    refine Pr.Sim.bind (fun lv => ?_) (amsP_sim a en en _)
    rw [a.ord]
    exact sgsP_sim a _ lv
  · unfold endP
    rw [a.colour, a.size]
    refine ⟨rfl, rfl, fun z => ?_⟩
    dsimp only
    by_cases hz : z = 1
    · rw [if_pos hz, if_pos hz]; rfl
    · rw [if_neg hz, if_neg hz]
      refine ⟨rfl, rfl, fun c => ?_⟩
      dsimp only
      by_cases hc : c = 0
      · rw [if_pos hc, if_pos hc]; rfl
      · rw [if_neg hc, if_neg hc]; exact ⟨rfl, fun x => rfl⟩
end Go.Proofs.Ytbajipmhnoakeaa
