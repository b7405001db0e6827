/- CoefsAmounts: the walk. -/
import Derived.Test.YtbajipmhnoakeaaCya
import Derived.Test.YtbajipmhnoakeaaCaa
import Derived.Test.YtbajipmhnoakeaaZArg
import Derived.SizedLaws
import Derived.OpenShut
set_option linter.unusedVariables false
set_option linter.unusedSimpArgs false
set_option maxRecDepth 20000
namespace Go.Proofs.Ytbajipmhnoakeaa
open Go Go.Zf Go.RowKit Go.WideShapes
open Go.Zf (wi64)

theorem ord_first {s : Nat} (hs : sizeOk s) : (ordN (sideP s)).getD 0 0 = 0 := by
  rcases hs with rfl | rfl | rfl | rfl | rfl <;> kernel_rfl
/-- One level at the first place ends there. -/
theorem end_one {B : BD} (b : BOk B) (h0 : B.src.getD 0 0 ≠ 0) (hz : ∀ p, p ≠ 0 → B.src.getD p 0 = 0) : endTo B B.ord.length = 1 := by
  have oo := b.oo
  have hol : B.ord.length = B.n * B.n := by rw [b.ord]; exact oo.len
  have of := ord_first b.size
  rw [← b.n, ← b.ord] at of
  have hnn : 0 < B.n * B.n := by
    have := sideP_b b.size
    rw [← b.n] at this
    exact Nat.mul_pos (by omega) (by omega)
  have z := endTo_zero (B := B) (i := B.ord.length)
  have l := endTo_last (B := B) (i := B.ord.length)
  have hle := endTo_le B B.ord.length
  obtain ⟨E, hE⟩ : ∃ E, E = endTo B B.ord.length := ⟨_, rfl⟩
  rw [← hE] at z l hle ⊢
  have h1 : E ≠ 0 := by
    intro e
    have := z 0 (by omega) (by omega)
    rw [of] at this
    exact h0 this
  by_cases h2 : 2 ≤ E
  · exfalso
    have := l (E - 1) (by omega)
    have hp : B.ord.getD (E - 1) 0 = 0 := Classical.byContradiction fun hne => this (hz _ hne)
    have hi : E - 1 < B.ord.length := by omega
    have hn : B.ord.Nodup := by rw [b.ord]; exact oo.nod
    have e1 : B.ord[E - 1] = 0 := by simpa [List.getD, hi] using hp
    have e0 : B.ord[0]'(by omega) = 0 := by simpa [List.getD, show 0 < B.ord.length by omega] using of
    have := (List.getElem_inj hn (h₀ := hi) (h₁ := by omega)).1 (e1.trans e0.symm)
    omega
  · omega

theorem amountCost_eq (a : Nat) : amountCost a = (if 3 ≤ a then min ((a - 3) / 3 + 1) 4 else 0) + (if 15 ≤ a then 2 * Nat.log2 (a - 14) + 1 else 0) := by
  unfold amountCost
  by_cases h3 : a < 3
  · rw [if_pos h3, if_neg (by omega), if_neg (by omega)]
  · by_cases h15 : a < 15
    · rw [if_neg h3, if_pos h15, if_pos (by omega), if_neg (by omega)]; omega
    · rw [if_neg h3, if_neg h15, if_pos (by omega), if_pos (by omega)]; omega

theorem amounts5_ok (size plane v : Int) (h : H) : RT (fun w h' => w = .bool true ∧ Ext h h') (KW 5 [.int .i64 size, .int .i64 plane, .int .i64 v] h) := by
  obtain ⟨w, g1, a1, rfl, x1⟩ := (awake6_ok h).elim
  have tb := tmod_b v
  obtain ⟨u, hu⟩ : ∃ u, u = v.tmod 1048576 := ⟨_, rfl⟩
  rw [← hu] at tb
  obtain ⟨y, hy⟩ : ∃ y : Int, y = if u = 0 then 1 else u := ⟨_, rfl⟩
  have hy0 : y ≠ 0 := by rw [hy]; split <;> omega
  have hyb : -1048576 < y ∧ y < 1048576 := by rw [hy]; split <;> omega
  have hyt : y.tmod 1048576 = y := by
    by_cases h0 : 0 ≤ y
    · exact Int.tmod_eq_of_lt h0 hyb.2
    · have e : y.tmod 1048576 = -((-y).tmod 1048576) := by rw [Int.neg_tmod, Int.neg_neg]
      rw [e, Int.tmod_eq_of_lt (by omega) (by omega)]; omega
  obtain ⟨g2, hg2⟩ : ∃ z, z = g1.new (.cells [.int .i64 y] 3 false) := ⟨_, rfl⟩
  have x2 : Ext g1 g2 := by rw [hg2]; exact (Ext.refl g1).new _
  have r2 : g2.get g1.n = some (.cells (intsV [y]) 3 false) := by rw [hg2, get_new_same]; rfl
  have I2 : IntsX (fun _ => False) g2 (.sl g1.n 0 1 (.ex 1)) [y] := IntsX.of (l := [y]) r2 (fun h => h)
  obtain ⟨w, g3, a3, b3, rfl, hb3, r3, x3⟩ := (may9_ok (s := size) (p := plane) (q := 0) I2 rfl).elim
  have hs := mayS_ok size
  obtain ⟨S, hS⟩ : ∃ S, S = mayS size := ⟨_, rfl⟩
  obtain ⟨P, hP⟩ : ∃ P, P = bringP plane 3 := ⟨_, rfl⟩
  have hP3 : P < 3 := by rw [hP]; exact bringP_lt plane (by decide)
  rw [← hS] at hs a3 r3
  rw [← hP] at a3
  obtain ⟨N, hN⟩ : ∃ N, N = sideP S * sideP S := ⟨_, rfl⟩
  have sb := sideP_b hs
  have hNb : 16 ≤ N ∧ N ≤ 1024 := by
    have h1 : 4 * 4 ≤ sideP S * sideP S := Nat.mul_le_mul sb.1 sb.1
    have h2 : sideP S * sideP S ≤ 32 * 32 := Nat.mul_le_mul sb.2 sb.2
    omega
  rw [← hN] at a3 r3
  obtain ⟨g4, hg4⟩ : ∃ z, z = (g3.new (.cells [.int .i64 0, .int .i64 0, .int .i64 0, .nils] 34 false)).put g3.n (.cells [.int .i64 S, .int .i64 P, .int .i64 (bringP 0 3), .sl b3 0 N (.ex N)] 34 false) := ⟨_, rfl⟩
  have x4 : Ext g3 g4 := by rw [hg4]; exact ((Ext.refl g3).new _).put (Nat.le_refl _) _
  have n4 : g4.n = g3.n + 1 := by rw [hg4, H.n_put, H.n_new]
  have r4 : g4.get g3.n = some (.cells [.int .i64 S, .int .i64 P, .int .i64 (bringP 0 3), .sl b3 0 N (.ex N)] 34 false) := by rw [hg4, get_put_same (by rw [H.n_new]; omega)]
  have st4 : (g3.new (.cells [.int .i64 0, .int .i64 0, .int .i64 0, .nils] 34 false)).wrN g3.n 0 [.int .i64 S, .int .i64 P, .int .i64 (bringP 0 3), .sl b3 0 N (.ex N)] = some g4 := by
    rw [wrN_of get_new_same (by simp), hg4]; rfl
  obtain ⟨w, g5, a5, v5, rfl, W5, x5⟩ := (default27_ok g4).elim
  obtain ⟨w, g6, a6, p, rfl, C6, x6⟩ := (writer12_ok W5.setR defS_ok true).elim
  have m2 := x2.n
  have m3 := x3.n
  have m5 := x5.n
  have m6 := x6.n
  have r6 : g6.get g3.n = _ := ((x5.trans x6).get _ (H.get_lt r4)).trans r4
  have b3g : b3 < g3.n := H.get_lt r3
  have r6b : g6.get b3 = _ := (((x4.trans x5).trans x6).get _ b3g).trans r3
  obtain ⟨src, hsrc⟩ : ∃ src, src = mayL [y] N := ⟨_, rfl⟩
  rw [← hsrc] at r6b
  have hsl : src.length = N := by rw [hsrc, mayL_len]
  have hsb : ∀ x ∈ src, -1048576 ≤ x ∧ x ≤ 1048576 := by rw [hsrc]; exact mayL_b _ _
  have I6 : IntsX (fun b => g5.n ≤ b) g6 (.sl b3 0 N (.ex N)) src := by
    have := IntsX.of (X := fun b => g5.n ≤ b) (l := src) (k := .ex N) r6b (by omega)
    rw [hsl] at this; exact this
  obtain ⟨w, g7, a7, L, rfl, K7⟩ := (code_w C6 (s := s0) rfl s0_ok (by decide) hs (plane := P) (sign := 0) (by omega) (by decide) I6 (by rw [hsl, hN]) hsb).elim
  obtain ⟨E7, C7, _, _⟩ := K7.C
  have cnt := count32_ok C7
  have x7 : Ext g4 g7 := K7.x.ext (x5.trans x6) (fun b hb hd => by have h2 : g5.n ≤ b := hd; omega)
  have x7h : Ext h g7 := ((((x1.trans x2).trans x3).trans x4)).trans x7
  -- how much is counted
  have hbok := bdOf_ok (plane := P) (sign := 0) (src := src) hs (by decide) (by rw [hsl, hN]) hsb
  have s0v : src.getD 0 0 = y := by rw [hsrc]; simp [mayL, List.getD, show 0 < N by omega, hyt]
  have sz : ∀ p, p ≠ 0 → src.getD p 0 = 0 := by
    intro p hp
    rw [hsrc]
    by_cases hpN : p < N
    · simp [mayL, List.getD, hpN, show ¬ p < 1 by omega]
    · simp [mayL, List.getD, hpN]
  have hone := end_one hbok (by show src.getD 0 0 ≠ 0; rw [s0v]; exact hy0) (fun p hp => sz p hp)
  obtain ⟨ops, o1, o2, o3⟩ := codeP_ech hbok
  have o4 := o3 hone
  have of := ord_first hs
  have e1 : (bdOf S P 0 src true).src.getD ((bdOf S P 0 src true).ord.getD 0 0) 0 = y := by
    show src.getD ((ordN (sideP S)).getD 0 0) 0 = y
    rw [of, s0v]
  rw [e1] at o4
  have hops : opsOfB S P 0 src = ops := by unfold opsOfB; rw [o1]
  have hn : ((newW defS true).run (opsOfB S P 0 src)).n = ((4 + amountCost (iabs y).toNat : Nat) : Int) := by
    rw [run_n, hops, o4]; show (0 : Int) + _ = _; omega
  rw [hn, amountCost_eq] at cnt
  have hab := iabs_b y
  obtain ⟨a, ha⟩ : ∃ a : Nat, a = (iabs y).toNat := ⟨_, rfl⟩
  have hai : iabs y = (a : Int) := by omega
  rw [← ha] at cnt
  have ha1 : a ≤ 1048576 := by omega
  -- the law's own count
  have q0 : g6.rd1 g3.n 0 = some (.int .i64 S) := by rw [rd1_of r6]; rfl
  have q1 : g6.rd1 g3.n 1 = some (.int .i64 P) := by rw [rd1_of r6]; rfl
  have q3 : g6.rd1 g3.n 3 = some (.sl b3 0 N (.ex N)) := by rw [rd1_of r6]; rfl
  rw [← hN] at a7
  have a7' : KW 10 [.ptr p 0, .int .i64 S, .int .i64 P, .int .i64 0, .sl b3 0 N (.ex N)] g6 = _ := a7
  have zn : IntKind.i64.wrap (-y) = -y := wi64 (by omega) (by omega)
  have hmx : maxV [V.int .i64 y, V.int .i64 (-y)] = some (.int .i64 (a : Int)) := by rw [maxV_i]; rw [← hai]; rfl
  have hu2 : v.tmod 1048576 = u := hu.symm
  have zA : IntKind.i64.wrap ((a : Int) - 3) = (a : Int) - 3 := wi64 (by omega) (by omega)
  have hbsl : bs g1 3 1 [.int .i64 0] [(some (0, 1), .int .i64 y)] = some (.sl g1.n 0 1 (.ex 1), g2) := by simp [bs, fillW, splice, hg2]
  have y4 : ((4 : Nat) : Int) = 4 := rfl
  have hlog : ∀ g, 15 ≤ a → KW 15 [.int .i64 ((a : Int) - 14)] g = some (.ret (.int .i64 (Nat.log2 (a - 14) : Nat)), g) := fun g h15 => by
    rw [show (a : Int) - 14 = ((a - 14 : Nat) : Int) by omega]; exact log15_ok (by omega) (by omega) g
  have hll : 15 ≤ a → Nat.log2 (a - 14) < 21 := fun h15 => (Nat.log2_lt (by omega)).2 (by omega)
  obtain ⟨lg, hlg⟩ : ∃ l, l = Nat.log2 (a - 14) := ⟨_, rfl⟩
  rw [← hlg] at hlog hll cnt
  have hbl : bl [.int .i64 0, .int .i64 0, .int .i64 0, .nils] [(some (0, 1), .int .i64 size), (some (1, 1), .int .i64 plane), (some (3, 1), .sl g1.n 0 1 (.ex 1))] = some (.agg [.int .i64 size, .int .i64 plane, .int .i64 0, .sl g1.n 0 1 (.ex 1)]) := by simp [bl, fillW, splice]
  have hnw : nw g3 34 [.int .i64 0, .int .i64 0, .int .i64 0, .nils] = some (.ptr g3.n 0, g3.new (.cells [.int .i64 0, .int .i64 0, .int .i64 0, .nils] 34 false)) := rfl
  have z6 : IntKind.i64.wrap ((a : Int) - 14) = (a : Int) - 14 := wi64 (by omega) (by omega)
  have z7 : ((a : Int) - 3).tdiv 3 = ((a : Int) - 3) / 3 ∨ a < 3 := by
    by_cases h3 : a < 3
    · exact .inr h3
    · exact .inl (Int.tdiv_eq_ediv_of_nonneg (by omega))
  have fin0 : KW 5 [.int .i64 size, .int .i64 plane, .int .i64 v] h = some (.ret (.bool true), g7) := by
    rw [w5, f5, s5]
    have hn : (4 : Int) + (((if 3 ≤ a then min ((a - 3) / 3 + 1) 4 else 0) + if 15 ≤ a then 2 * lg + 1 else 0 : Nat) : Int) = ((4 + ((if 3 ≤ a then min ((a - 3) / 3 + 1) 4 else 0) + if 15 ≤ a then 2 * lg + 1 else 0) : Nat) : Int) := by omega
    have za : ∀ x : Int, 0 ≤ x → x ≤ 100 → IntKind.i64.wrap x = x := fun x h1 h2 => wi64 (by omega) (by omega)
    by_cases hu0 : u = 0
    · rw [if_pos hu0] at hy
      have hmx' : maxV [V.int .i64 1, V.int .i64 (IntKind.i64.wrap (-1))] = some (.int .i64 (a : Int)) := by rw [← hy, zn, hmx]
      have hbsl' : bs g1 3 1 [.int .i64 0] [(some (0, 1), .int .i64 1)] = some (.sl g1.n 0 1 (.ex 1), g2) := by rw [← hy]; exact hbsl
      have ha1' : a = 1 := by
        rw [hy] at hai
        have : iabs 1 = 1 := by decide
        omega
      subst ha1'
      simp at cnt
      simp [a1, hu2, hu0, hbsl', hbl, a3, hnw, st4, a5, a6, q0, q1, q3, a7', hmx', -maxV2, cnt]
    · rw [if_neg hu0] at hy
      have hu0' : u ≠ 0 := hu0
      rw [← hy] at hu2
      have hy1 : ¬ y = 0 := hy0
      by_cases h3 : a < 3
      · have hi3 : ¬ (3 : Int) ≤ a := by omega
        have hi15 : ¬ (15 : Int) ≤ a := by omega
        rw [if_neg (by omega), if_neg (by omega)] at cnt
        simp [a1, hu2, hy1, hbsl, hbl, a3, hnw, st4, a5, a6, q0, q1, q3, a7', zn, hmx, -maxV2, cnt, hi3, hi15, show ¬ 3 ≤ a by omega, show ¬ 15 ≤ a by omega]
      · have hi3 : (3 : Int) ≤ a := by omega
        have z7 : ((a : Int) - 3).tdiv 3 = ((a : Int) - 3) / 3 := Int.tdiv_eq_ediv_of_nonneg (by omega)
        obtain ⟨w, hw⟩ : ∃ w : Nat, w = (a - 3) / 3 + 1 := ⟨_, rfl⟩
        have z8 : IntKind.i64.wrap (((a : Int) - 3) / 3) = ((a : Int) - 3) / 3 := wi64 (by omega) (by omega)
        have z9 : IntKind.i64.wrap (((a : Int) - 3) / 3 + 1) = (w : Int) := by rw [wi64 (by omega) (by omega)]; omega
        rw [if_pos (by omega), ← hw] at cnt
        obtain ⟨m, hm⟩ : ∃ m : Nat, m = min w 4 := ⟨_, rfl⟩
        rw [← hm] at cnt
        have z10 : (if (4 : Int) < w then (4 : Int) else w) = (m : Int) := by split <;> omega
        have z11 : IntKind.i64.wrap ((4 : Int) + m) = ((4 + m : Nat) : Int) := by rw [wi64 (by omega) (by omega)]; omega
        by_cases h15 : a < 15
        · have hi15 : ¬ (15 : Int) ≤ a := by omega
          rw [if_neg (by omega), Nat.add_zero] at cnt
          simp [a1, hu2, hy1, hbsl, hbl, a3, hnw, st4, a5, a6, q0, q1, q3, a7', zn, hmx, -maxV2, cnt, hi3, hi15, show 3 ≤ a by omega, show ¬ 15 ≤ a by omega, zA, z7, z8, z9, z10, z11, -Int.natCast_add]
        · have hi15 : (15 : Int) ≤ a := by omega
          rw [if_pos (by omega)] at cnt
          have hl2 := hll (by omega)
          have z12 : IntKind.i64.wrap ((2 : Int) * lg) = ((2 * lg : Nat) : Int) := by rw [wi64 (by omega) (by omega)]; omega
          have z13 : IntKind.i64.wrap (((4 + m : Nat) : Int) + ((2 * lg : Nat) : Int)) = ((4 + m + 2 * lg : Nat) : Int) := by rw [wi64 (by omega) (by omega)]; omega
          have z14 : IntKind.i64.wrap (((4 + m + 2 * lg : Nat) : Int) + 1) = ((4 + (m + (2 * lg + 1)) : Nat) : Int) := by rw [wi64 (by omega) (by omega)]; omega
          have hlog' := fun g => hlog g (by omega)
          simp [a1, hu2, hy1, hbsl, hbl, a3, hnw, st4, a5, a6, q0, q1, q3, a7', zn, hmx, -maxV2, cnt, hi3, hi15, show 3 ≤ a by omega, show 15 ≤ a by omega, zA, z6, z7, z8, z9, z10, z11, hlog', z12, z13, z14, -Int.natCast_add, -Int.natCast_mul]
  rw [fin0]; exact ⟨rfl, x7h⟩
theorem core5 {Hd : Type} {enc : TypeId × Value → Hd} {W : World} {base : Nat} {v0 v1 v2 : Value} {d0 d1 d2 : DataW Hd} {p0 p1 p2 : List MemPlace} {k : Prop}
    (hok : Value.okWide Try.prog W .any base 3 v0) (hd : DataW.Trod enc Try.prog W 0 (fun _ => true) true 3 v0 d0 p0)
    (hok1 : Value.okWide Try.prog W .any base 3 v1) (hd1 : DataW.Trod enc Try.prog W 0 (fun _ => true) true 3 v1 d1 p1)
    (hok2 : Value.okWide Try.prog W .any base 3 v2) (hd2 : DataW.Trod enc Try.prog W 0 (fun _ => true) true 3 v2 d2 p2) (hk : k) :
    Calls Try.prog 5 #[v0, v1, v2] W fun e W' => e = .returned (.bool true) ∧ Go.RowKit.Below W.heap.size W W' := by
  obtain ⟨m, rfl, _, _⟩ := Go.ChangeShapes.open_int Try.underlying3 hok hd
  obtain ⟨d, rfl, _, _⟩ := Go.ChangeShapes.open_int Try.underlying3 hok1 hd1
  obtain ⟨x, rfl, _, _⟩ := Go.ChangeShapes.open_int Try.underlying3 hok2 hd2
  have a := ArgH.empty W
  obtain ⟨w, h'', hrun, rfl, _⟩ := (amounts5_ok m d x H.empty).elim
  exact law_calls (us := [.int .i64 m, .int .i64 d, .int .i64 x]) (callW_ok mixed kp ovC_ok hrun) a.rel (.cons (.int _ _) (.cons (.int _ _) (.cons (.int _ _) .nil))) a.dom a.no
end Go.Proofs.Ytbajipmhnoakeaa
