/- may: something that can be coded. -/
import Derived.Test.YtfjghgjkpenanaaSaf
set_option linter.unusedVariables false
set_option linter.unusedSimpArgs false
set_option maxRecDepth 20000
namespace Go.Proofs.Ytfjghgjkpenanaa
open Go Go.Zf
open Go.Zf (wi64)

theorem cell43 (h : H) (b o : Nat) : ldV Try.prog 43 h (.ptr b o) = ldn 5 h (.ptr b o) := by
  have h1 : isAggT Try.prog 43 = some true := by kernel_rfl
  have h2 : szT Try.prog 43 = some 5 := by kernel_rfl
  simp [ldV, h1, h2]
attribute [simp] cell43
def Dd.may (x : Dd) : Dd :=
  if x.b then ⟨true, x.n % 16, x.k, x.c, x.v % 2 ^ (x.n % 16).toNat⟩
  else ⟨false, x.n, x.k % 32, x.c % 65536 % cx (x.k % 32).toNat, x.v % 65536 % vl (x.k % 32).toNat⟩

theorem may28_ok (x : Dd) (h : H) : RT (fun w h' => w = .agg x.may.cells ∧ Ext h h') (KW 28 [.agg x.cells] h) := by
  obtain ⟨b, n, k, c, v⟩ := x
  simp only [Dd.cells, Dd.may]
  obtain ⟨h1, hh1⟩ : ∃ g, g = h.new (.cells [.bool b, .int .i64 n, .int .i64 k, .int .i64 c, .int .i64 v] 43 false) := ⟨_, rfl⟩
  have hbx : bx h 43 (.agg [.bool b, .int .i64 n, .int .i64 k, .int .i64 c, .int .i64 v]) = some (.ptr h.n 0, h1) := by rw [hh1]; rfl
  obtain ⟨h2, hh2⟩ : ∃ g, g = h1.new (.cells [.bool false, .int .i64 0, .int .i64 0, .int .i64 0, .int .i64 0] 43 false) := ⟨_, rfl⟩
  have x1 : Ext h h1 := by rw [hh1]; exact (Ext.refl h).new _
  have x2 : Ext h1 h2 := by rw [hh2]; exact (Ext.refl h1).new _
  have n1 : h1.n = h.n + 1 := by rw [hh1, H.n_new]
  have n2 : h2.n = h1.n + 1 := by rw [hh2, H.n_new]
  have r2 : h2.get h.n = some (.cells [.bool b, .int .i64 n, .int .i64 k, .int .i64 c, .int .i64 v] 43 false) := by rw [x2.get _ (by omega), hh1, get_new_same]
  have q2 : h2.get h1.n = some (.cells [.bool false, .int .i64 0, .int .i64 0, .int .i64 0, .int .i64 0] 43 false) := by rw [hh2, get_new_same]
  have put2 : ∀ (g : H) (cs : List V), Ext h g → h.n < g.n → Ext h (g.put h.n (.cells cs 43 false)) := fun g cs e _ => e.put (Nat.le_refl _) _
  rw [w28, f28, s28]
  cases b with
  | true =>
    obtain ⟨m, hm⟩ : ∃ m : Nat, n % 16 = m := ⟨(n % 16).toNat, by omega⟩
    have hm16 : m < 16 := by omega
    have mk : binK 0 .and (.int .i64 n) (.int .i64 15) = some (.int .i64 m) := by
      have := binK_mask 0 n 4 (by decide)
      rw [← hm]; simpa using this
    obtain ⟨P, hP⟩ : ∃ P, P = pw m := ⟨_, rfl⟩
    have hPl : P ≤ 32768 := by rw [hP, show 32768 = pw 15 from rfl]; exact Nat.pow_le_pow_right (by decide) (by omega)
    have hP1 : 1 ≤ P := by rw [hP]; exact Nat.two_pow_pos _
    have hmin : min m IntKind.i64.bits = m := Nat.min_eq_left (by rw [show IntKind.i64.bits = 64 from rfl]; omega)
    have hpw : (2 : Int) ^ m = P := by rw [hP, pw]; simp
    have z1 : IntKind.i64.wrap (P : Int) = P := wi64 (by omega) (by omega)
    have z2 : IntKind.i64.wrap ((P : Int) - 1) = P - 1 := wi64 (by omega) (by omega)
    have mk2 : binK 0 .and (.int .i64 v) (.int .i64 ((P : Int) - 1)) = some (.int .i64 (v % P)) := by
      have := binK_mask 0 v m (by omega)
      rw [hpw] at this; exact this
    obtain ⟨h3, hh3⟩ : ∃ g, g = h2.put h.n (.cells [.bool true, .int .i64 m, .int .i64 k, .int .i64 c, .int .i64 v] 43 false) := ⟨_, rfl⟩
    have r3 : h3.get h.n = some (.cells [.bool true, .int .i64 m, .int .i64 k, .int .i64 c, .int .i64 v] 43 false) := by rw [hh3, get_put_same (H.get_lt r2)]
    obtain ⟨h4, hh4⟩ : ∃ g, g = h3.put h.n (.cells [.bool true, .int .i64 m, .int .i64 k, .int .i64 c, .int .i64 (v % P)] 43 false) := ⟨_, rfl⟩
    have r4 : h4.get h.n = some (.cells [.bool true, .int .i64 m, .int .i64 k, .int .i64 c, .int .i64 (v % P)] 43 false) := by rw [hh4, get_put_same (H.get_lt r3)]
    have q4 : h4.get h1.n = some (.cells [.bool false, .int .i64 0, .int .i64 0, .int .i64 0, .int .i64 0] 43 false) := by rw [hh4, get_put_ne (by omega), hh3, get_put_ne (by omega), q2]
    obtain ⟨h5, hh5⟩ : ∃ g, g = h4.put h1.n (.cells [.bool true, .int .i64 m, .int .i64 k, .int .i64 c, .int .i64 (v % P)] 43 false) := ⟨_, rfl⟩
    have r5 : h5.get h1.n = some (.cells [.bool true, .int .i64 m, .int .i64 k, .int .i64 c, .int .i64 (v % P)] 43 false) := by rw [hh5, get_put_same (H.get_lt q4)]
    have w3 : h2.wr1 h.n 1 (.int .i64 m) = some h3 := by rw [wr1_of r2 (by simp), hh3]; rfl
    have w4 : h3.wr1 h.n 4 (.int .i64 (v % P)) = some h4 := by rw [wr1_of r3 (by simp), hh4]; rfl
    have w5 : h4.wrN h1.n 0 [.bool true, .int .i64 m, .int .i64 k, .int .i64 c, .int .i64 (v % P)] = some h5 := by rw [wrN_of q4 (by simp), hh5]; rfl
    simp [-binK_and, hbx, nw, ← hh2, rd1_of r2, mk, w3, rd1_of r3, show ¬ (m : Int) < 0 by omega, hmin, hpw, z1, z2, mk2, w4, rdN_of (o := 0) (n := 5) r4 (by simp), w5, rdN_of (o := 0) (n := 5) r5 (by simp)]
    refine ⟨by rw [hm, Int.toNat_natCast, hpw], ?_⟩
    rw [hh5]
    refine Ext.put ?_ (by omega) _
    rw [hh4]
    refine Ext.put ?_ (Nat.le_refl _) _
    rw [hh3]
    exact (x1.trans x2).put (Nat.le_refl _) _
  | false =>
    obtain ⟨K, hK⟩ : ∃ m : Nat, k % 32 = m := ⟨(k % 32).toNat, by omega⟩
    have hK32 : K < 32 := by omega
    have mk : binK 0 .and (.int .i64 k) (.int .i64 31) = some (.int .i64 K) := by
      have := binK_mask 0 k 5 (by decide)
      rw [← hK]; simpa using this
    have hcx := cx_le hK32
    have hvl := vl_le hK32
    have mkc : binK 0 .and (.int .i64 c) (.int .i64 65535) = some (.int .i64 (c % 65536)) := by
      have := binK_mask 0 c 16 (by decide)
      simpa using this
    have mkv : binK 0 .and (.int .i64 v) (.int .i64 65535) = some (.int .i64 (v % 65536)) := by
      have := binK_mask 0 v 16 (by decide)
      simpa using this
    have tc : (c % 65536).tmod (cx K : Int) = c % 65536 % cx K := Int.tmod_eq_emod_of_nonneg (by omega)
    have tv : (v % 65536).tmod (vl K : Int) = v % 65536 % vl K := Int.tmod_eq_emod_of_nonneg (by omega)
    obtain ⟨C, hC⟩ : ∃ C, C = c % 65536 % cx K := ⟨_, rfl⟩
    obtain ⟨V', hV⟩ : ∃ C, C = v % 65536 % vl K := ⟨_, rfl⟩
    rw [← hC] at tc
    rw [← hV] at tv
    obtain ⟨h3, hh3⟩ : ∃ g, g = h2.put h.n (.cells [.bool false, .int .i64 n, .int .i64 K, .int .i64 c, .int .i64 v] 43 false) := ⟨_, rfl⟩
    have r3 : h3.get h.n = some (.cells [.bool false, .int .i64 n, .int .i64 K, .int .i64 c, .int .i64 v] 43 false) := by rw [hh3, get_put_same (H.get_lt r2)]
    have q3 : h3.get h1.n = some (.cells [.bool false, .int .i64 0, .int .i64 0, .int .i64 0, .int .i64 0] 43 false) := by rw [hh3, get_put_ne (by omega), q2]
    have x3 : Ext h h3 := by rw [hh3]; exact (x1.trans x2).put (Nat.le_refl _) _
    obtain ⟨w, h4, e33, rfl, x4⟩ := (shape33_ok (K : Int) h3).elim
    rw [if_pos ⟨by omega, by omega⟩, Int.toNat_natCast] at e33
    have r4 : h4.get h.n = _ := (x4.get _ (H.get_lt r3)).trans r3
    have q4 : h4.get h1.n = _ := (x4.get _ (H.get_lt q3)).trans q3
    obtain ⟨h5, hh5⟩ : ∃ g, g = h4.put h.n (.cells [.bool false, .int .i64 n, .int .i64 K, .int .i64 C, .int .i64 v] 43 false) := ⟨_, rfl⟩
    have r5 : h5.get h.n = some (.cells [.bool false, .int .i64 n, .int .i64 K, .int .i64 C, .int .i64 v] 43 false) := by rw [hh5, get_put_same (H.get_lt r4)]
    obtain ⟨h6, hh6⟩ : ∃ g, g = h5.put h.n (.cells [.bool false, .int .i64 n, .int .i64 K, .int .i64 C, .int .i64 V'] 43 false) := ⟨_, rfl⟩
    have r6 : h6.get h.n = some (.cells [.bool false, .int .i64 n, .int .i64 K, .int .i64 C, .int .i64 V'] 43 false) := by rw [hh6, get_put_same (H.get_lt r5)]
    have q6 : h6.get h1.n = some (.cells [.bool false, .int .i64 0, .int .i64 0, .int .i64 0, .int .i64 0] 43 false) := by rw [hh6, get_put_ne (by omega), hh5, get_put_ne (by omega), q4]
    obtain ⟨h7, hh7⟩ : ∃ g, g = h6.put h1.n (.cells [.bool false, .int .i64 n, .int .i64 K, .int .i64 C, .int .i64 V'] 43 false) := ⟨_, rfl⟩
    have r7 : h7.get h1.n = some (.cells [.bool false, .int .i64 n, .int .i64 K, .int .i64 C, .int .i64 V'] 43 false) := by rw [hh7, get_put_same (H.get_lt q6)]
    have w3 : h2.wr1 h.n 2 (.int .i64 K) = some h3 := by rw [wr1_of r2 (by simp), hh3]; rfl
    have w5 : h4.wr1 h.n 3 (.int .i64 C) = some h5 := by rw [wr1_of r4 (by simp), hh5]; rfl
    have w6 : h5.wr1 h.n 4 (.int .i64 V') = some h6 := by rw [wr1_of r5 (by simp), hh6]; rfl
    have w7 : h6.wrN h1.n 0 [.bool false, .int .i64 n, .int .i64 K, .int .i64 C, .int .i64 V'] = some h7 := by rw [wrN_of q6 (by simp), hh7]; rfl
    simp [-binK_and, hbx, nw, ← hh2, rd1_of r2, mk, w3, rd1_of r3, e33, show ¬ (cx K : Int) < 1 by omega, show ¬ (vl K : Int) < 1 by omega, show cx K ≠ 0 by omega, show vl K ≠ 0 by omega, rd1_of r4, mkc, tc, show ¬ (cx K : Int) = 0 by omega, w5, rd1_of r5, mkv, tv, show ¬ (vl K : Int) = 0 by omega, w6, rdN_of (o := 0) (n := 5) r6 (by simp), w7, rdN_of (o := 0) (n := 5) r7 (by simp)]
    refine ⟨by rw [hK, Int.toNat_natCast, hC, hV], ?_⟩
    rw [hh7]
    refine Ext.put ?_ (by omega) _
    rw [hh6]
    refine Ext.put ?_ (Nat.le_refl _) _
    rw [hh5]
    exact (x3.trans x4).put (Nat.le_refl _) _
end Go.Proofs.Ytfjghgjkpenanaa
