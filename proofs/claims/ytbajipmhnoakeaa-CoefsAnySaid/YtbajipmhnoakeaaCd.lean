/- Small functions of coefs and scan: flag, endKind, Class, side, must, Len, context. -/
import Derived.Test.YtbajipmhnoakeaaCc
import Derived.KernelRfl
set_option linter.unusedVariables false
set_option linter.unusedSimpArgs false
set_option maxRecDepth 20000
namespace Go.Proofs.Ytbajipmhnoakeaa
open Go Go.Zf
open Go.Zf (wi64)

theorem log2_of {x k : Nat} (h1 : 2 ^ k ≤ x) (h2 : x < 2 ^ (k + 1)) : Nat.log2 x = k := by
  have hx : x ≠ 0 := by have := Nat.two_pow_pos k; omega
  have a := (Nat.le_log2 hx (k := k)).2 h1
  have b := (Nat.log2_lt hx (k := k + 1)).2 h2
  omega
theorem log2_b {x : Nat} (hx : x ≠ 0) : 2 ^ Nat.log2 x ≤ x ∧ x < 2 ^ (Nat.log2 x + 1) := ⟨(Nat.le_log2 hx).1 (Nat.le_refl _), (Nat.log2_lt hx).1 (Nat.lt_succ_self _)⟩
theorem log2_div {x k : Nat} (h : 2 ^ k ≤ x) : Nat.log2 (x / 2 ^ k) + k = Nat.log2 x := by
  have hx : x ≠ 0 := by have := Nat.two_pow_pos k; omega
  have hp := Nat.two_pow_pos k
  have hy : x / 2 ^ k ≠ 0 := by
    have := (Nat.le_div_iff_mul_le hp (x := 1) (y := x)).2 (by omega)
    omega
  have hb := log2_b hy
  refine (log2_of ?_ ?_).symm
  · rw [Nat.pow_add]; exact (Nat.le_div_iff_mul_le hp).1 hb.1
  · rw [show Nat.log2 (x / 2 ^ k) + k + 1 = (Nat.log2 (x / 2 ^ k) + 1) + k by omega, Nat.pow_add]; exact (Nat.div_lt_iff_lt_mul hp).1 hb.2

def lenL : List UInt8 := [0, 1, 2, 2, 3, 3, 3, 3, 4, 4, 4, 4, 4, 4, 4, 4, 5, 5, 5, 5, 5, 5, 5, 5, 5, 5, 5, 5, 5, 5, 5, 5, 6, 6, 6, 6, 6, 6, 6, 6, 6, 6, 6, 6, 6, 6, 6, 6, 6, 6, 6, 6, 6, 6, 6, 6, 6, 6, 6, 6, 6, 6, 6, 6, 7, 7, 7, 7, 7, 7, 7, 7, 7, 7, 7, 7, 7, 7, 7, 7, 7, 7, 7, 7, 7, 7, 7, 7, 7, 7, 7, 7, 7, 7, 7, 7, 7, 7, 7, 7, 7, 7, 7, 7, 7, 7, 7, 7, 7, 7, 7, 7, 7, 7, 7, 7, 7, 7, 7, 7, 7, 7, 7, 7, 7, 7, 7, 7, 8, 8, 8, 8, 8, 8, 8, 8, 8, 8, 8, 8, 8, 8, 8, 8, 8, 8, 8, 8, 8, 8, 8, 8, 8, 8, 8, 8, 8, 8, 8, 8, 8, 8, 8, 8, 8, 8, 8, 8, 8, 8, 8, 8, 8, 8, 8, 8, 8, 8, 8, 8, 8, 8, 8, 8, 8, 8, 8, 8, 8, 8, 8, 8, 8, 8, 8, 8, 8, 8, 8, 8, 8, 8, 8, 8, 8, 8, 8, 8, 8, 8, 8, 8, 8, 8, 8, 8, 8, 8, 8, 8, 8, 8, 8, 8, 8, 8, 8, 8, 8, 8, 8, 8, 8, 8, 8, 8, 8, 8, 8, 8, 8, 8, 8, 8, 8, 8, 8, 8, 8, 8, 8, 8, 8, 8, 8, 8]
theorem lenL_map : lenL.map (fun c => c.toNat) = (List.range 256).map (fun x => if x = 0 then 0 else Nat.log2 x + 1) := by kernel_rfl
theorem lenL_at {x : Nat} (h0 : x ≠ 0) (hx : x < 256) : ixS (.str lenL) (.int .u8 (x : Nat)) = some (.int .u8 (Nat.log2 x + 1 : Nat)) := by
  have h1 : (lenL.map (fun c => c.toNat))[x]? = some (Nat.log2 x + 1) := by rw [lenL_map]; simp [hx, h0]
  rw [List.getElem?_map] at h1
  obtain ⟨c, hc, h2⟩ := Option.map_eq_some_iff.1 h1
  simp [ixS, hc, h2]
theorem wu8n {n : Nat} (h : n < 256) : IntKind.u8.wrap (n : Int) = n := wu8 (by omega) (by omega)

noncomputable def s72' (K : Oracle) (L : Looper) (e : E) (h : H) : Out :=
 sq (some ⟨.nm, ⟨[(e.s k72 0), (.int .i64 0)], 2, (.int .i64 0)⟩, h⟩) fun e h =>
 sq (sq (bd (binK 0 .geq (e.s k72 0) (.int .u64 4294967296)) fun t4 =>
 some ⟨.nm, ux72 e 4 t4, h⟩) fun e h =>
 br (e.s k72 4) (sq (bd (binK 0 .shr (e.s k72 0) (.int .u64 32)) fun t6 =>
 some ⟨.nm, ⟨[t6, (e.s k72 2)], 0, t6⟩, h⟩) fun e h =>
 some ⟨.nm, ⟨[(e.s k72 0), (.int .i64 32)], 2, (.int .i64 32)⟩, h⟩)
 (some ⟨.nm, e, h⟩)) fun e h =>
 sq (sq (bd (binK 0 .geq (e.s k72 0) (.int .u64 65536)) fun t8 =>
 some ⟨.nm, ux72 e 8 t8, h⟩) fun e h =>
 br (e.s k72 8) (sq (bd (binK 0 .shr (e.s k72 0) (.int .u64 16)) fun t10 =>
 some ⟨.nm, ⟨[t10, (e.s k72 2)], 0, t10⟩, h⟩) fun e h =>
 bd (binK 0 .add (e.s k72 2) (.int .i64 16)) fun t12 =>
 some ⟨.nm, ⟨[(e.s k72 0), t12], 2, t12⟩, h⟩)
 (some ⟨.nm, e, h⟩)) fun e h =>
 sq (sq (bd (binK 0 .geq (e.s k72 0) (.int .u64 256)) fun t14 =>
 some ⟨.nm, ux72 e 14 t14, h⟩) fun e h =>
 br (e.s k72 14) (sq (bd (binK 0 .shr (e.s k72 0) (.int .u64 8)) fun t16 =>
 some ⟨.nm, ⟨[t16, (e.s k72 2)], 0, t16⟩, h⟩) fun e h =>
 bd (binK 0 .add (e.s k72 2) (.int .i64 8)) fun t18 =>
 some ⟨.nm, ⟨[(e.s k72 0), t18], 2, t18⟩, h⟩)
 (some ⟨.nm, e, h⟩)) fun e h =>
 sq (bd (cv .u8 (e.s k72 0)) fun t21 =>
 bd (ixS (.str lenL) t21) fun t22 =>
 bd (cv .i64 t22) fun t23 =>
 bd (binK 0 .add (e.s k72 2) t23) fun t24 =>
 some ⟨.nm, ⟨[(e.s k72 0), t24], 2, t24⟩, h⟩) fun e h =>
 some ⟨.rt, e, h⟩
theorem s72_e : s72 = s72' := by kernel_rfl
theorem len72_ok {x : Nat} (h0 : x ≠ 0) (hx : x < 4294967296) (h : H) : KW 72 [.int .u64 x] h = some (.ret (.int .i64 (Nat.log2 x + 1 : Nat)), h) := by
  have hl : Nat.log2 x < 32 := (Nat.log2_lt h0).2 hx
  have z : ∀ m : Nat, m < 64 → IntKind.i64.wrap ((m : Int)) = m := fun m hm => wi64 (by omega) (by omega)
  rw [w72, f72, s72_e, s72']
  have key : ∀ (x n : Nat) (e : Int), x ≠ 0 → x < 256 → n + Nat.log2 x < 64 → e = n → IntKind.i64.wrap (e + IntKind.i64.wrap ((Nat.log2 x + 1 : Nat) : Int)) = ((n + (Nat.log2 x + 1) : Nat) : Int) := by
    intro x n e h0 h1 h2 he
    subst he
    have q : IntKind.i64.wrap ((Nat.log2 x + 1 : Nat) : Int) = ((Nat.log2 x + 1 : Nat) : Int) := wi64 (by omega) (by omega)
    rw [q, wi64 (by omega) (by omega)]
    omega
  have tab : ∀ x : Nat, x ≠ 0 → x < 256 → ixS (.str lenL) (.int .u8 (x : Nat)) = some (.int .u8 (Nat.log2 x + 1 : Nat)) := fun x h0 hx => lenL_at h0 hx
  have e0 : decide ((4294967296 : Int) ≤ (x : Int)) = false := by simp; omega
  by_cases c1 : 65536 ≤ x
  · have d1 : (x : Int) / 65536 = ((x / 65536 : Nat) : Int) := by omega
    have l1 := log2_div (x := x) (k := 16) c1
    have n1 : x / 65536 ≠ 0 := by omega
    obtain ⟨y, hy⟩ : ∃ y, y = x / 65536 := ⟨_, rfl⟩
    rw [← hy] at d1 n1
    have hy2 : y < 65536 := by omega
    rw [show x / 2 ^ 16 = y by rw [hy]] at l1
    by_cases c2 : 256 ≤ y
    · have d2 : (y : Int) / 256 = ((y / 256 : Nat) : Int) := by omega
      have l2 := log2_div (x := y) (k := 8) c2
      obtain ⟨u, hu⟩ : ∃ u, u = y / 256 := ⟨_, rfl⟩
      rw [← hu] at d2
      rw [show y / 2 ^ 8 = u by rw [hu]] at l2
      have hu0 : u ≠ 0 := by omega
      have hu1 : u < 256 := by omega
      have k1 := key u 24 24 hu0 hu1 (by omega) rfl
      have t1 := tab u hu0 hu1
      have w1 := wu8n hu1
      have z16 : IntKind.i64.wrap (16 : Int) = 16 := by decide
      have z24 : IntKind.i64.wrap (24 : Int) = 24 := by decide
      have fin : ((24 + (Nat.log2 u + 1) : Nat) : Int) = ((Nat.log2 x + 1 : Nat) : Int) := by omega
      simp [e0, show (4294967296 : Int) ≤ (x : Int) ↔ False by simp; omega, show (65536 : Int) ≤ (x : Int) by omega, IntKind.bits, d1, show (256 : Int) ≤ (y : Int) by omega, d2, w1, t1, z16, z24, -Int.natCast_add, k1, fin]
    · have hy1 : y < 256 := by omega
      have k1 := key y 16 16 n1 hy1 (by omega) rfl
      have t1 := tab y n1 hy1
      have w1 := wu8n hy1
      have z16 : IntKind.i64.wrap (16 : Int) = 16 := by decide
      have fin : ((16 + (Nat.log2 y + 1) : Nat) : Int) = ((Nat.log2 x + 1 : Nat) : Int) := by omega
      simp [e0, show (4294967296 : Int) ≤ (x : Int) ↔ False by simp; omega, show (65536 : Int) ≤ (x : Int) by omega, IntKind.bits, d1, show ¬ (256 : Int) ≤ (y : Int) by omega, w1, t1, z16, -Int.natCast_add, k1, fin]
  · by_cases c2 : 256 ≤ x
    · have d2 : (x : Int) / 256 = ((x / 256 : Nat) : Int) := by omega
      have l2 := log2_div (x := x) (k := 8) c2
      obtain ⟨u, hu⟩ : ∃ u, u = x / 256 := ⟨_, rfl⟩
      rw [← hu] at d2
      rw [show x / 2 ^ 8 = u by rw [hu]] at l2
      have hu0 : u ≠ 0 := by omega
      have hu1 : u < 256 := by omega
      have k1 := key u 8 8 hu0 hu1 (by omega) rfl
      have t1 := tab u hu0 hu1
      have w1 := wu8n hu1
      have z8 : IntKind.i64.wrap (8 : Int) = 8 := by decide
      have fin : ((8 + (Nat.log2 u + 1) : Nat) : Int) = ((Nat.log2 x + 1 : Nat) : Int) := by omega
      simp [e0, show (4294967296 : Int) ≤ (x : Int) ↔ False by simp; omega, show ¬ (65536 : Int) ≤ (x : Int) by omega, IntKind.bits, show (256 : Int) ≤ (x : Int) by omega, d2, w1, t1, z8, -Int.natCast_add, k1, fin]
    · have hy1 : x < 256 := by omega
      have k1 : IntKind.i64.wrap ((Nat.log2 x + 1 : Nat) : Int) = ((Nat.log2 x + 1 : Nat) : Int) := wi64 (by omega) (by omega)
      have t1 := tab x h0 hy1
      have w1 := wu8n hy1
      have fin : ((0 + (Nat.log2 x + 1) : Nat) : Int) = ((Nat.log2 x + 1 : Nat) : Int) := by omega
      simp [e0, show (4294967296 : Int) ≤ (x : Int) ↔ False by simp; omega, show ¬ (65536 : Int) ≤ (x : Int) by omega, IntKind.bits, show ¬ (256 : Int) ≤ (x : Int) by omega, w1, t1, -Int.natCast_add, k1]
theorem len63_ok {x : Nat} (h0 : x ≠ 0) (hx : x < 4294967296) (h : H) : KW 63 [.int .u64 x] h = some (.ret (.int .i64 (Nat.log2 x + 1 : Nat)), h) := by
  rw [w63, f63, s63]
  simp [len72_ok h0 hx h]
theorem flag51_ok (b : Bool) (h : H) : KW 51 [.bool b] h = some (.ret (.int .i64 (if b then 1 else 0)), h) := by
  rw [w51, f51, s51]
  cases b <;> simp
theorem must61_ok (v : Int) (h : H) : KW 61 [.int .i64 v, .int .i64 0] h = some (.ret (.int .i64 v), h) := by
  rw [w61, f61, s61]
  simp
theorem kind53_ok (s : Nat) (h : H) : KW 53 [.int .i64 s] h = some (.ret (.int .i64 (ekP s)), h) := by
  rw [w53, f53, s53]
  unfold ekP
  by_cases h4 : s = 4
  · subst h4; simp
  by_cases h8 : s = 8
  · subst h8; simp
  by_cases h16 : s = 16
  · subst h16; simp
  simp [h4, h8, h16, show ¬ (s : Int) = 4 by omega, show ¬ (s : Int) = 8 by omega, show ¬ (s : Int) = 16 by omega]
theorem two_pow_cast (k : Nat) : ((2 ^ k : Nat) : Int) = 2 ^ k := by simp
theorem class52_ok {e : Nat} (h0 : 1 ≤ e) (h1 : e ≤ 1024) (h : H) : ∃ y, KW 52 [.int .i64 e] h = some (.ret (.tup [.int .i64 (clsP e), y, .int .i64 (extP e), .int .i64 0]), h) := by
  rw [w52, f52, s52]
  by_cases c : e = 1
  · subst c
    simp [clsP, extP]
  · have hne : e - 1 ≠ 0 := by omega
    have hb := log2_b hne
    have hl : Nat.log2 (e - 1) < 10 := (Nat.log2_lt hne).2 (by omega)
    obtain ⟨k, hk⟩ : ∃ k, k = Nat.log2 (e - 1) := ⟨_, rfl⟩
    have e1 : clsP e = k + 1 := by unfold clsP; rw [if_neg c, hk]
    have e2 : extP e = (e : Int) - 2 ^ k - 1 := by unfold extP; rw [if_neg c, e1]; simp
    have a1 : IntKind.i64.wrap ((e : Int) - 1) = ((e - 1 : Nat) : Int) := by rw [wi64 (by omega) (by omega)]; omega
    have a2 : IntKind.u64.wrap (((e - 1 : Nat) : Int)) = ((e - 1 : Nat) : Int) := wu64 (by omega) (by omega)
    have l := len63_ok hne (by omega) h
    rw [← hk] at l hb hl
    have a3 : IntKind.i64.wrap (((k + 1 : Nat) : Int) - 1) = (k : Int) := by rw [wi64 (by omega) (by omega)]; omega
    have p1 : (2 : Nat) ^ k ≤ 1024 := Nat.pow_le_pow_right (by decide) (by omega : k ≤ 10)
    have p2 := two_pow_cast k
    have p0 := Nat.two_pow_pos k
    have a4 : IntKind.i64.wrap ((2 : Int) ^ k) = 2 ^ k := wi64 (by omega) (by omega)
    have a5 : IntKind.i64.wrap ((e : Int) - 2 ^ k) = (e : Int) - 2 ^ k := wi64 (by omega) (by omega)
    have a6 : IntKind.i64.wrap ((e : Int) - 2 ^ k - 1) = (e : Int) - 2 ^ k - 1 := wi64 (by omega) (by omega)
    have mk : min k 64 = k := by omega
    rw [e1, e2]
    simp [show ¬ (e : Int) < 1 by omega, show ¬ (1024 : Int) < (e : Int) by omega, show ¬ (e : Int) = 1 by omega, show ¬ (k : Int) < 0 by omega, a1, a2, l, a3, IntKind.bits, mk, a4, a5, a6, -Int.natCast_add]
def sideP (s : Nat) : Nat := if s = 64 then 32 else s
def sizeOk (s : Nat) : Prop := s = 4 ∨ s = 8 ∨ s = 16 ∨ s = 32 ∨ s = 64
theorem side38_ok {s : Nat} (hs : sizeOk s) (h : H) : KW 38 [.int .i64 s] h = some (.ret (.int .i64 (sideP s)), h) := by
  rw [w38, f38, s38]
  rcases hs with rfl | rfl | rfl | rfl | rfl <;> simp [sideP] <;> decide
theorem side38_no {s : Int} (hs : s ≠ 4 ∧ s ≠ 8 ∧ s ≠ 16 ∧ s ≠ 32 ∧ s ≠ 64) (h : H) : KW 38 [.int .i64 s] h = some (.ret (.int .i64 0), h) := by
  rw [w38, f38, s38]
  simp [hs.1, hs.2.1, hs.2.2.1, hs.2.2.2.1, hs.2.2.2.2]
end Go.Proofs.Ytbajipmhnoakeaa
