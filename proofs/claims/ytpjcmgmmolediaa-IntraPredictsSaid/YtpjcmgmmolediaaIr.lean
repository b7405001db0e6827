/- The document's answer: its small functions. -/
import Derived.Test.YtpjcmgmmolediaaIq
set_option linter.unusedVariables false
set_option linter.unusedSimpArgs false
namespace Go.Proofs.Ytpjcmgmmolediaa
open Go Go.Zf Go.RowKit

theorem w56 (p0 p1 : V) (h : H) : KW 56 [p0, p1] h = f56 KW loopZ p0 p1 h := (callW_eqF _ _ _ _ _ _ rfl).trans (congrFun (congrFun (congrFun (congrFun (congrFun (r56) _) _) p0) p1) h)
theorem w57 (p0 p1 p2 : V) (h : H) : KW 57 [p0, p1, p2] h = f57 KW loopZ p0 p1 p2 h := (callW_eqF _ _ _ _ _ _ rfl).trans (congrFun (congrFun (congrFun (congrFun (congrFun (congrFun (r57) _) _) p0) p1) p2) h)
theorem w58 (p0 : V) (h : H) : KW 58 [p0] h = f58 KW loopZ p0 h := (callW_eqF _ _ _ _ _ _ rfl).trans (congrFun (congrFun (congrFun (congrFun (r58) _) _) p0) h)
theorem w59 (p0 p1 p2 p3 : V) (h : H) : KW 59 [p0, p1, p2, p3] h = f59 KW loopZ p0 p1 p2 p3 h := (callW_eqF _ _ _ _ _ _ rfl).trans (congrFun (congrFun (congrFun (congrFun (congrFun (congrFun (congrFun (r59) _) _) p0) p1) p2) p3) h)
theorem w60 (p0 : V) (h : H) : KW 60 [p0] h = f60 KW loopZ p0 h := (callW_eqF _ _ _ _ _ _ rfl).trans (congrFun (congrFun (congrFun (congrFun (r60) _) _) p0) h)
theorem w70 (p0 : V) (h : H) : KW 70 [p0] h = f70 KW loopZ p0 h := (callW_eqF _ _ _ _ _ _ rfl).trans (congrFun (congrFun (congrFun (congrFun (r70) _) _) p0) h)
theorem w44 (p0 p1 p2 p3 p4 p5 : V) (h : H) : KW 44 [p0, p1, p2, p3, p4, p5] h = f44 KW loopZ p0 p1 p2 p3 p4 p5 h := (callW_eqF _ _ _ _ _ _ rfl).trans (congrFun (congrFun (congrFun (congrFun (congrFun (congrFun (congrFun (congrFun (congrFun (r44) _) _) p0) p1) p2) p3) p4) p5) h)
theorem w42 (p0 p1 p2 : V) (h : H) : KW 42 [p0, p1, p2] h = f42 KW loopZ p0 p1 p2 h := (callW_eqF _ _ _ _ _ _ rfl).trans (congrFun (congrFun (congrFun (congrFun (congrFun (congrFun (r42) _) _) p0) p1) p2) h)
theorem w43 (p0 p1 p2 p3 p4 : V) (h : H) : KW 43 [p0, p1, p2, p3, p4] h = f43 KW loopZ p0 p1 p2 p3 p4 h := (callW_eqF _ _ _ _ _ _ rfl).trans (congrFun (congrFun (congrFun (congrFun (congrFun (congrFun (congrFun (congrFun (r43) _) _) p0) p1) p2) p3) p4) h)
theorem w41 (p0 p1 : V) (h : H) : KW 41 [p0, p1] h = f41 KW loopZ p0 p1 h := (callW_eqF _ _ _ _ _ _ rfl).trans (congrFun (congrFun (congrFun (congrFun (congrFun (r41) _) _) p0) p1) h)
theorem w38 (p0 p1 : V) (h : H) : KW 38 [p0, p1] h = f38 KW loopZ p0 p1 h := (callW_eqF _ _ _ _ _ _ rfl).trans (congrFun (congrFun (congrFun (congrFun (congrFun (r38) _) _) p0) p1) h)
theorem w39 (p0 p1 : V) (h : H) : KW 39 [p0, p1] h = f39 KW loopZ p0 p1 h := (callW_eqF _ _ _ _ _ _ rfl).trans (congrFun (congrFun (congrFun (congrFun (congrFun (r39) _) _) p0) p1) h)
theorem w40 (p0 p1 : V) (h : H) : KW 40 [p0, p1] h = f40 KW loopZ p0 p1 h := (callW_eqF _ _ _ _ _ _ rfl).trans (congrFun (congrFun (congrFun (congrFun (congrFun (r40) _) _) p0) p1) h)
theorem w37 (p0 p1 : V) (h : H) : KW 37 [p0, p1] h = f37 KW loopZ p0 p1 h := (callW_eqF _ _ _ _ _ _ rfl).trans (congrFun (congrFun (congrFun (congrFun (congrFun (r37) _) _) p0) p1) h)
theorem w15 (p0 p1 p2 p3 : V) (h : H) : KW 15 [p0, p1, p2, p3] h = f15 KW loopZ p0 p1 p2 p3 h := (callW_eqF _ _ _ _ _ _ rfl).trans (congrFun (congrFun (congrFun (congrFun (congrFun (congrFun (congrFun (r15) _) _) p0) p1) p2) p3) h)

def stpR (t : Int) : Int := if t = 48 then 57 else if t = 51 then 51 else if t = 54 then 45 else if t = 58 then 40 else if t = 61 then 35 else if t = 64 then 31 else if t = 67 then 27 else if t = 70 then 23 else if t = 73 then 19 else if t = 76 then 15 else if t = 81 then 11 else if t = 84 then 7 else 3
def slR (t : Int) : Int := if t = 3 then 1023 else if t = 6 then 547 else if t = 9 then 372 else if t = 14 then 273 else if t = 17 then 215 else if t = 20 then 178 else if t = 23 then 151 else if t = 26 then 132 else if t = 29 then 116 else if t = 32 then 102 else if t = 36 then 90 else if t = 39 then 80 else if t = 42 then 71 else if t = 45 then 64 else stpR t

theorem steep70_ok (t : Int) (h : H) : KW 70 [.int .i64 t] h = some (.ret (.int .i64 (stpR t)), h) := by
  rw [w70, f70, s70]
  unfold stpR
  by_cases c48 : t = 48
  · simp [c48]
  ·
    by_cases c51 : t = 51
    · simp [c48, c51]
    ·
      by_cases c54 : t = 54
      · simp [c48, c51, c54]
      ·
        by_cases c58 : t = 58
        · simp [c48, c51, c54, c58]
        ·
          by_cases c61 : t = 61
          · simp [c48, c51, c54, c58, c61]
          ·
            by_cases c64 : t = 64
            · simp [c48, c51, c54, c58, c61, c64]
            ·
              by_cases c67 : t = 67
              · simp [c48, c51, c54, c58, c61, c64, c67]
              ·
                by_cases c70 : t = 70
                · simp [c48, c51, c54, c58, c61, c64, c67, c70]
                ·
                  by_cases c73 : t = 73
                  · simp [c48, c51, c54, c58, c61, c64, c67, c70, c73]
                  ·
                    by_cases c76 : t = 76
                    · simp [c48, c51, c54, c58, c61, c64, c67, c70, c73, c76]
                    ·
                      by_cases c81 : t = 81
                      · simp [c48, c51, c54, c58, c61, c64, c67, c70, c73, c76, c81]
                      ·
                        by_cases c84 : t = 84
                        · simp [c48, c51, c54, c58, c61, c64, c67, c70, c73, c76, c81, c84]
                        ·
                          simp [c48, c51, c54, c58, c61, c64, c67, c70, c73, c76, c81, c84]

theorem slope60_ok (t : Int) (h : H) : KW 60 [.int .i64 t] h = some (.ret (.int .i64 (slR t)), h) := by
  rw [w60, f60, s60]
  unfold slR
  by_cases c3 : t = 3
  · simp [c3]
  ·
    by_cases c6 : t = 6
    · simp [c3, c6]
    ·
      by_cases c9 : t = 9
      · simp [c3, c6, c9]
      ·
        by_cases c14 : t = 14
        · simp [c3, c6, c9, c14]
        ·
          by_cases c17 : t = 17
          · simp [c3, c6, c9, c14, c17]
          ·
            by_cases c20 : t = 20
            · simp [c3, c6, c9, c14, c17, c20]
            ·
              by_cases c23 : t = 23
              · simp [c3, c6, c9, c14, c17, c20, c23]
              ·
                by_cases c26 : t = 26
                · simp [c3, c6, c9, c14, c17, c20, c23, c26]
                ·
                  by_cases c29 : t = 29
                  · simp [c3, c6, c9, c14, c17, c20, c23, c26, c29]
                  ·
                    by_cases c32 : t = 32
                    · simp [c3, c6, c9, c14, c17, c20, c23, c26, c29, c32]
                    ·
                      by_cases c36 : t = 36
                      · simp [c3, c6, c9, c14, c17, c20, c23, c26, c29, c32, c36]
                      ·
                        by_cases c39 : t = 39
                        · simp [c3, c6, c9, c14, c17, c20, c23, c26, c29, c32, c36, c39]
                        ·
                          by_cases c42 : t = 42
                          · simp [c3, c6, c9, c14, c17, c20, c23, c26, c29, c32, c36, c39, c42]
                          ·
                            by_cases c45 : t = 45
                            · simp [c3, c6, c9, c14, c17, c20, c23, c26, c29, c32, c36, c39, c42, c45]
                            ·
                              simp [c3, c6, c9, c14, c17, c20, c23, c26, c29, c32, c36, c39, c42, c45, steep70_ok]

def clipI (x lo hi : Int) : Int := if x < lo then lo else if hi < x then hi else x
theorem clipI_bd {x hi : Int} (h : 0 ≤ hi) : 0 ≤ clipI x 0 hi ∧ clipI x 0 hi ≤ hi := by
  unfold clipI; repeat' split
  all_goals omega
theorem clip57_ok (x lo hi : Int) (h : H) : KW 57 [.int .i64 x, .int .i64 lo, .int .i64 hi] h = some (.ret (.int .i64 (clipI x lo hi)), h) := by
  rw [w57, f57, s57]
  unfold clipI
  by_cases c1 : x < lo
  · simp [c1]
  · by_cases c2 : hi < x
    · simp [c1, c2]
    · simp [c1, c2]
def absI (x : Int) : Int := if x < 0 then -x else x
theorem abs58_ok (x : Int) (h : H) (h0 : -1000000 ≤ x) (h1 : x ≤ 1000000) : KW 58 [.int .i64 x] h = some (.ret (.int .i64 (absI x)), h) := by
  have z : IntKind.i64.wrap (-x) = -x := Go.Zf.wi64 (by omega) (by omega)
  rw [w58, f58, s58]
  unfold absI
  by_cases c1 : x < 0
  · simp [c1, z]
  · simp [c1]

/-- A long edge: its list. -/
def rdI (l : List Int) (i : Int) : Int := l.getD (clipI (i + 4) 0 ((l.length : Int) - 1)).toNat 0
theorem at56_ok {p : Nat} {h : H} {sv : V} {l : List Int} {u : Int} (G : GrowV p h sv 3 1 (intsV l) l.length) (h0 : 0 < l.length) (h1 : l.length < 100000) {i : Int} (i0 : -1000000 ≤ i) (i1 : i ≤ 1000000) :
    RT (fun w h' => w = .int .i64 (rdI l i) ∧ Ext h h') (KW 56 [.agg [sv, .int .i64 u], .int .i64 i] h) := by
  obtain ⟨h1', hh1⟩ : ∃ g, g = h.new (.cells [sv, .int .i64 u] 68 false) := ⟨_, rfl⟩
  have x1 : Ext h h1' := by rw [hh1]; exact (Ext.refl h).new _
  have g1 : h1'.get h.n = some (.cells [sv, .int .i64 u] 68 false) := by rw [hh1, get_new_same]
  have z1 : IntKind.i64.wrap (i + 4) = i + 4 := Go.Zf.wi64 (by omega) (by omega)
  have z2 : IntKind.i64.wrap ((l.length : Int) - 1) = (l.length : Int) - 1 := Go.Zf.wi64 (by omega) (by omega)
  have hcb := clipI_bd (x := i + 4) (hi := (l.length : Int) - 1) (by omega)
  obtain ⟨k, hk⟩ : ∃ k : Nat, (k : Int) = clipI (i + 4) 0 ((l.length : Int) - 1) := ⟨(clipI (i + 4) 0 ((l.length : Int) - 1)).toNat, by omega⟩
  have hkl : k < l.length := by omega
  obtain ⟨b, o, q1, q2, q3⟩ := (G.ext x1).at hkl (intsV_get l k hkl)
  have hr : rdI l i = l.getD k 0 := by unfold rdI; rw [← hk]; rfl
  rw [hr]
  obtain ⟨y, hy⟩ : ∃ y, y = l.getD k 0 := ⟨_, rfl⟩
  rw [← hy] at q2
  rw [← hy]
  have hs := G.same
  rw [w56, f56, s56]
  simp [bx, ← hh1, rd1_of g1, G.len, z1, z2, clip57_ok, ← hk, q1, q2, ck, hs, V.same]
  exact ⟨rfl, x1⟩

theorem far_abs (v p : Int) : farV v p = absI (v - p) := by
  unfold farV absI; split <;> split <;> omega
theorem near_abs (l a c : Int) : nearV l a c = if absI (l - (l + a - c)) ≤ absI (a - (l + a - c)) ∧ absI (l - (l + a - c)) ≤ absI (c - (l + a - c)) then l else if absI (a - (l + a - c)) ≤ absI (c - (l + a - c)) then a else c := by
  unfold nearV
  simp only [far_abs]
  obtain ⟨p, hp⟩ : ∃ p, p = l + a - c := ⟨_, rfl⟩
  rw [← hp]
  by_cases e1 : absI (a - p) < absI (l - p)
  · simp only [e1, if_true]
    by_cases e2 : absI (c - p) < absI (a - p)
    · rw [if_pos e2, if_neg (by omega), if_neg (by omega)]
    · rw [if_neg e2, if_neg (by omega), if_pos (by omega)]
  · simp only [e1, if_false]
    by_cases e2 : absI (c - p) < absI (l - p)
    · rw [if_pos e2, if_neg (by omega), if_neg (by omega)]
    · rw [if_neg e2, if_pos (by omega)]

theorem near42_ok {l a c : Int} (h : H) (l0 : 0 ≤ l) (l1 : l ≤ 255) (a0 : 0 ≤ a) (a1 : a ≤ 255) (c0 : 0 ≤ c) (c1 : c ≤ 255) : KW 42 [.int .i64 l, .int .i64 a, .int .i64 c] h = some (.ret (.int .i64 (nearV l a c)), h) := by
  have z1 : IntKind.i64.wrap (l + a) = l + a := Go.Zf.wi64 (by omega) (by omega)
  have z2 : IntKind.i64.wrap (l + a - c) = l + a - c := Go.Zf.wi64 (by omega) (by omega)
  rw [near_abs]
  obtain ⟨p, hp⟩ : ∃ p, p = l + a - c := ⟨_, rfl⟩
  have z3 : IntKind.i64.wrap (l - p) = l - p := Go.Zf.wi64 (by omega) (by omega)
  have z4 : IntKind.i64.wrap (a - p) = a - p := Go.Zf.wi64 (by omega) (by omega)
  have z5 : IntKind.i64.wrap (c - p) = c - p := Go.Zf.wi64 (by omega) (by omega)
  have k1 := abs58_ok (l - p) h (by omega) (by omega)
  have k2 := abs58_ok (a - p) h (by omega) (by omega)
  have k3 := abs58_ok (c - p) h (by omega) (by omega)
  rw [← hp] at z2
  rw [← hp]
  obtain ⟨x1, hx1⟩ : ∃ x, x = absI (l - p) := ⟨_, rfl⟩
  obtain ⟨x2, hx2⟩ : ∃ x, x = absI (a - p) := ⟨_, rfl⟩
  obtain ⟨x3, hx3⟩ : ∃ x, x = absI (c - p) := ⟨_, rfl⟩
  rw [← hx1] at k1
  rw [← hx2] at k2
  rw [← hx3] at k3
  rw [← hx1, ← hx2, ← hx3]
  rw [w42, f42, s42]
  by_cases e1 : x1 ≤ x2
  · by_cases e2 : x1 ≤ x3
    · simp [z1, ← hp, z2, z3, z4, z5, k1, k2, k3, e1, e2]
    · by_cases e3 : x2 ≤ x3
      · simp [z1, ← hp, z2, z3, z4, z5, k1, k2, k3, e1, e2, e3]
      · simp [z1, ← hp, z2, z3, z4, z5, k1, k2, k3, e1, e2, e3]
  · by_cases e3 : x2 ≤ x3
    · simp [z1, ← hp, z2, z3, z4, z5, k1, k2, k3, e1, e3, gl_t]
    · simp [z1, ← hp, z2, z3, z4, z5, k1, k2, k3, e1, e3, gl_t]
end Go.Proofs.Ytpjcmgmmolediaa
