/- mean, paeth, soft. -/
import Derived.Test.YtpjcmgmmolediaaIg
set_option linter.unusedVariables false
set_option linter.unusedSimpArgs false
namespace Go.Proofs.Ytpjcmgmmolediaa
open Go Go.Zf Go.RowKit

theorem sum_take_succ (l : List Nat) (k : Nat) (hk : k < l.length) : (l.take (k + 1)).sum = (l.take k).sum + l.getD k 0 := by
  rw [List.take_add_one, List.sum_append]; simp [List.getD, hk]
theorem sum_take_le (l : List Nat) (hl : ∀ i, i < l.length → l.getD i 0 < 256) : ∀ k, k ≤ l.length → (l.take k).sum ≤ 255 * k
  | 0, _ => by simp
  | k + 1, hk => by
    have := sum_take_le l hl k (by omega)
    have := hl k (by omega)
    rw [sum_take_succ l k (by omega)]; omega

structure I32 (h0 : H) (v : V) (l : List Nat) (s0 : Int) (c1 c2 c4 c20 c21 c22 : V) (n : Nat) (en : E) (g : H) : Prop where
  hg : g = h0
  hn : n ≤ l.length
  p1 : en.s [0, 1, 2, 3, 4, 6, 8, 20, 21, 22, 26, 27, 28] 1 = c1
  p2 : en.s [0, 1, 2, 3, 4, 6, 8, 20, 21, 22, 26, 27, 28] 2 = c2
  p3 : en.s [0, 1, 2, 3, 4, 6, 8, 20, 21, 22, 26, 27, 28] 3 = .int .i64 (s0 + ((l.take (l.length - n)).sum : Nat))
  p4 : en.s [0, 1, 2, 3, 4, 6, 8, 20, 21, 22, 26, 27, 28] 4 = c4
  p20 : en.s [0, 1, 2, 3, 4, 6, 8, 20, 21, 22, 26, 27, 28] 20 = c20
  p21 : en.s [0, 1, 2, 3, 4, 6, 8, 20, 21, 22, 26, 27, 28] 21 = c21
  p22 : en.s [0, 1, 2, 3, 4, 6, 8, 20, 21, 22, 26, 27, 28] 22 = c22
  p26 : en.s [0, 1, 2, 3, 4, 6, 8, 20, 21, 22, 26, 27, 28] 26 = v
  p27 : en.s [0, 1, 2, 3, 4, 6, 8, 20, 21, 22, 26, 27, 28] 27 = .int .i64 l.length
  p28 : en.s [0, 1, 2, 3, 4, 6, 8, 20, 21, 22, 26, 27, 28] 28 = .int .i64 ((l.length - n : Nat) : Int)

theorem loop32 {h : H} {v : V} {l : List Nat} (a : ByAt h v l) (hl : l.length < 100000) {s0 : Int} (s1 : 0 ≤ s0) (s2 : s0 ≤ 1000000000) (c1 c2 c4 c20 c21 c22 : V) (en : E) (hi : I32 h v l s0 c1 c2 c4 c20 c21 c22 l.length en h) :
    ∃ e', loopZ (l32_0 KW loopZ) en h = some ⟨.ex 2, e', h⟩ ∧ I32 h v l s0 c1 c2 c4 c20 c21 c22 0 e' h := by
  obtain ⟨s, k1, k2, k3⟩ := loop_run (body := l32_0 KW loopZ) (I32 h v l s0 c1 c2 c4 c20 c21 c22) (fun s => s.x = .ex 2 ∧ I32 h v l s0 c1 c2 c4 c20 c21 c22 0 s.e s.h)
    (fun n en g hi => by
      obtain ⟨rfl, hn, p1, p2, p3, p4, p20, p21, p22, p26, p27, p28⟩ := hi
      cases n with
      | zero =>
        simp [l32_0, p27, p28]
        exact ⟨rfl, rfl, hn, by simpa using p1, by simpa using p2, by simpa using p3, by simpa using p4, by simpa using p20, by simpa using p21, by simpa using p22, by simpa using p26, by simp, by simp⟩
      | succ n =>
        obtain ⟨k, hk⟩ : ∃ k, k = l.length - (n + 1) := ⟨_, rfl⟩
        have hk2 : l.length - n = k + 1 := by omega
        obtain ⟨b, o, g1, g2, g3⟩ := a.at_ k (by omega)
        have hlt := a.lt k (by omega)
        have hsum := sum_take_le l a.lt k (by omega)
        have hs := sum_take_succ l k (by omega)
        rw [← hk] at p28 p3
        obtain ⟨x, hx⟩ : ∃ x, x = l.getD k 0 := ⟨_, rfl⟩
        rw [← hx] at hlt g2 hs
        obtain ⟨s, hss⟩ : ∃ s, s = (l.take k).sum := ⟨_, rfl⟩
        rw [← hss] at hsum hs p3
        have z1 : IntKind.i64.wrap (x : Int) = x := Go.Zf.wi64 (by omega) (by omega)
        have z2 : IntKind.i64.wrap (s0 + (s : Int) + x) = s0 + s + x := Go.Zf.wi64 (by omega) (by omega)
        have z3 : IntKind.i64.wrap ((k : Int) + 1) = k + 1 := Go.Zf.wi64 (by omega) (by omega)
        simp [l32_0, p27, p28, show (k : Int) < l.length by omega, show k < l.length by omega, p26, g1, g2, p3, z1, z2, z3]
        refine ⟨n, Nat.lt_succ_self n, rfl, by omega, by simpa using p1, by simpa using p2, ?_, by simpa using p4, by simpa using p20, by simpa using p21, by simpa using p22, by simp, by simp, ?_⟩
        · simp [hk2, hs]; omega
        · simp [hk2]) l.length en h hi
  obtain ⟨x, e', h'⟩ := s
  simp only at k2 k3
  subst k2
  have := k3.hg
  subst this
  exact ⟨e', k1, k3⟩

def meanV (a l : List Nat) : Nat := if a.length + l.length = 0 then 128 else (a.sum + l.sum + (a.length + l.length) / 2) / (a.length + l.length)

theorem mean32_ok {h : H} {ha hl : Bool} {A L : V} {a l : List Nat} {c : Int} (aA : ByAt h A a) (aL : ByAt h L l) (la : a.length < 100000) (ll : l.length < 100000) :
    RT (fun w h' => w = .int .i64 (meanV a l : Nat) ∧ Ext h h') (KW 32 [.agg (edges ha hl A L c)] h) := by
  unfold edges
  obtain ⟨h1, hh1⟩ : ∃ g, g = h.new (.cells [.bool ha, .bool hl, A, L, .int .u8 c] 25 false) := ⟨_, rfl⟩
  have x1 : Ext h h1 := by rw [hh1]; exact (Ext.refl h).new _
  have g0 : h1.get h.n = some (.cells [.bool ha, .bool hl, A, L, .int .u8 c] 25 false) := by rw [hh1, get_new_same]
  obtain ⟨h2, hh2⟩ : ∃ g, g = h1.new (.cells [A, L] 23 false) := ⟨_, rfl⟩
  have x2 : Ext h1 h2 := by rw [hh2]; exact (Ext.refl h1).new _
  have g1 : h2.get h1.n = some (.cells [A, L] 23 false) := by rw [hh2, get_new_same]
  have bA := (aA.ext x1).ext x2
  have bL := (aL.ext x1).ext x2
  have z0 : IntKind.i64.wrap ((a.length : Int) + l.length) = a.length + l.length := Go.Zf.wi64 (by omega) (by omega)
  have z1 : IntKind.i64.wrap 1 = 1 := Go.Zf.wi64 (by omega) (by omega)
  have z2 : IntKind.i64.wrap 2 = 2 := Go.Zf.wi64 (by omega) (by omega)
  have tA := sum_take_le a aA.lt a.length (Nat.le_refl _)
  have tL := sum_take_le l aL.lt l.length (Nat.le_refl _)
  simp only [List.take_length] at tA tL
  have round : ∀ (en : E) (j : Nat) (v : V) (m : List Nat) (s0 : Int), ByAt h2 v m → m.length < 100000 → 0 ≤ s0 → s0 ≤ 1000000000 → [A, L][j]? = some v → j < 2 →
      en.s [0, 1, 2, 3, 4, 6, 8, 20, 21, 22, 26, 27, 28] 3 = .int .i64 s0 → en.s [0, 1, 2, 3, 4, 6, 8, 20, 21, 22, 26, 27, 28] 20 = .sl h1.n 0 2 (.ex 2) →
      en.s [0, 1, 2, 3, 4, 6, 8, 20, 21, 22, 26, 27, 28] 21 = .int .i64 2 → en.s [0, 1, 2, 3, 4, 6, 8, 20, 21, 22, 26, 27, 28] 22 = .int .i64 (j : Int) →
      ∃ e', l32_1 KW loopZ en h2 = some ⟨.nm, e', h2⟩ ∧ e'.s [0, 1, 2, 3, 4, 6, 8, 20, 21, 22, 26, 27, 28] 3 = .int .i64 (s0 + (m.sum : Nat)) ∧ e'.s [0, 1, 2, 3, 4, 6, 8, 20, 21, 22, 26, 27, 28] 20 = .sl h1.n 0 2 (.ex 2) ∧
        e'.s [0, 1, 2, 3, 4, 6, 8, 20, 21, 22, 26, 27, 28] 21 = .int .i64 2 ∧ e'.s [0, 1, 2, 3, 4, 6, 8, 20, 21, 22, 26, 27, 28] 22 = .int .i64 ((j + 1 : Nat) : Int) ∧
        e'.s [0, 1, 2, 3, 4, 6, 8, 20, 21, 22, 26, 27, 28] 4 = en.s [0, 1, 2, 3, 4, 6, 8, 20, 21, 22, 26, 27, 28] 4 := by
    intro en j v m s0 bv hm s1 s2 hj hj2 q3 q20 q21 q22
    obtain ⟨e', k1, ⟨_, _, p1, p2, p3, p4, p20, p21, p22, p26, p27, p28⟩⟩ := loop32 bv hm s1 s2 (en.s [0, 1, 2, 3, 4, 6, 8, 20, 21, 22, 26, 27, 28] 1) (en.s [0, 1, 2, 3, 4, 6, 8, 20, 21, 22, 26, 27, 28] 2) (en.s [0, 1, 2, 3, 4, 6, 8, 20, 21, 22, 26, 27, 28] 4) (.sl h1.n 0 2 (.ex 2)) (.int .i64 2) (.int .i64 (j : Int))
      ⟨[en.s [0, 1, 2, 3, 4, 6, 8, 20, 21, 22, 26, 27, 28] 0, en.s [0, 1, 2, 3, 4, 6, 8, 20, 21, 22, 26, 27, 28] 1, en.s [0, 1, 2, 3, 4, 6, 8, 20, 21, 22, 26, 27, 28] 2, .int .i64 s0, en.s [0, 1, 2, 3, 4, 6, 8, 20, 21, 22, 26, 27, 28] 4, v, en.s [0, 1, 2, 3, 4, 6, 8, 20, 21, 22, 26, 27, 28] 8, .sl h1.n 0 2 (.ex 2), .int .i64 2, .int .i64 (j : Int), v, .int .i64 m.length, .int .i64 0], 28, .int .i64 0⟩
      ⟨rfl, Nat.le_refl _, by simp, by simp, by simp, by simp, by simp, by simp, by simp, by simp, by simp, by simp⟩
    have zj : IntKind.i64.wrap ((j : Int) + 1) = j + 1 := Go.Zf.wi64 (by omega) (by omega)
    obtain ⟨cs, hcs⟩ : ∃ cs, cs = [A, L] := ⟨_, rfl⟩
    have g1' := g1
    rw [← hcs] at g1' hj
    simp [l32_1, q3, q20, q21, q22, show (j : Int) < 2 by omega, hj2, rd1_of g1', hj, bv.len, k1, p22, zj, p3, p20, p21, p4]
  obtain ⟨e1, r1, a3, a20, a21, a22, a4⟩ := round ⟨[.agg [.bool ha, .bool hl, A, L, .int .u8 c], .ptr h.n 0, .int .i64 0, .int .i64 0, .int .i64 ((a.length : Int) + l.length), .und, .und, .sl h1.n 0 2 (.ex 2), .int .i64 2, .int .i64 0, .und, .und, .und], 22, .int .i64 0⟩ 0 A a 0 bA la (by omega) (by omega) rfl (by omega) (by simp) (by simp) (by simp) (by simp)
  obtain ⟨e2, r2, b3, b20, b21, b22, b4⟩ := round e1 1 L l _ bL ll (by omega) (by omega) rfl (by omega) a3 a20 a21 a22
  have hloop : loopZ (l32_1 KW loopZ) ⟨[.agg [.bool ha, .bool hl, A, L, .int .u8 c], .ptr h.n 0, .int .i64 0, .int .i64 0, .int .i64 ((a.length : Int) + l.length), .und, .und, .sl h1.n 0 2 (.ex 2), .int .i64 2, .int .i64 0, .und, .und, .und], 22, .int .i64 0⟩ h2 = some ⟨.ex 0, ⟨[e2.s [0, 1, 2, 3, 4, 6, 8, 20, 21, 22, 26, 27, 28] 0, e2.s [0, 1, 2, 3, 4, 6, 8, 20, 21, 22, 26, 27, 28] 1, e2.s [0, 1, 2, 3, 4, 6, 8, 20, 21, 22, 26, 27, 28] 2, e2.s [0, 1, 2, 3, 4, 6, 8, 20, 21, 22, 26, 27, 28] 3, e2.s [0, 1, 2, 3, 4, 6, 8, 20, 21, 22, 26, 27, 28] 4, e2.s [0, 1, 2, 3, 4, 6, 8, 20, 21, 22, 26, 27, 28] 6, e2.s [0, 1, 2, 3, 4, 6, 8, 20, 21, 22, 26, 27, 28] 8, e2.s [0, 1, 2, 3, 4, 6, 8, 20, 21, 22, 26, 27, 28] 20, .int .i64 2, .int .i64 2, e2.s [0, 1, 2, 3, 4, 6, 8, 20, 21, 22, 26, 27, 28] 26, e2.s [0, 1, 2, 3, 4, 6, 8, 20, 21, 22, 26, 27, 28] 27, e2.s [0, 1, 2, 3, 4, 6, 8, 20, 21, 22, 26, 27, 28] 28], 23, .bool false⟩, h2⟩ := by
    rw [loopZ_eq, r1, sq_nm, loopZ_eq, r2, sq_nm, loopZ_eq]
    simp [l32_1, b21, b22]
  simp only [V_und_tup] at hloop
  simp at a4
  have hb4 : e2.s [0, 1, 2, 3, 4, 6, 8, 20, 21, 22, 26, 27, 28] 4 = .int .i64 ((a.length : Int) + l.length) := by rw [b4, a4]
  rw [w32, f32, s32]
  have sA := aA.same
  have sL := aL.same
  by_cases hz : a.length + l.length = 0
  · have hz' : (a.length : Int) + l.length = 0 := by omega
    rw [hz'] at hloop z0 hb4
    simp [bx, ← hh1, rd1_of g0, aA.len, aL.len, hz', z0, ck, sA, sL, bs, fillW, aA.cells, aL.cells, splice, ← hh2, hloop, hb4, meanV, hz]
    exact ⟨rfl, x1.trans x2⟩
  · have hz' : ¬ (a.length : Int) + l.length = 0 := by omega
    have hq : ((a.length : Int) + l.length).tdiv 2 = (((a.length + l.length) / 2 : Nat) : Int) := by rw [Int.tdiv_eq_ediv_of_nonneg (by omega)]; omega
    have z3 : IntKind.i64.wrap (((a.length + l.length) / 2 : Nat) : Int) = ((a.length + l.length) / 2 : Nat) := Go.Zf.wi64 (by omega) (by omega)
    have z4 : IntKind.i64.wrap ((a.sum : Int) + (l.sum : Int) + ((a.length + l.length) / 2 : Nat)) = (a.sum + l.sum + (a.length + l.length) / 2 : Nat) := by rw [Go.Zf.wi64 (by omega) (by omega)]; omega
    have hq2 : ((a.sum + l.sum + (a.length + l.length) / 2 : Nat) : Int).tdiv ((a.length : Int) + l.length) = ((a.sum + l.sum + (a.length + l.length) / 2) / (a.length + l.length) : Nat) := by
      rw [Int.tdiv_eq_ediv_of_nonneg (by omega)]; rw [Int.natCast_ediv]; rfl
    have hle : (a.sum + l.sum + (a.length + l.length) / 2) / (a.length + l.length) ≤ a.sum + l.sum + (a.length + l.length) / 2 := Nat.div_le_self _ _
    obtain ⟨q, hqq⟩ : ∃ q, q = (a.length + l.length) / 2 := ⟨_, rfl⟩
    rw [← hqq] at hq z3 z4 hq2 hle
    obtain ⟨r, hrr⟩ : ∃ r, r = a.sum + l.sum + q := ⟨_, rfl⟩
    rw [← hrr] at z4 hq2 hle
    have hm : meanV a l = r / (a.length + l.length) := by unfold meanV; rw [if_neg hz, ← hqq, ← hrr]
    rw [hm]
    obtain ⟨m, hmm⟩ : ∃ m, m = r / (a.length + l.length) := ⟨_, rfl⟩
    rw [← hmm] at hq2 hle
    rw [← hmm]
    have z5 : IntKind.i64.wrap (m : Int) = m := Go.Zf.wi64 (by omega) (by omega)
    simp only [Int.zero_add] at b3
    simp [bx, ← hh1, rd1_of g0, aA.len, aL.len, hz', z0, ck, sA, sL, bs, fillW, aA.cells, aL.cells, splice, ← hh2, hloop, hb4, b3, hq, z3, z4, hq2, z5, V.same]
    exact ⟨rfl, x1.trans x2⟩

end Go.Proofs.Ytpjcmgmmolediaa
