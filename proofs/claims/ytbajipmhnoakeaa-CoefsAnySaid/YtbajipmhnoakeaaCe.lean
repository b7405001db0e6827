/- Contexts. -/
import Derived.Test.YtbajipmhnoakeaaCd
set_option linter.unusedVariables false
set_option linter.unusedSimpArgs false
set_option maxRecDepth 20000
namespace Go.Proofs.Ytbajipmhnoakeaa
open Go Go.Zf
open Go.Zf (wi64)

def dsV (ds : List (Nat × Nat)) : List V := ds.flatMap fun d => [.int .i64 (d.1 : Nat), .int .i64 (d.2 : Nat)]
theorem dsV_len (ds : List (Nat × Nat)) : (dsV ds).length = 2 * ds.length := by
  induction ds with
  | nil => rfl
  | cons d ds ih => simp only [dsV, List.flatMap_cons, List.length_append, List.length_cons, List.length_nil] at ih ⊢; omega
theorem dsV_at : ∀ (ds : List (Nat × Nat)) (i : Nat) (d : Nat × Nat), ds[i]? = some d → ((dsV ds).drop (i * 2)).take 2 = [.int .i64 (d.1 : Nat), .int .i64 (d.2 : Nat)]
  | x :: ds, 0, d, h => by simp at h; subst h; simp [dsV]
  | x :: ds, i + 1, d, h => by
    have := dsV_at ds i d (by simpa using h)
    have e : (i + 1) * 2 = i * 2 + 1 + 1 := by omega
    rw [e]
    simpa [dsV] using this
/-- Levels, as they lie. -/
structure LvAt (h : H) (L : Nat) (lv : List Int) : Prop where
  get : h.get L = some (.cells (intsV lv) 3 false)
  b : ∀ v ∈ lv, -4611686018427387904 < v ∧ v < 4611686018427387904
theorem LvAt.rd {h : H} {L : Nat} {lv : List Int} (a : LvAt h L lv) {i : Nat} (hi : i < lv.length) : h.rd1 L i = some (.int .i64 (lv.getD i 0)) := by
  rw [rd1_of a.get, intsV_get _ _ hi]
theorem LvAt.bd {h : H} {L : Nat} {lv : List Int} (a : LvAt h L lv) (i : Nat) : -4611686018427387904 < lv.getD i 0 ∧ lv.getD i 0 < 4611686018427387904 := by
  by_cases hi : i < lv.length
  · have : lv.getD i 0 = lv[i] := by simp [List.getD, hi]
    rw [this]; exact a.b _ (List.getElem_mem hi)
  · have : lv.getD i 0 = 0 := by simp [List.getD, List.getElem?_eq_none (by omega : lv.length ≤ i)]
    rw [this]; omega
theorem LvAt.ext {h h' : H} {L : Nat} {lv : List Int} (a : LvAt h L lv) (x : Ext h h') : LvAt h' L lv := ⟨by rw [x.get _ (H.get_lt a.get), a.get], a.b⟩

theorem tdiv_nat (a b : Nat) : (a : Int).tdiv (b : Int) = ((a / b : Nat) : Int) := rfl
theorem tmod_nat (a b : Nat) : (a : Int).tmod (b : Int) = ((a % b : Nat) : Int) := rfl

abbrev K64 : List Nat := [0, 1, 2, 3, 4, 5, 12, 13, 14, 15, 17, 18, 19, 20, 43, 44, 45]
structure I64 (g0 : H) (L A : Nat) (lv : List Int) (n at_ : Nat) (each all : Int) (ds : List (Nat × Nat)) (j : Nat) (e : E) (g : H) : Prop where
  hj : j ≤ ds.length
  x : Ext g0 g
  e0 : e.s K64 0 = .sl L 0 lv.length (.ex lv.length)
  e2 : e.s K64 2 = .int .i64 (at_ : Nat)
  e3 : e.s K64 3 = .int .i64 each
  e4 : e.s K64 4 = .int .i64 all
  e14 : e.s K64 14 = .int .i64 (n : Nat)
  e15 : e.s K64 15 = .int .i64 (csum lv n at_ each (ds.take (ds.length - j)))
  e43 : e.s K64 43 = .sl A 0 ds.length (.ex ds.length)
  e44 : e.s K64 44 = .int .i64 (ds.length : Nat)
  e45 : e.s K64 45 = .int .i64 ((ds.length - j : Nat) : Int)

theorem csum_take {lv : List Int} {n at_ : Nat} {each : Int} {ds : List (Nat × Nat)} {i : Nat} {d : Nat × Nat} (h : ds[i]? = some d) : csum lv n at_ each (ds.take (i + 1)) = csum lv n at_ each (ds.take i) + cval lv n at_ each d := by
  unfold csum
  rw [List.take_add_one, h]
  simp

theorem loop64 {g0 : H} {L A : Nat} {lv : List Int} {n at_ : Nat} {each all : Int} {ds : List (Nat × Nat)} (hL : LvAt g0 L lv) (hA : g0.get A = some (.cells (dsV ds) 111 false)) (hlv : lv.length = n * n) (hn : 0 < n) (hn2 : n ≤ 32) (ha : at_ < n * n) (he : 0 ≤ each) (he2 : each ≤ 100)
    (hds : ds.length ≤ 8) (hd : ∀ d ∈ ds, d.1 ≤ 2 ∧ d.2 ≤ 2) {e : E} {g : H} (hi : I64 g0 L A lv n at_ each all ds ds.length e g) :
    ∃ e' g', loopZ (l64_0 KW loopZ) e g = some ⟨.ex 0, e', g'⟩ ∧ I64 g0 L A lv n at_ each all ds 0 e' g' := by
  have loop := loop_run (body := l64_0 KW loopZ) (I64 g0 L A lv n at_ each all ds) (fun s => s.x = .ex 0 ∧ I64 g0 L A lv n at_ each all ds 0 s.e s.h)
    (fun j e g hi => by
      obtain ⟨hj, x, e0, e2, e3, e4, e14, e15, e43, e44, e45⟩ := hi
      cases j with
      | zero =>
        rw [Nat.sub_zero] at e45
        simp [l64_0, e45, e44]
        exact ⟨rfl, hj, x, by simp [e0], by simp [e2], by simp [e3], by simp [e4], by simp [e14], by simp [e15], by simp [e43], by simp [e44], by simp [e45]⟩
      | succ j =>
        obtain ⟨i, hi⟩ : ∃ i, i = ds.length - (j + 1) := ⟨_, rfl⟩
        have hi2 : ds.length - j = i + 1 := by omega
        rw [← hi] at e45 e15
        have hil : i < ds.length := by omega
        obtain ⟨d, hdi⟩ : ∃ d, ds[i]? = some d := ⟨_, List.getElem?_eq_getElem hil⟩
        have hd' := hd d (List.mem_of_getElem? hdi)
        have gA : g.get A = _ := (x.get _ (H.get_lt hA)).trans hA
        have rdA : g.rdN A (i * 2) 2 = some [.int .i64 (d.1 : Nat), .int .i64 (d.2 : Nat)] := by
          rw [rdN_of gA (by rw [dsV_len]; omega), dsV_at ds i d hdi]
        obtain ⟨g1, hg1⟩ : ∃ y, y = (g.new (.cells [.int .i64 0, .int .i64 0] 111 false)).put g.n (.cells [.int .i64 (d.1 : Nat), .int .i64 (d.2 : Nat)] 111 false) := ⟨_, rfl⟩
        have x1 : Ext g g1 := by rw [hg1]; exact ((Ext.refl g).new _).put (Nat.le_refl _) _
        have r1 : g1.get g.n = some (.cells [.int .i64 (d.1 : Nat), .int .i64 (d.2 : Nat)] 111 false) := by rw [hg1, get_put_same (by rw [H.n_new]; omega)]
        have hst : (g.new (.cells [.int .i64 0, .int .i64 0] 111 false)).wrN g.n 0 [.int .i64 (d.1 : Nat), .int .i64 (d.2 : Nat)] = some g1 := by
          rw [wrN_of get_new_same (by simp), hg1]; rfl
        have q0 : g1.rd1 g.n 0 = some (.int .i64 (d.1 : Nat)) := by rw [rd1_of r1]; rfl
        have q1 : g1.rd1 g.n 1 = some (.int .i64 (d.2 : Nat)) := by rw [rd1_of r1]; rfl
        obtain ⟨r, hr⟩ : ∃ r, r = at_ / n := ⟨_, rfl⟩
        obtain ⟨c, hc⟩ : ∃ c, c = at_ % n := ⟨_, rfl⟩
        have hrn : r < n := by rw [hr]; exact (Nat.div_lt_iff_lt_mul hn).2 ha
        have hcn : c < n := by rw [hc]; exact Nat.mod_lt _ hn
        have z1 : IntKind.i64.wrap ((at_ : Int) / n) = r := by rw [← Int.natCast_ediv, ← hr]; exact wi64 (by omega) (by omega)
        have z2 : (at_ : Int).tmod n = c := by rw [tmod_nat, ← hc]
        have z3 : IntKind.i64.wrap ((r : Int) + d.1) = ((r + d.1 : Nat) : Int) := by rw [wi64 (by omega) (by omega)]; omega
        have z4 : IntKind.i64.wrap ((c : Int) + d.2) = ((c + d.2 : Nat) : Int) := by rw [wi64 (by omega) (by omega)]; omega
        obtain ⟨r', hr'⟩ : ∃ r', r' = r + d.1 := ⟨_, rfl⟩
        obtain ⟨c', hc'⟩ : ∃ c', c' = c + d.2 := ⟨_, rfl⟩
        rw [← hr'] at z3
        rw [← hc'] at z4
        have z9 : IntKind.i64.wrap ((i : Int) + 1) = ((i + 1 : Nat) : Int) := by rw [wi64 (by omega) (by omega)]; omega
        have hn0 : ¬ n = 0 := by omega
        have cs := csum_take (lv := lv) (n := n) (at_ := at_) (each := each) hdi
        have cb := csum_b lv n at_ he (ds.take i)
        have cb2 : each * ((ds.take i).length : Int) ≤ 800 := by
          have : (ds.take i).length ≤ 8 := by rw [List.length_take]; omega
          calc each * ((ds.take i).length : Int) ≤ 100 * ((ds.take i).length : Int) := Int.mul_le_mul_of_nonneg_right he2 (by omega)
            _ ≤ 800 := by omega
        have vb := cval_b lv n at_ he d
        obtain ⟨S, hS⟩ : ∃ S, S = csum lv n at_ each (ds.take i) := ⟨_, rfl⟩
        rw [← hS] at e15 cs cb
        by_cases co : r' < n ∧ c' < n
        · obtain ⟨p, hp⟩ : ∃ p, p = r' * n + c' := ⟨_, rfl⟩
          have hpl : p < n * n := by
            have : r' * n + n ≤ n * n := by rw [← Nat.succ_mul]; exact Nat.mul_le_mul_right n (by omega)
            omega
          have hpm : r' * n ≤ 1024 := by
            have : r' * n ≤ 32 * 32 := Nat.mul_le_mul (by omega) hn2
            omega
          have z5 : IntKind.i64.wrap ((r' : Int) * n) = ((r' * n : Nat) : Int) := by rw [← Int.natCast_mul]; exact wi64 (by omega) (by omega)
          have z6 : IntKind.i64.wrap ((r' : Int) * n + c') = (p : Int) := by rw [← Int.natCast_mul, wi64 (by omega) (by omega)]; omega
          have rdl := (hL.ext (x.trans x1)).rd (i := p) (by omega)
          have vbd := hL.bd p
          obtain ⟨v, hv⟩ : ∃ v, v = lv.getD p 0 := ⟨_, rfl⟩
          rw [← hv] at rdl vbd
          have ev : cval lv n at_ each d = if 0 ≤ v then imin v each else -imax v (-each) := by
            unfold cval
            rw [← hr, ← hc, ← hr', ← hc', if_pos co, ← hp, ← hv]
          have hplv : p < lv.length := by omega
          have m1 := imin_b v each
          have m2 := imax_b v (-each)
          have z7 : IntKind.i64.wrap (0 - each) = -each := by rw [wi64 (by omega) (by omega)]; omega
          have z8 : IntKind.i64.wrap (0 - imax v (-each)) = -imax v (-each) := by rw [wi64 (by omega) (by omega)]; omega
          by_cases cv0 : 0 ≤ v
          · rw [if_pos cv0] at ev
            rw [ev] at cs vb
            have za : IntKind.i64.wrap (S + imin v each) = csum lv n at_ each (ds.take (i + 1)) := by rw [wi64 (by omega) (by omega)]; omega
            simp [l64_0, nw, e45, e44, show (i : Int) < ds.length by omega, e43, hil, rdA, hst, e2, e14, hn0, z1, z2, q0, q1, z3, z4, show ¬ (n : Int) ≤ (r' : Int) by omega, show ¬ (n : Int) ≤ (c' : Int) by omega, z5, z6, e0, hplv, rdl, cv0, e3, minV_i, -minV2, e15, za, z9, -Int.natCast_add, show i < ds.length by omega]
            exact ⟨j, by omega, by omega, x.trans x1, by simp [e0], by simp [e2], by simp [e3], by simp [e4], by simp [e14], by simp [hi2], by simp [e43], by simp [e44], by simp [hi2]⟩
          · rw [if_neg cv0] at ev
            rw [ev] at cs vb
            have za : IntKind.i64.wrap (S + -imax v (-each)) = csum lv n at_ each (ds.take (i + 1)) := by rw [wi64 (by omega) (by omega)]; omega
            simp [l64_0, nw, e45, e44, show (i : Int) < ds.length by omega, e43, hil, rdA, hst, e2, e14, hn0, z1, z2, q0, q1, z3, z4, show ¬ (n : Int) ≤ (r' : Int) by omega, show ¬ (n : Int) ≤ (c' : Int) by omega, z5, z6, e0, hplv, rdl, cv0, e3, maxV_i, -maxV2, e15, z7, z8, za, z9, -Int.natCast_add, -Int.zero_sub, show i < ds.length by omega]
            exact ⟨j, by omega, by omega, x.trans x1, by simp [e0], by simp [e2], by simp [e3], by simp [e4], by simp [e14], by simp [hi2], by simp [e43], by simp [e44], by simp [hi2]⟩
        · have ev : cval lv n at_ each d = 0 := by
            unfold cval
            rw [← hr, ← hc, ← hr', ← hc', if_neg co]
          rw [ev, Int.add_zero] at cs
          by_cases c1 : n ≤ r'
          · simp [l64_0, nw, e45, e44, show (i : Int) < ds.length by omega, e43, hil, rdA, hst, e2, e14, hn0, z1, z2, q0, q1, z3, z4, show (n : Int) ≤ (r' : Int) by omega, z9, -Int.natCast_add, show i < ds.length by omega]
            exact ⟨j, by omega, by omega, x.trans x1, by simp [e0], by simp [e2], by simp [e3], by simp [e4], by simp [e14], by simp [hi2, e15, cs], by simp [e43], by simp [e44], by simp [hi2]⟩
          · simp [l64_0, nw, e45, e44, show (i : Int) < ds.length by omega, e43, hil, rdA, hst, e2, e14, hn0, z1, z2, q0, q1, z3, z4, show ¬ (n : Int) ≤ (r' : Int) by omega, show (n : Int) ≤ (c' : Int) by omega, z9, -Int.natCast_add, show i < ds.length by omega]
            exact ⟨j, by omega, by omega, x.trans x1, by simp [e0], by simp [e2], by simp [e3], by simp [e4], by simp [e14], by simp [hi2, e15, cs], by simp [e43], by simp [e44], by simp [hi2]⟩)
    ds.length e g hi
  obtain ⟨s, h1, h2, h3⟩ := loop
  obtain ⟨sx, se, sh⟩ := s
  exact ⟨se, sh, by rw [h1]; simp only at h2; rw [h2], h3⟩

theorem sideP_b {s : Nat} (hs : sizeOk s) : 4 ≤ sideP s ∧ sideP s ≤ 32 := by
  unfold sideP
  rcases hs with rfl | rfl | rfl | rfl | rfl <;> decide
theorem ctx64_ok {g : H} {L A : Nat} {lv : List Int} {size at_ : Nat} {each all : Int} {ds : List (Nat × Nat)} (hs : sizeOk size) (hL : LvAt g L lv) (hA : g.get A = some (.cells (dsV ds) 111 false)) (hlv : lv.length = sideP size * sideP size) (ha : at_ < sideP size * sideP size) (he : 0 ≤ each) (he2 : each ≤ 100)
    (hds : ds.length ≤ 8) (hd : ∀ d ∈ ds, d.1 ≤ 2 ∧ d.2 ≤ 2) :
    RT (fun w h' => w = .tup [.int .i64 (ctxP lv (sideP size) at_ each all ds), .int .i64 0] ∧ Ext g h') (KW 64 [.sl L 0 lv.length (.ex lv.length), .int .i64 size, .int .i64 at_, .int .i64 each, .int .i64 all, .sl A 0 ds.length (.ex ds.length)] g) := by
  have hb := sideP_b hs
  have e38 := side38_ok hs g
  obtain ⟨n, hn⟩ : ∃ n, n = sideP size := ⟨_, rfl⟩
  rw [← hn] at hb e38 hlv ha ⊢
  have hnn : n * n ≤ 1024 := by
    have : n * n ≤ 32 * 32 := Nat.mul_le_mul hb.2 hb.2
    omega
  have z1 : IntKind.i64.wrap ((n : Int) * n) = (n : Int) * n := by rw [← Int.natCast_mul]; exact wi64 (by omega) (by omega)
  have hlv2 : (lv.length : Int) = (n : Int) * n := by rw [← Int.natCast_mul, hlv]
  rw [w64, f64, s64]
  have cb := csum_b lv n at_ he ds
  have cb2 : each * (ds.length : Int) ≤ 800 := by
    calc each * (ds.length : Int) ≤ 100 * (ds.length : Int) := Int.mul_le_mul_of_nonneg_right he2 (by omega)
      _ ≤ 800 := by omega
  have z2 : IntKind.i64.wrap (csum lv n at_ each ds + 1) = csum lv n at_ each ds + 1 := wi64 (by omega) (by omega)
  have z3 : IntKind.i64.wrap ((csum lv n at_ each ds + 1) / 2) = (csum lv n at_ each ds + 1) / 2 := wi64 (by omega) (by omega)
  have z4 : (csum lv n at_ each ds + 1).tdiv 2 = (csum lv n at_ each ds + 1) / 2 := Int.tdiv_eq_ediv_of_nonneg (by omega)
  have hn0 : ¬ n = 0 := by omega
  have hat : ¬ (lv.length : Int) ≤ (at_ : Int) := by omega
  simp [e38, hn0, z1, hlv2, show ¬ (at_ : Int) < 0 by omega, show ¬ (n : Int) * n ≤ (at_ : Int) by omega]
  obtain ⟨e', g', r1, I⟩ := loop64 (g0 := g) (L := L) (A := A) (lv := lv) (n := n) (at_ := at_) (each := each) (all := all) (ds := ds) hL hA hlv (by omega) hb.2 ha he he2 hds hd (e := ⟨[.sl L 0 lv.length (.ex lv.length), .int .i64 size, .int .i64 at_, .int .i64 each, .int .i64 all, .sl A 0 ds.length (.ex ds.length), .int .i64 0, .int .i64 0, .int .i64 n, .int .i64 0, .tup [], .tup [], .tup [], .tup [], .sl A 0 ds.length (.ex ds.length), .int .i64 ds.length, .int .i64 0], 45, .int .i64 0⟩)
    ⟨Nat.le_refl _, Ext.refl _, by simp, by simp, by simp, by simp, by simp, by simp [csum], by simp, by simp, by simp⟩
  rw [r1]
  obtain ⟨_, x, e0, e2, e3, e4, e14, e15, e43, e44, e45⟩ := I
  rw [Nat.sub_zero, List.take_length] at e15
  simp only [K64] at e4 e15
  simp [e15, e4, z2, z4, z3, minV_i, -minV2]
  exact ⟨rfl, x⟩

theorem base55_ok {g : H} {L : Nat} {lv : List Int} {size at_ : Nat} (hs : sizeOk size) (hL : LvAt g L lv) (hlv : lv.length = sideP size * sideP size) (ha : at_ < sideP size * sideP size) :
    RT (fun w h' => w = .tup [.int .i64 (baseP lv (sideP size) at_), .int .i64 0] ∧ Ext g h') (KW 55 [.sl L 0 lv.length (.ex lv.length), .int .i64 size, .int .i64 at_] g) := by
  obtain ⟨g1, hg1⟩ : ∃ y, y = g.new (.cells (dsV baseDs) 111 false) := ⟨_, rfl⟩
  have x1 : Ext g g1 := by rw [hg1]; exact (Ext.refl g).new _
  have r1 : g1.get g.n = some (.cells (dsV baseDs) 111 false) := by rw [hg1, get_new_same]
  obtain ⟨w, h', e1, rfl, x2⟩ := (ctx64_ok (A := g.n) (ds := baseDs) (each := 3) (all := 4) hs (hL.ext x1) r1 hlv ha (by decide) (by decide) (by decide) (by decide)).elim
  rw [← (baseP_b lv (sideP size) at_).2] at e1
  have hds : dsV baseDs = [.int .i64 0, .int .i64 1, .int .i64 1, .int .i64 0, .int .i64 1, .int .i64 1, .int .i64 0, .int .i64 2, .int .i64 2, .int .i64 0] := rfl
  rw [hds] at hg1
  have hl : baseDs.length = 5 := rfl
  rw [hl] at e1
  rw [w55, f55, s55]
  simp [bl, bs, fillW, splice, ← hg1, e1]
  exact ⟨rfl, x1.trans x2⟩
theorem more65_ok {g : H} {L : Nat} {lv : List Int} {size at_ : Nat} (hs : sizeOk size) (hL : LvAt g L lv) (hlv : lv.length = sideP size * sideP size) (ha : at_ < sideP size * sideP size) :
    RT (fun w h' => w = .tup [.int .i64 (moreP lv (sideP size) at_), .int .i64 0] ∧ Ext g h') (KW 65 [.sl L 0 lv.length (.ex lv.length), .int .i64 size, .int .i64 at_] g) := by
  obtain ⟨g1, hg1⟩ : ∃ y, y = g.new (.cells (dsV moreDs) 111 false) := ⟨_, rfl⟩
  have x1 : Ext g g1 := by rw [hg1]; exact (Ext.refl g).new _
  have r1 : g1.get g.n = some (.cells (dsV moreDs) 111 false) := by rw [hg1, get_new_same]
  obtain ⟨w, h', e1, rfl, x2⟩ := (ctx64_ok (A := g.n) (ds := moreDs) (each := 15) (all := 6) hs (hL.ext x1) r1 hlv ha (by decide) (by decide) (by decide) (by decide)).elim
  rw [← (moreP_b lv (sideP size) at_).2] at e1
  have hds : dsV moreDs = [.int .i64 0, .int .i64 1, .int .i64 1, .int .i64 0, .int .i64 1, .int .i64 1] := rfl
  rw [hds] at hg1
  have hl : moreDs.length = 3 := rfl
  rw [hl] at e1
  rw [w65, f65, s65]
  simp [bl, bs, fillW, splice, ← hg1, e1]
  exact ⟨rfl, x1.trans x2⟩
end Go.Proofs.Ytbajipmhnoakeaa
