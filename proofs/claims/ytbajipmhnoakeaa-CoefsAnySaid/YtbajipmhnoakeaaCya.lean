/- may. -/
import Derived.Test.YtbajipmhnoakeaaCy
set_option linter.unusedVariables false
set_option linter.unusedSimpArgs false
set_option maxRecDepth 20000
namespace Go.Proofs.Ytbajipmhnoakeaa
open Go Go.Zf
open Go.Zf (wi64)

def mayS (s : Int) : Nat := 4 * 2 ^ bringP s 5
theorem mayS_ok (s : Int) : sizeOk (mayS s) := by
  have := bringP_lt s (n := 5) (by decide)
  unfold mayS sizeOk
  obtain ⟨r, hr⟩ : ∃ r, r = bringP s 5 := ⟨_, rfl⟩
  rw [← hr] at this ⊢
  match r, this with
  | 0, _ => decide
  | 1, _ => decide
  | 2, _ => decide
  | 3, _ => decide
  | 4, _ => decide
def mayF (l : List Int) (i N : Nat) : List Int := (List.range N).map fun k => if k < i ∧ k < l.length then (l.getD k 0).tmod 1048576 else 0
def mayL (l : List Int) (N : Nat) : List Int := (List.range N).map fun k => if k < l.length then (l.getD k 0).tmod 1048576 else 0
theorem mayF_len (l : List Int) (i N : Nat) : (mayF l i N).length = N := by simp [mayF]
theorem mayL_len (l : List Int) (N : Nat) : (mayL l N).length = N := by simp [mayL]
theorem mayF_set {l : List Int} {i N : Nat} (hi : i < N) (hl : i < l.length) : (mayF l i N).set i ((l.getD i 0).tmod 1048576) = mayF l (i + 1) N := by
  apply List.ext_getElem?
  intro k
  rw [List.getElem?_set]
  unfold mayF
  by_cases hk : k < N
  · by_cases e : i = k
    · subst e
      simp [hk, hl]
    · simp [hk, e, show (k < i + 1 ↔ k < i) by omega]
  · have : ¬ i = k := by omega
    simp [hk, this]
theorem mayF_zero (l : List Int) (N : Nat) : mayF l 0 N = List.replicate N 0 := by
  apply List.ext_getElem?
  intro k
  by_cases hk : k < N <;> simp [mayF, hk]
theorem mayF_end {l : List Int} {i N : Nat} (h : ¬ (i < N ∧ i < l.length)) : mayF l i N = mayL l N := by
  apply List.ext_getElem?
  intro k
  by_cases hk : k < N
  · simp only [mayF, mayL, List.getElem?_map, List.getElem?_range hk, Option.map_some]
    by_cases hl : k < l.length
    · rw [if_pos ⟨by omega, hl⟩, if_pos hl]
    · rw [if_neg (by rintro ⟨_, q⟩; exact hl q), if_neg hl]
  · simp [mayF, mayL, hk]
theorem tmod_b (x : Int) : -1048576 < x.tmod 1048576 ∧ x.tmod 1048576 < 1048576 := by
  have q1 := Int.tmod_lt_of_pos x (b := 1048576) (by decide)
  refine ⟨?_, q1⟩
  by_cases hx : 0 ≤ x
  · have := Int.tmod_nonneg (1048576 : Int) hx; omega
  · have e : x.tmod 1048576 = -((-x).tmod 1048576) := by rw [Int.neg_tmod, Int.neg_neg]
    have := Int.tmod_lt_of_pos (-x) (b := 1048576) (by decide)
    omega
theorem mayL_b (l : List Int) (N : Nat) : ∀ x ∈ mayL l N, -1048576 ≤ x ∧ x ≤ 1048576 := by
  intro x hx
  obtain ⟨k, _, rfl⟩ := List.mem_map.1 hx
  split
  · have := tmod_b (l.getD k 0); omega
  · omega

abbrev K9 : List Nat := [0, 1, 2, 3, 4, 5]
structure I9 (g0 : H) (A L : Nat) (l : List Int) (N : Nat) (j : Nat) (e : E) (g : H) : Prop where
  hj : j ≤ N
  x : Mod (fun b => b = L) g0 g
  gL : g.get L = some (.cells (intsV (mayF l (N - j) N)) 3 false)
  e1 : e.s K9 1 = .ptr A 0
  e2 : e.s K9 2 = .ptr (A + 1) 0
  e4 : e.s K9 4 = .sl L 0 N (.ex N)
  e5 : e.s K9 5 = .int .i64 ((N - j : Nat) : Int)
theorem IntsX.mod {X : Nat → Prop} {h h' : H} {v : V} {l : List Int} (a : IntsX X h v l) {D : Nat → Prop} (m : Mod D h h') (hx : ∀ b, b < h.n → D b → X b) : IntsX X h' v l :=
  a.keep m.n (fun b hb nx => m.get b hb fun hd => nx (hx b hb hd)) (fun _ _ h => h)
theorem loop9 {g0 : H} {A L : Nat} {a b c v : V} {l : List Int} {N : Nat} (gA : g0.get A = some (.cells [a, b, c, v] 34 false)) (hv : IntsX (fun b => b = L) g0 v l) (hN : N ≤ 1024) (hAL : A ≠ L) {e : E} {g : H} (hi : I9 g0 A L l N N e g) :
    ∃ e' g', loopZ (l9_0 KW loopZ) e g = some ⟨.ex 0, e', g'⟩ ∧ Mod (fun b => b = L) g0 g' ∧ g'.get L = some (.cells (intsV (mayL l N)) 3 false) ∧ e'.s K9 1 = .ptr A 0 ∧ e'.s K9 2 = .ptr (A + 1) 0 ∧ e'.s K9 4 = .sl L 0 N (.ex N) := by
  have loop := loop_run (body := l9_0 KW loopZ) (I9 g0 A L l N) (fun st => st.x = .ex 0 ∧ Mod (fun b => b = L) g0 st.h ∧ st.h.get L = some (.cells (intsV (mayL l N)) 3 false) ∧ st.e.s K9 1 = .ptr A 0 ∧ st.e.s K9 2 = .ptr (A + 1) 0 ∧ st.e.s K9 4 = .sl L 0 N (.ex N)) (fun j e g hi => by
    obtain ⟨hj, x, gL, e1, e2, e4, e5⟩ := hi
    obtain ⟨i, hi⟩ : ∃ i, i = N - j := ⟨_, rfl⟩
    rw [← hi] at e5 gL
    have V := hv.mod x (fun b _ h => h)
    have vl := V.len
    have ga : g.get A = _ := (x.get A (H.get_lt gA) hAL).trans gA
    have q3 : g.rd1 A 3 = some v := by rw [rd1_of ga]; rfl
    by_cases cn : i < N
    · by_cases cl : i < l.length
      · obtain ⟨b1, o1, t1, t2, _, _⟩ := V.at_ i _ (List.getElem?_eq_getElem cl)
        have hg : l[i] = l.getD i 0 := by simp [List.getD, cl]
        rw [hg] at t2
        have hs := mayF_set cn cl
        have w1 : g.wr1 L i (.int .i64 ((l.getD i 0).tmod 1048576)) = some (g.put L (.cells (intsV (mayF l (i + 1) N)) 3 false)) := by
          rw [wr1_of gL (by rw [intsV_length, mayF_len]; exact cn), ← hs]; simp [intsV, List.map_set]
        obtain ⟨y, hy⟩ : ∃ y, y = (l.getD i 0).tmod 1048576 := ⟨_, rfl⟩
        rw [← hy] at w1
        obtain ⟨z, hz⟩ : ∃ z, z = l.getD i 0 := ⟨_, rfl⟩
        rw [← hz] at t2 hy
        obtain ⟨g1, hg1⟩ : ∃ g1, g1 = g.put L (.cells (intsV (mayF l (i + 1) N)) 3 false) := ⟨_, rfl⟩
        rw [← hg1] at w1
        have z1 : IntKind.i64.wrap ((i : Int) + 1) = ((i + 1 : Nat) : Int) := by rw [wi64 (by omega) (by omega)]; omega
        simp [l9_0, e4, e5, show (i : Int) < N by omega, cn, e1, q3, vl, show (i : Int) < l.length by omega, cl, t1, t2, ← hy, w1, z1, -Int.natCast_add]
        refine ⟨j - 1, by omega, by omega, ⟨?_, ?_⟩, ?_, by simp, by simp [e2], by simp, by simp [show N - (j - 1) = i + 1 by omega]⟩
        · rw [hg1, H.n_put]; exact x.n
        · intro b hb hd
          have hd' : b ≠ L := hd
          rw [hg1, get_put_ne hd', x.get b hb hd]
        · rw [hg1, get_put_same (H.get_lt gL), show N - (j - 1) = i + 1 by omega]
      · rw [mayF_end (by omega)] at gL
        simp [l9_0, e4, e5, show (i : Int) < N by omega, cn, e1, q3, vl, show ¬ (i : Int) < l.length by omega, cl]
        exact ⟨rfl, x, gL, by simp, by simp [e2], by simp⟩
    · rw [mayF_end (by omega)] at gL
      simp [l9_0, e4, e5, show ¬ (i : Int) < N by omega, cn, gl_t]
      exact ⟨rfl, x, gL, by simp [e1], by simp [e2], by simp⟩)
    N e g hi
  obtain ⟨s, h1, h2, h3⟩ := loop
  obtain ⟨sx, se, sh⟩ := s
  exact ⟨se, sh, by rw [h1]; simp only at h2; rw [h2], h3⟩

theorem cell34 (h : H) (b o : Nat) : ldV Try.prog 34 h (.ptr b o) = ldn 4 h (.ptr b o) := by
  have h1 : isAggT Try.prog 34 = some true := by kernel_rfl
  have h2 : szT Try.prog 34 = some 4 := by kernel_rfl
  simp [ldV, h1, h2]
theorem may9_ok {h : H} {s p q : Int} {v : V} {l : List Int} (hv : IntsX (fun _ => False) h v l) (hvc : v.isCell = true) :
    RT (fun w h' => ∃ b, w = .agg [.int .i64 (mayS s), .int .i64 (bringP p 3), .int .i64 (bringP q 3), .sl b 0 (sideP (mayS s) * sideP (mayS s)) (.ex (sideP (mayS s) * sideP (mayS s)))] ∧ h.n ≤ b ∧ h'.get b = some (.cells (intsV (mayL l (sideP (mayS s) * sideP (mayS s)))) 3 false) ∧ Ext h h')
      (KW 9 [.agg [.int .i64 s, .int .i64 p, .int .i64 q, v]] h) := by
  have hs := mayS_ok s
  have sb := sideP_b hs
  obtain ⟨n, hn⟩ : ∃ n, n = sideP (mayS s) := ⟨_, rfl⟩
  rw [← hn] at sb ⊢
  have hnn : n * n ≤ 1024 := by
    have : n * n ≤ 32 * 32 := Nat.mul_le_mul (by omega) (by omega)
    omega
  have hmin : imin (mayS s : Int) 32 = (n : Int) := by
    rw [hn]; unfold imin sideP
    rcases hs with e | e | e | e | e <;> rw [e] <;> decide
  obtain ⟨S, hS⟩ : ∃ S, S = mayS s := ⟨_, rfl⟩
  have hrb := bringP_lt s (n := 5) (by decide)
  have z0 : IntKind.i64.wrap ((4 : Int) * 2 ^ (min (bringP s 5) 64)) = (S : Int) := by
    rw [hS]; unfold mayS
    obtain ⟨r, hr⟩ : ∃ r, r = bringP s 5 := ⟨_, rfl⟩
    rw [← hr] at hrb ⊢
    match r, hrb with
    | 0, _ => decide
    | 1, _ => decide
    | 2, _ => decide
    | 3, _ => decide
    | 4, _ => decide
  rw [← hS] at hmin hs ⊢
  have hcell : V.cells (.agg [.int .i64 s, .int .i64 p, .int .i64 q, v]) = some [.int .i64 s, .int .i64 p, .int .i64 q, v] := rfl
  obtain ⟨h1, hh1⟩ : ∃ y, y = h.new (.cells [.int .i64 s, .int .i64 p, .int .i64 q, v] 34 false) := ⟨_, rfl⟩
  have n1 : h1.n = h.n + 1 := by rw [hh1, H.n_new]
  obtain ⟨h2, hh2⟩ : ∃ y, y = h1.new (.cells [.int .i64 0, .int .i64 0, .int .i64 0, .nils] 34 false) := ⟨_, rfl⟩
  have n2 : h2.n = h.n + 2 := by rw [hh2, H.n_new, n1]
  have gA2 : h2.get h.n = some (.cells [.int .i64 s, .int .i64 p, .int .i64 q, v] 34 false) := by rw [hh2, get_new_lt (by omega), hh1, get_new_same]
  have gB2 : h2.get (h.n + 1) = some (.cells [.int .i64 0, .int .i64 0, .int .i64 0, .nils] 34 false) := by rw [hh2, get_new_eq (by omega)]
  have b0 := fun g => bring23_ok s 5 (by decide) g
  have b1 := fun g => bring23_ok p 3 (by decide) g
  have b2 := fun g => bring23_ok q 3 (by decide) g
  obtain ⟨h3, hh3⟩ : ∃ y, y = h2.put h.n (.cells [.int .i64 S, .int .i64 p, .int .i64 q, v] 34 false) := ⟨_, rfl⟩
  have w3 : h2.wr1 h.n 0 (.int .i64 S) = some h3 := by rw [wr1_of gA2 (by simp), hh3]; rfl
  have gA3 : h3.get h.n = some (.cells [.int .i64 S, .int .i64 p, .int .i64 q, v] 34 false) := by rw [hh3, get_put_same (by omega)]
  obtain ⟨h4, hh4⟩ : ∃ y, y = h3.put h.n (.cells [.int .i64 S, .int .i64 (bringP p 3), .int .i64 q, v] 34 false) := ⟨_, rfl⟩
  have w4 : h3.wr1 h.n 1 (.int .i64 (bringP p 3)) = some h4 := by rw [wr1_of gA3 (by simp), hh4]; rfl
  have n3 : h3.n = h.n + 2 := by rw [hh3, H.n_put, n2]
  have gA4 : h4.get h.n = some (.cells [.int .i64 S, .int .i64 (bringP p 3), .int .i64 q, v] 34 false) := by rw [hh4, get_put_same (by omega)]
  obtain ⟨h5, hh5⟩ : ∃ y, y = h4.put h.n (.cells [.int .i64 S, .int .i64 (bringP p 3), .int .i64 (bringP q 3), v] 34 false) := ⟨_, rfl⟩
  have w5 : h4.wr1 h.n 2 (.int .i64 (bringP q 3)) = some h5 := by rw [wr1_of gA4 (by simp), hh5]; rfl
  have n4 : h4.n = h.n + 2 := by rw [hh4, H.n_put, n3]
  have n5 : h5.n = h.n + 2 := by rw [hh5, H.n_put, n4]
  have gA5 : h5.get h.n = some (.cells [.int .i64 S, .int .i64 (bringP p 3), .int .i64 (bringP q 3), v] 34 false) := by rw [hh5, get_put_same (by omega)]
  have X5 : Ext h h5 := by
    rw [hh5, hh4, hh3, hh2, hh1]
    exact (((((Ext.refl h).new _).new _).put (Nat.le_refl _) _).put (Nat.le_refl _) _).put (Nat.le_refl _) _
  have gB5 : h5.get (h.n + 1) = some (.cells [.int .i64 0, .int .i64 0, .int .i64 0, .nils] 34 false) := by
    rw [hh5, get_put_ne (by omega), hh4, get_put_ne (by omega), hh3, get_put_ne (by omega), gB2]
  have ms6 := ms_zero h5 (n * n) (by omega)
  obtain ⟨h6, hh6⟩ : ∃ y, y = h5.new (.cells (intsV (List.replicate (n * n) 0)) 3 false) := ⟨_, rfl⟩
  rw [← hh6] at ms6
  have x6 : Ext h5 h6 := by rw [hh6]; exact (Ext.refl h5).new _
  have n6 : h6.n = h.n + 3 := by rw [hh6, H.n_new, n5]
  have gL6 : h6.get h5.n = some (.cells (intsV (mayF l 0 (n * n))) 3 false) := by rw [hh6, get_new_same, mayF_zero]
  have gA6 := (x6.get _ (H.get_lt gA5)).trans gA5
  have gB6 := (x6.get _ (H.get_lt gB5)).trans gB5
  have V6 : IntsX (fun b => b = h5.n) h6 v l := hv.keep (by omega) (fun b hb _ => by rw [x6.get b (by omega), X5.get b hb]) (fun b hb _ => by omega)
  obtain ⟨e7, h7, r7, M7, gL7, f1, f2, f4⟩ := loop9 (A := h.n) (L := h5.n) (N := n * n) (e := ⟨[.agg [.int .i64 s, .int .i64 p, .int .i64 q, v], .ptr h.n 0, .ptr (h.n + 1) 0, .int .i64 n, .sl h5.n 0 (n * n) (.ex (n * n)), .int .i64 0], 5, .int .i64 0⟩) (g := h6) gA6 V6 hnn (by omega)
    ⟨Nat.le_refl _, Mod.refl _ _, by rw [Nat.sub_self]; exact gL6, by simp, by simp, by simp, by simp⟩
  simp only [K9] at f1 f2 f4
  have m7 := M7.n
  have gA7 := (M7.get _ (H.get_lt gA6) (by omega)).trans gA6
  have gB7 := (M7.get _ (H.get_lt gB6) (by omega)).trans gB6
  obtain ⟨h8, hh8⟩ : ∃ y, y = h7.put h.n (.cells [.int .i64 S, .int .i64 (bringP p 3), .int .i64 (bringP q 3), .sl h5.n 0 (n * n) (.ex (n * n))] 34 false) := ⟨_, rfl⟩
  have w8 : h7.wr1 h.n 3 (.sl h5.n 0 (n * n) (.ex (n * n))) = some h8 := by rw [wr1_of gA7 (by simp), hh8]; rfl
  have gA8 : h8.get h.n = some (.cells [.int .i64 S, .int .i64 (bringP p 3), .int .i64 (bringP q 3), .sl h5.n 0 (n * n) (.ex (n * n))] 34 false) := by rw [hh8, get_put_same (by omega)]
  have n8 : h8.n = h7.n := by rw [hh8, H.n_put]
  have gB8 : h8.get (h.n + 1) = _ := (by rw [hh8, get_put_ne (by omega)] : h8.get (h.n + 1) = h7.get (h.n + 1)).trans gB7
  obtain ⟨h9, hh9⟩ : ∃ y, y = h8.put (h.n + 1) (.cells [.int .i64 S, .int .i64 (bringP p 3), .int .i64 (bringP q 3), .sl h5.n 0 (n * n) (.ex (n * n))] 34 false) := ⟨_, rfl⟩
  have l8 : h8.rdN h.n 0 4 = some [.int .i64 S, .int .i64 (bringP p 3), .int .i64 (bringP q 3), .sl h5.n 0 (n * n) (.ex (n * n))] := by rw [rdN_of gA8 (by simp)]; rfl
  have k9w : h8.wrN (h.n + 1) 0 [.int .i64 S, .int .i64 (bringP p 3), .int .i64 (bringP q 3), .sl h5.n 0 (n * n) (.ex (n * n))] = some h9 := by rw [wrN_of gB8 (by simp), hh9]; rfl
  have l9 : h9.rdN (h.n + 1) 0 4 = some [.int .i64 S, .int .i64 (bringP p 3), .int .i64 (bringP q 3), .sl h5.n 0 (n * n) (.ex (n * n))] := by
    rw [rdN_of (by rw [hh9]; exact get_put_same (by omega)) (by simp)]; rfl
  have z1 : IntKind.i64.wrap ((n : Int) * n) = ((n * n : Nat) : Int) := by rw [← Int.natCast_mul]; exact wi64 (by omega) (by omega)
  have b0' : ∀ g, KW 23 [.int .i64 s, .int .i64 5] g = some (.ret (.int .i64 (bringP s 5)), g) := b0
  have b1' : ∀ g, KW 23 [.int .i64 p, .int .i64 3] g = some (.ret (.int .i64 (bringP p 3)), g) := b1
  have b2' : ∀ g, KW 23 [.int .i64 q, .int .i64 3] g = some (.ret (.int .i64 (bringP q 3)), g) := b2
  have hbx : bx h 34 (.agg [.int .i64 s, .int .i64 p, .int .i64 q, v]) = some (.ptr h.n 0, h1) := by simp [bx, hh1]
  rw [w9, f9, s9]
  simp [hbx, nw, n1, ← hh2, rd1_of gA2, b0', z0, IntKind.bits, show ¬ ((bringP s 5 : Nat) : Int) < 0 by omega, w3, rd1_of gA3, b1', w4, rd1_of gA4, b2', w5, rd1_of gA5, minV_i, -minV2, hmin, z1, ms6, -Int.natCast_mul]
  rw [r7]
  simp [f1, f2, f4, w8, l8, k9w, l9, resVs_cell, cell34]
  refine ⟨h5.n, rfl, by omega, ?_, ⟨by rw [hh9, H.n_put]; omega, fun b hb => ?_⟩⟩
  · rw [hh9, get_put_ne (by omega), hh8, get_put_ne (by omega), gL7]
  · rw [hh9, get_put_ne (by omega), hh8, get_put_ne (by omega), M7.get b (by omega) (by omega), x6.get b (by omega), X5.get b hb]
end Go.Proofs.Ytbajipmhnoakeaa
