/- SymsLearn: the walk. -/
import Derived.Test.YtfjghgjkpenanaaSai
set_option linter.unusedVariables false
set_option linter.unusedSimpArgs false
set_option maxRecDepth 20000
namespace Go.Proofs.Ytfjghgjkpenanaa
open Go Go.Zf Go.RowKit Go.WideShapes
open Go.Zf (wi64)

/-- A slice of numbers, as a law is handed it. -/
def SlI (h : H) (v : V) (l : List Int) : Prop :=
  (v = .nils ∧ l = []) ∨ ∃ b k c e ro, v = .sl b 0 l.length k ∧ h.get b = some (.cells c e ro) ∧ ∀ (i : Nat) (x : Int), l[i]? = some x → c[i]? = some (.int .i64 x)
theorem SlI.ext {h h' : H} {v : V} {l : List Int} (a : SlI h v l) (x : Ext h h') : SlI h' v l := by
  rcases a with a | ⟨b, k, c, e, ro, h1, h2, h3⟩
  · exact .inl a
  · exact .inr ⟨b, k, c, e, ro, h1, by rw [x.get b (H.get_lt h2), h2], h3⟩
theorem SlI.len {h : H} {v : V} {l : List Int} (a : SlI h v l) : lnS v = some (.int .i64 l.length) := by
  rcases a with ⟨rfl, rfl⟩ | ⟨b, k, c, e, ro, rfl, h2, h3⟩ <;> simp
theorem SlI.at {h : H} {v : V} {l : List Int} (a : SlI h v l) {i : Nat} {x : Int} (hx : l[i]? = some x) :
    ∃ b o, iaS 1 v (.int .i64 i) = some (.ptr b o) ∧ h.rd1 b o = some (.int .i64 x) ∧ b < h.n := by
  rcases a with ⟨rfl, rfl⟩ | ⟨b, k, c, e, ro, rfl, h2, h3⟩
  · simp at hx
  · have hl := lt_of_get hx
    exact ⟨b, i, by simp [hl], by rw [rd1_of h2, h3 i x hx], H.get_lt h2⟩
def qInt (g : Nat → V) : Prop := ∃ n : Int, g 0 = .int .i64 n
/-- What a law's argument of numbers is. -/
theorem argInts {i : Inj} {h : H} {w : World} (a : ArgH i h w) {Hd : Type} {enc : TypeId × Value → Hd} {r : Reach} {b0 : Nat} {v : Value} {d : DataW Hd} {ps : List MemPlace}
    (hok : Value.okWide Try.prog w r b0 69 v) (hd : DataW.Trod enc Try.prog w 0 (fun _ => true) true 69 v d ps) :
    ∃ i' h' x l, ArgH i' h' w ∧ i.le i' ∧ VRel i' x v ∧ SlI h' x l ∧ Ext h h' ∧ l.length < 9223372036854775808 := by
  rcases open_cells (z := 1) (Q := qInt) Try.underlying69 cells3 (by decide) hok hd (fun n cs y hy => by
    obtain ⟨n0, rfl, _, w0⟩ := DataW.trod_int Try.underlying3 hy
    refine ⟨fun _ => .int .i64 n0, fun j hj => ?_, n0, rfl⟩
    match j, hj with
    | 0, _ => exact ⟨rfl, _, rfl, fun _ => .int _ _⟩)
    (fun g g' hg ⟨n, q1⟩ => ⟨n, by rw [← hg 0 (by decide), q1]⟩) with rfl | ⟨B, off, len, cap, G, C, e', fr, rfl, s, els, sp, hd1, hd2⟩
  · exact ⟨i, h, .nils, [], a, fun _ _ h => h, .nils, .inl ⟨rfl, rfl⟩, Ext.refl h, by decide⟩
  · obtain ⟨i', h1, h2, h3⟩ := a.slice s
    have hch : ∀ m, m < cap → ∃ q : Int, G m = .int .i64 q := fun m hm => by
      obtain ⟨n, q1⟩ := s.el m hm
      exact ⟨n, by simpa using q1⟩
    obtain ⟨q, hq⟩ := Go.Deep.choose_lt hch
    have hle := s.le
    have hmx := s.max
    refine ⟨i', _, _, (List.range len).map q, h1, h2, h3, .inr ⟨h.n, .ex cap, _, _, _, by simp, get_new_same, fun m x hm => ?_⟩, (Ext.refl h).new _, by simp only [maxLen] at hmx; simp; omega⟩
    have hml : m < len := by have := lt_of_get hm; simpa using this
    have hqm : q m = x := by simp [hml] at hm; exact hm
    have := hq m (by omega)
    rw [hqm] at this
    simp [show m < cap by omega, this]

theorem may_sym (n k c v : Int) : ∃ K cc : Nat, K < 32 ∧ cc < cx K ∧ (⟨false, n, k, c, v⟩ : Dd).may.k = K ∧ (⟨false, n, k, c, v⟩ : Dd).may.c = cc ∧ (⟨false, n, k, c, v⟩ : Dd).may.b = false ∧ (⟨false, n, k, c, v⟩ : Dd).may.n = n := by
  obtain ⟨K, hK⟩ : ∃ K : Nat, k % 32 = K := ⟨(k % 32).toNat, by omega⟩
  have hK32 : K < 32 := by omega
  have := cx_le hK32
  have h1 := Int.emod_nonneg (c % 65536) (show ((cx K : Nat) : Int) ≠ 0 by omega)
  have h2 := Int.emod_lt_of_pos (c % 65536) (show (0 : Int) < cx K by omega)
  refine ⟨K, (c % 65536 % cx K).toNat, hK32, by omega, ?_, ?_, rfl, rfl⟩
  · simp [Dd.may, hK]
  · simp only [Dd.may, Bool.false_eq_true, if_false, hK, Int.toNat_natCast]; omega
theorem may_again {K cc : Nat} (hK : K < 32) (hc : cc < cx K) (n v : Int) : ∃ u : Nat, u < vl K ∧ (⟨false, n, K, cc, v⟩ : Dd).may = ⟨false, n, K, cc, u⟩ := by
  have := cx_le hK
  have := vl_le hK
  have e1 : (K : Int) % 32 = K := by omega
  have e2 : (cc : Int) % 65536 = cc := by omega
  have e3 : (cc : Int) % cx K = cc := Int.emod_eq_of_lt (by omega) (by omega)
  have h1 := Int.emod_nonneg (v % 65536) (show ((vl K : Nat) : Int) ≠ 0 by omega)
  have h2 := Int.emod_lt_of_pos (v % 65536) (show (0 : Int) < vl K by omega)
  refine ⟨(v % 65536 % vl K).toNat, by omega, ?_⟩
  simp only [Dd.may, Bool.false_eq_true, if_false, e1, e2, e3, Int.toNat_natCast, Dd.mk.injEq, true_and]
  omega

structure I7 (h0 : H) (v w : V) (l : List Int) (K cc B7 B10 M j : Nat) (e : E) (g : H) : Prop where
  hj : j ≤ M
  x : Ext h0 g
  q : ∃ D F p m st, CoderAt D g p m st ∧ SetW F g w st.S ∧ (∀ b, D b → h0.n ≤ b ∧ b < g.n ∧ ¬ F b ∧ b ≠ B7 ∧ b ≠ B10) ∧ (∀ b, F b → h0.n ≤ b ∧ b < g.n ∧ b ≠ B7 ∧ b ≠ B10) ∧ m ≤ M - j ∧ st.sd.writes = true ∧ st.ad = true ∧ e.s [0, 1, 2, 6, 7, 8, 9, 10, 11, 12, 14, 15, 16, 17, 18] 8 = .ptr p 0
  r7 : ∃ n u, g.get B7 = some (.cells (⟨false, n, K, cc, u⟩ : Dd).cells 43 false)
  r10 : g.get B10 = some (.cells [w] 25 false)
  e2 : e.s [0, 1, 2, 6, 7, 8, 9, 10, 11, 12, 14, 15, 16, 17, 18] 2 = v
  e7 : e.s [0, 1, 2, 6, 7, 8, 9, 10, 11, 12, 14, 15, 16, 17, 18] 7 = .ptr B7 0
  e10 : e.s [0, 1, 2, 6, 7, 8, 9, 10, 11, 12, 14, 15, 16, 17, 18] 10 = .ptr B10 0
  e11 : e.s [0, 1, 2, 6, 7, 8, 9, 10, 11, 12, 14, 15, 16, 17, 18] 11 = .int .i64 ((M - j : Nat) : Int)

theorem Side.val_w {t : Tb} {sd : Side} (h : sd.writes = true) (v : Nat) : sd.val t v = v := by
  cases sd with
  | w => simp [Side.val]
  | r => cases h

theorem loop7 {h0 : H} {v w : V} {l : List Int} {K cc B7 B10 M : Nat} (hK : K < 32) (hc : cc < cx K) (hM : M = min l.length 60) (A : SlI h0 v l) {e : E} {g : H} (hb7 : h0.n ≤ B7) (hb10 : h0.n ≤ B10) (hi : I7 h0 v w l K cc B7 B10 M M e g) :
    ∃ e' g', loopZ (l7_0 KW loopZ) e g = some ⟨.ex 0, e', g'⟩ ∧ I7 h0 v w l K cc B7 B10 M 0 e' g' := by
  have loop := loop_run (body := l7_0 KW loopZ) (I7 h0 v w l K cc B7 B10 M) (fun s => s.x = .ex 0 ∧ I7 h0 v w l K cc B7 B10 M 0 s.e s.h)
    (fun j e g hi => by
      obtain ⟨hj, x, ⟨D, F, p, m, st, C, W, hD, hF, hm, hw, had, e8⟩, r7, r10, e2, e7, e10, e11⟩ := hi
      have Al := A.len
      cases j with
      | zero =>
        rw [Nat.sub_zero] at e11
        by_cases c : l.length ≤ 60
        · have hMl : M = l.length := by omega
          rw [hMl] at e11
          simp [l7_0, e2, Al, e11, gl_t]
          exact ⟨rfl, hj, x, ⟨D, F, p, m, st, C, W, hD, hF, hm, hw, had, by simp [e8]⟩, r7, r10, by simp [e2], by simp [e7], by simp [e10], by simp [e11, hMl]⟩
        · have hMl : M = 60 := by omega
          rw [hMl] at e11
          simp at e11
          simp [l7_0, e2, Al, e11, show (60 : Int) < l.length by omega, show 60 < l.length by omega]
          exact ⟨rfl, hj, x, ⟨D, F, p, m, st, C, W, hD, hF, hm, hw, had, by simp [e8]⟩, r7, r10, by simp [e2], by simp [e7], by simp [e10], by simp [e11, hMl]⟩
      | succ j =>
        obtain ⟨i, hi⟩ : ∃ i, i = M - (j + 1) := ⟨_, rfl⟩
        have hi2 : M - j = i + 1 := by omega
        rw [← hi] at e11 hm
        have hil : i < l.length := by omega
        have hi60 : i < 60 := by omega
        obtain ⟨d, hd⟩ := get_of_lt hil
        obtain ⟨bi, oi, i1, i2, i3⟩ := (A.ext x).at hd
        obtain ⟨n7, u7, r7⟩ := r7
        have z1 : IntKind.i64.wrap ((i : Int) + 1) = i + 1 := wi64 (by omega) (by omega)
        obtain ⟨u, hu, hmay⟩ := may_again hK hc 0 d
        obtain ⟨y, g1, a1, rfl, x1⟩ := (may28_ok ⟨false, 0, K, cc, d⟩ g).elim
        rw [hmay] at a1
        simp only [Dd.cells] at a1 r7
        have x1n := x1.n
        obtain ⟨Cok, _, _, _⟩ := C.ok
        have C1 := C.ext x1
        have W1 := W.ext x1
        obtain ⟨y, g2, a2, rfl, C2, M2⟩ := (symbol30_ok (k := K) (c := cc) (v := (u : Int)) C1 (by omega) hK hc (fun _ => ⟨by omega, by omega⟩)).elim
        have M2n := M2.n
        have W2 : SetW F g2 w st.S := W1.keep fun b hb hb2 => M2.get b hb2 fun h => (hD b h).2.2.1 hb
        obtain ⟨r, hr, ht, tok, tl⟩ := Cok.get hK hc
        obtain ⟨t, htd⟩ : ∃ t, t = tabOf st.S K cc := ⟨_, rfl⟩
        rw [← htd] at ht tok tl
        obtain ⟨bO, oO, vr, bb, cells, vc, t1, t2, t3, t4, t5, t6, t7, t8, t9, t10, t11⟩ := W2.tab hr ht
        obtain ⟨y, g3, a3, vt, rfl, ⟨vc', rfl, U3⟩, x3⟩ := (adapt35_ok t9 tok (s := u) (by omega)).elim
        have x3n := x3.n
        have q7 : g1.get B7 = _ := (x1.get _ (H.get_lt r7)).trans r7
        have s7 : g2.get B7 = _ := (M2.get B7 (H.get_lt q7) fun h => (hD _ h).2.2.2.1 rfl).trans q7
        have q10 : g1.get B10 = _ := (x1.get _ (H.get_lt r10)).trans r10
        have s10 : g2.get B10 = _ := (M2.get B10 (H.get_lt q10) fun h => (hD _ h).2.2.2.2 rfl).trans q10
        have u7' : g3.get B7 = _ := (x3.get _ (H.get_lt s7)).trans s7
        have u10 : g3.get B10 = _ := (x3.get _ (H.get_lt s10)).trans s10
        obtain ⟨g4, hg4⟩ : ∃ z, z = (g3.new (.cells [.nils, .int .i64 0] 72 false)).put g3.n (.cells [vc', .int .i64 (adaptP t u).n] 72 false) := ⟨_, rfl⟩
        have x4 : Ext g3 g4 := by rw [hg4]; exact ((Ext.refl g3).new _).put (Nat.le_refl _) _
        have n4 : g4.n = g3.n + 1 := by rw [hg4, H.n_put, H.n_new]
        have k4 : g4.get g3.n = some (.cells [vc', .int .i64 (adaptP t u).n] 72 false) := by rw [hg4, get_put_same (by rw [H.n_new]; omega)]
        have hst : (g3.new (.cells [.nils, .int .i64 0] 72 false)).wrN g3.n 0 [vc', .int .i64 (adaptP t u).n] = some g4 := by
          rw [wrN_of (o := 0) get_new_same (by simp), hg4]; rfl
        have v7 : g4.get B7 = _ := (x4.get _ (H.get_lt u7')).trans u7'
        have v10 : g4.get B10 = _ := (x4.get _ (H.get_lt u10)).trans u10
        have hFb := hF
        have bb4 : g4.get bb = some (.cells cells 72 false) := by rw [x4.get _ (by have := H.get_lt t6; omega), x3.get _ (H.get_lt t6), t6]
        have bo4 : g4.rd1 bO oO = some vr := rd1_ext x4 (by omega) (rd1_ext x3 t4 t2)
        have bo3 : g3.rd1 bO oO = some vr := rd1_ext x3 t4 t2
        obtain ⟨g5, hg5⟩ : ∃ z, z = g4.put bb (.cells (splice cells (cc * 2) [vc', .int .i64 (adaptP t u).n]) 72 false) := ⟨_, rfl⟩
        have hw5 : g4.wrN bb (cc * 2) [vc', .int .i64 (adaptP t u).n] = some g5 := by rw [wrN_of bb4 (by simp; omega), hg5]
        have n5 : g5.n = g4.n := by rw [hg5, H.n_put]
        have W5 : SetW (fun b => F b ∨ (g2.n ≤ b ∧ b < g3.n)) g5 w (st.S.set K (r.set cc (adaptP t u))) := by
          rw [hg5]
          exact t11 g4 _ vc' (adaptP t u) (fun b hb hb2 => by rw [x4.get b (by omega), x3.get b hb2]) (by omega) (fun b hb _ => .inl hb) ((U3.mono fun b hb hd => .inr ⟨hd, hb⟩).ext x4)
        have hbbF : bb ≠ B7 ∧ bb ≠ B10 := ⟨(hF bb t10).2.2.1, (hF bb t10).2.2.2⟩
        have y7 : g5.get B7 = _ := (show g5.get B7 = g4.get B7 by rw [hg5, get_put_ne (Ne.symm hbbF.1)]).trans v7
        have y10 : g5.get B10 = _ := (show g5.get B10 = g4.get B10 by rw [hg5, get_put_ne (Ne.symm hbbF.2)]).trans v10
        have y15 : g5.get g3.n = some (.cells [vc', .int .i64 (adaptP t u).n] 72 false) := by
          rw [hg5, get_put_ne (by have := H.get_lt t6; omega), k4]
        have nn4 : bb < g2.n := H.get_lt t6
        have C5 : CoderAt (grow D g1 g2) g5 p (m + 1) (st.sym K cc u) := ((C2.ext x3).ext x4).keep (by omega) fun b hb hb2 => by
          rw [hg5, get_put_ne]
          rintro rfl
          rcases hb with hb | hb
          · exact (hD _ hb).2.2.1 t10
          · have := (hF _ t10).2.1; omega
        have g2b : g2.rdN bb (cc * 2) 2 = some [vc, .int .i64 t.n] := t8
        have g3b : g3.rdN bb (cc * 2) 2 = some [vc, .int .i64 t.n] := by rw [← t8]; unfold H.rdN; rw [x3.get _ nn4]
        have g4b : g4.rdN bb (cc * 2) 2 = some [vc, .int .i64 t.n] := by rw [← g3b]; unfold H.rdN; rw [x4.get _ (by omega)]
        have i21 : g1.rd1 bi oi = some (.int .i64 d) := rd1_ext x1 i3 i2
        have hsame : ∀ (a : V), a = vc ∨ a = vr → V.same a a = true := by
          rintro a (rfl | rfl)
          · exact t9.1.same
          · obtain ⟨_, _, vr', k1, k2, ⟨_, k3, _⟩, _, _⟩ := W2.setR.row hr
            rw [t1] at k1; cases k1; rw [t2] at k2; cases k2
            exact k3.same
        have hvs := hsame vc (.inl rfl)
        have hvrs := hsame vr (.inr rfl)
        have hws : V.same w w = true := by obtain ⟨_, k3, _⟩ := W2.setR; exact k3.same
        have hcs : V.same vc' vc' = true := U3.1.same
        have hcc : V.cells vc' = some [vc'] := U3.1.cells
        have hcv : V.cells vc = some [vc] := t9.1.cells
        have X : Ext h0 g5 := by
          have e3 : Ext h0 g2 := M2.ext (x.trans x1) fun c hc h => by have := (hD _ h).1; omega
          rw [hg5]
          exact ((e3.trans x3).trans x4).put ((hF _ t10).1) _
        simp [l7_0, e2, Al, e11, hil, hi60, show (i : Int) < l.length by omega, show (i : Int) < 60 by omega, e7, rd1_of r7, i1, i2, bl, fillW, splice, a1, rd1_of q7, i21, ck, V.same, e8, a2, e10, rd1_of s10, rd1_of s7, t1, t2, t5, t8, a3, nw, hst, hvs, hvrs, hws, hcs, hcc, hcv, V.sames, rd1_of v10, rd1_of v7, bo4, g4b, rdN_of (o := 0) (n := 2) k4 (by simp), hw5, rd1_of y10, rd1_of y7, z1, rd1_of u10, rd1_of u7', bo3, g3b]
        have hsymS : (st.sym K cc u).S = st.S.set K (r.set cc (adaptP t u)) := by
          have hgr : st.S.getD K [] = r := by simp [hr]
          show (if st.ad then _ else _) = _
          rw [if_pos had, hgr, ← htd, Side.val_w hw]
        refine ⟨j, Nat.lt_succ_self j, by omega, X, ⟨_, _, p, _, _, C5.mono (E := fun b => (D b ∨ (g1.n ≤ b ∧ b < g2.n))) fun b _ hb => hb, by rw [hsymS]; exact W5, fun b hb => ?_, fun b hb => ?_, by omega, ?_, had, by simp [e8]⟩, ⟨n7, u7, by rw [y7]; rfl⟩, y10, by simp [e2], by simp [e7], by simp [e10], by simp [hi2, z1]⟩
        · have l7 := H.get_lt r7
          have l10 := H.get_lt r10
          have := x.n
          rcases hb with hb | hb
          · have h := hD b hb
            refine ⟨h.1, by omega, ?_, h.2.2.2⟩
            rintro (h2 | h2)
            · exact h.2.2.1 h2
            · omega
          · refine ⟨by omega, by omega, ?_, by omega, by omega⟩
            rintro (h2 | h2)
            · have := hF b h2; omega
            · omega
        · have l7 := H.get_lt r7
          have l10 := H.get_lt r10
          have := x.n
          rcases hb with hb | hb
          · have h := hF b hb
            exact ⟨h.1, by omega, h.2.2⟩
          · exact ⟨by omega, by omega, by omega, by omega⟩
        · show (Side.code _ _ st.sd).writes = true
          rw [Side.code_writes, hw])
  obtain ⟨⟨x, e', g'⟩, r1, r2, r3⟩ := loop M e g hi
  simp only at r2 r3
  subst r2
  exact ⟨e', g', r1, r3⟩
end Go.Proofs.Ytfjghgjkpenanaa
