/- SymsAny: the walk. -/
import Derived.Test.YtfjghgjkpenanaaSag
set_option linter.unusedVariables false
set_option linter.unusedSimpArgs false
set_option maxRecDepth 20000
namespace Go.Proofs.Ytfjghgjkpenanaa
open Go Go.Zf
open Go.Zf (wi64)

theorem CoderAt.ok {D : Nat → Prop} {h : H} {p m : Nat} {st : St} (a : CoderAt D h p m st) : SetOk st.S ∧ SideOk m st.sd ∧ 0 ≤ st.n ∧ st.n ≤ 100 * m := by
  obtain ⟨vo, vi, vs, Ds, Dw, h1, h2, h3, h4, h5, h6, h7, h8, h9⟩ := a
  exact ⟨h6, h4, h7.1, h7.2⟩
theorem Side.bits_writes : ∀ (j v out : Nat) (sd : Side), (bits j v out sd).2.writes = sd.writes
  | 0, v, out, sd => rfl
  | j + 1, v, out, sd => by rw [bits, Side.bits_writes]; exact Side.code_writes _ _ _
theorem CoderAt.from {h0 h h' : H} {p m : Nat} {st : St} (a : CoderAt (grow (fun b => h0.n ≤ b) h h') h' p m st) (hn : h0.n ≤ h.n) : CoderAt (fun b => h0.n ≤ b) h' p m st :=
  a.mono fun b _ hb => by rcases hb with hb | hb; exact hb; exact Nat.le_trans hn hb.1
theorem may_fit {x : Dd} (hb : x.b = true) : 0 ≤ x.may.n ∧ x.may.n < 16 := by unfold Dd.may; rw [if_pos hb]; simp only; omega

structure I6 (h0 : H) (v : V) (l : List Dd) (M j : Nat) (e : E) (g : H) : Prop where
  hj : j ≤ M
  x : Ext h0 g
  q : ∃ D p m st, CoderAt D g p m st ∧ (∀ b, D b → h0.n ≤ b ∧ b < g.n) ∧ m ≤ 16 * (M - j) ∧ st.sd.writes = false ∧ e.s [0, 1, 4, 5, 6, 7, 8, 9, 10, 11, 13, 15, 16, 17, 18] 5 = .ptr p 0 ∧ e.s [0, 1, 4, 5, 6, 7, 8, 9, 10, 11, 13, 15, 16, 17, 18] 7 = .int .i64 st.n
  e1 : e.s [0, 1, 4, 5, 6, 7, 8, 9, 10, 11, 13, 15, 16, 17, 18] 1 = v
  e8 : e.s [0, 1, 4, 5, 6, 7, 8, 9, 10, 11, 13, 15, 16, 17, 18] 8 = .int .i64 ((M - j : Nat) : Int)

theorem loop6 {h0 : H} {v : V} {l : List Dd} {M : Nat} (hM : M = min l.length 300) (A : DosAt h0 v l) {e : E} {g : H} (hi : I6 h0 v l M M e g) :
    ∃ e' g', loopZ (l6_0 KW loopZ) e g = some ⟨.ex 0, e', g'⟩ ∧ I6 h0 v l M 0 e' g' := by
  have loop := loop_run (body := l6_0 KW loopZ) (I6 h0 v l M) (fun s => s.x = .ex 0 ∧ I6 h0 v l M 0 s.e s.h)
    (fun j e g hi => by
      obtain ⟨hj, x, ⟨D, p, m, st, C, hD, hm, hw, e5, e7⟩, e1, e8⟩ := hi
      have Al := A.len
      cases j with
      | zero =>
        rw [Nat.sub_zero] at e8
        by_cases c : l.length ≤ 300
        · have hMl : M = l.length := by omega
          rw [hMl] at e8
          simp [l6_0, e1, Al, e8, gl_t]
          exact ⟨rfl, hj, x, ⟨D, p, m, st, C, hD, hm, hw, by simp [e5], by simp [e7]⟩, by simp [e1], by simp [e8, hMl]⟩
        · have hMl : M = 300 := by omega
          rw [hMl] at e8
          simp at e8
          simp [l6_0, e1, Al, e8, show (300 : Int) < l.length by omega, show 300 < l.length by omega]
          exact ⟨rfl, hj, x, ⟨D, p, m, st, C, hD, hm, hw, by simp [e5], by simp [e7]⟩, by simp [e1], by simp [e8, hMl]⟩
      | succ j =>
        obtain ⟨i, hi⟩ : ∃ i, i = M - (j + 1) := ⟨_, rfl⟩
        have hi2 : M - j = i + 1 := by omega
        rw [← hi] at e8 hm
        have hil : i < l.length := by omega
        have hi300 : i < 300 := by omega
        obtain ⟨d, hd⟩ := get_of_lt hil
        obtain ⟨dfit, b, o, q1, q2, _, _, _⟩ := (A.ext x).at hd
        have z1 : IntKind.i64.wrap ((i : Int) + 1) = i + 1 := wi64 (by omega) (by omega)
        obtain ⟨w, g1, e28, rfl, x1⟩ := (may28_ok d g).elim
        obtain ⟨g2, hg2⟩ : ∃ y, y = (g1.new (.cells [.bool false, .int .i64 0, .int .i64 0, .int .i64 0, .int .i64 0] 43 false)).put g1.n (.cells d.may.cells 43 false) := ⟨_, rfl⟩
        have x2 : Ext g1 g2 := by rw [hg2]; exact ((Ext.refl g1).new _).put (Nat.le_refl _) _
        have n2 : g2.n = g1.n + 1 := by rw [hg2, H.n_put, H.n_new]
        have r2 : g2.get g1.n = some (.cells d.may.cells 43 false) := by rw [hg2, get_put_same (by rw [H.n_new]; omega)]
        have hst : (g1.new (.cells [.bool false, .int .i64 0, .int .i64 0, .int .i64 0, .int .i64 0] 43 false)).wrN g1.n 0 d.may.cells = some g2 := by
          rw [wrN_of (o := 0) get_new_same (by simp [Dd.cells]), hg2, splice]; simp [Dd.cells]
        have C2 := (C.ext x1).ext x2
        have hx2 : h0.n ≤ g2.n := by have := x.n; have := x1.n; omega
        obtain ⟨y, hy⟩ : ∃ y, y = d.may := ⟨_, rfl⟩
        have hyb : y.b = d.b := by rw [hy]; unfold Dd.may; split <;> simp_all
        rw [← hy] at e28 r2 hst
        have hlen : y.cells.length = 5 := rfl
        obtain ⟨Cok, _, cn0, cn1⟩ := C.ok
        have rb : ∀ (g : H), g.get g1.n = some (.cells y.cells 43 false) → g.rd1 g1.n 0 = some (.bool y.b) ∧ g.rd1 g1.n 1 = some (.int .i64 y.n) ∧ g.rd1 g1.n 2 = some (.int .i64 y.k) ∧ g.rd1 g1.n 3 = some (.int .i64 y.c) := fun g hg => by
          refine ⟨?_, ?_, ?_, ?_⟩ <;> rw [rd1_of hg] <;> rfl
        obtain ⟨s0, s1, s2, s3⟩ := rb g2 r2
        cases hb : d.b with
        | true =>
          rw [hyb, hb] at s0
          have hyn : 0 ≤ y.n ∧ y.n < 16 := by rw [hy]; exact may_fit hb
          obtain ⟨N, hN⟩ : ∃ N : Nat, y.n = N := ⟨y.n.toNat, by omega⟩
          rw [hN] at s1
          obtain ⟨w, g3, e29, rfl, C3, M3⟩ := (bits29_ok (n := N) (v := 0) C2 (by omega) (by omega) (fun h => by rw [hw] at h; cases h)).elim
          have M3n := M3.n
          obtain ⟨bok, blt⟩ := bits_ok N (0 : Int).toNat 0 (m := m) (sd := st.sd) C.ok.2.1 (by omega)
          obtain ⟨R, hR⟩ : ∃ R, R = st.numV N (0 : Int).toNat := ⟨_, rfl⟩
          have hRl : R < pw N := by rw [hR]; simpa [St.numV, pw] using blt
          rw [← hR] at e29
          have hpN : pw N ≤ 32768 := by rw [show 32768 = pw 15 from rfl]; exact Nat.pow_le_pow_right (by decide) (by omega)
          have hbox : g3.get g1.n = some (.cells y.cells 43 false) := by
            rw [M3.get g1.n (by omega) (fun h => by have := (hD _ h).2; have := x1.n; omega), r2]
          obtain ⟨u0, u1, u2, u3⟩ := rb g3 hbox
          rw [hN] at u1
          have hmin : min N IntKind.i64.bits = N := Nat.min_eq_left (by rw [show IntKind.i64.bits = 64 from rfl]; omega)
          have hpw : (2 : Int) ^ N = pw N := by simp [pw]
          have z2 : IntKind.i64.wrap (pw N : Nat) = (pw N : Nat) := wi64 (by omega) (by omega)
          have z3 : IntKind.i64.wrap (st.n + N) = st.n + N := wi64 (by omega) (by omega)
          simp [l6_0, e1, Al, e8, hil, hi300, show (i : Int) < l.length by omega, show (i : Int) < 300 by omega, q1, q2, e28, nw, hlen, hst, s0, s1, e5, e29, u1, e7, z3, show ¬ (N : Int) < 0 by omega, hmin, hpw, z2, show ¬ ((pw N : Nat) : Int) ≤ R by omega, show ¬ pw N ≤ R by omega, z1]
          have x3 : Ext h0 g3 := M3.ext ((x.trans x1).trans x2) fun c hc h => by have := (hD _ h).1; omega
          have hDn := x1.n
          refine ⟨j, Nat.lt_succ_self j, by omega, x3, ⟨_, p, _, _, C3, fun b hb => ?_, by omega, ?_, by simp, by simp [St.num, z3]⟩, by simp [e1], by simp [hi2, z1]⟩
          · rcases hb with hb | hb
            · have := hD b hb; omega
            · omega
          · show (bits N _ 0 st.sd).2.writes = false
            rw [Side.bits_writes, hw]
        | false =>
          rw [hyb, hb] at s0
          have hyk : ∃ K : Nat, y.k = K ∧ K < 32 ∧ ∃ cc : Nat, y.c = cc ∧ cc < cx K := by
            rw [hy]; unfold Dd.may; rw [hb]
            obtain ⟨K, hK⟩ : ∃ K : Nat, d.k % 32 = K := ⟨(d.k % 32).toNat, by omega⟩
            have hK32 : K < 32 := by omega
            have := cx_le hK32
            have hpos : (0 : Int) < cx K := by omega
            have h1 := Int.emod_nonneg (d.c % 65536) (show ((cx K : Nat) : Int) ≠ 0 by omega)
            have h2 := Int.emod_lt_of_pos (d.c % 65536) hpos
            refine ⟨K, hK, hK32, (d.c % 65536 % cx K).toNat, ?_, by omega⟩
            simp only [Bool.false_eq_true, if_false, hK, Int.toNat_natCast]
            omega
          obtain ⟨K, hK, hK32, cc, hcc, hccl⟩ := hyk
          rw [hK] at s2
          rw [hcc] at s3
          obtain ⟨w, g3, e33, rfl, x3⟩ := (shape33_ok (K : Int) g2).elim
          rw [if_pos ⟨by omega, by omega⟩, Int.toNat_natCast] at e33
          have r3 : g3.get g1.n = _ := (x3.get _ (H.get_lt r2)).trans r2
          obtain ⟨u0, u1, u2, u3⟩ := rb g3 r3
          rw [hK] at u2
          rw [hcc] at u3
          obtain ⟨w, g4, e30, rfl, C4, M4⟩ := (symbol30_ok (k := K) (c := cc) (v := 0) (C2.ext x3) (by omega) hK32 hccl (fun h => by rw [hw] at h; cases h)).elim
          have hsv := (Side.val_may (v := 0) (sd := st.sd) (Cok.get hK32 hccl).choose_spec.2.2.1 (fun h => by rw [hw] at h; cases h)).1
          have hvl := (Cok.get hK32 hccl).choose_spec.2.2.2
          rw [hvl] at hsv
          obtain ⟨R, hR⟩ : ∃ R, R = st.symV K cc 0 := ⟨_, rfl⟩
          have hRl : R < vl K := by rw [hR]; exact hsv
          rw [← hR] at e30
          have z3 : IntKind.i64.wrap (st.n + 1) = st.n + 1 := wi64 (by omega) (by omega)
          simp [l6_0, e1, Al, e8, hil, hi300, show (i : Int) < l.length by omega, show (i : Int) < 300 by omega, q1, q2, e28, nw, hlen, hst, s0, s2, e33, u2, u3, e5, e30, e7, z3, show ¬ ((vl K : Nat) : Int) ≤ R by omega, show ¬ vl K ≤ R by omega, z1]
          have x3n := x3.n
          have M4n := M4.n
          have hDn := x1.n
          have x4 : Ext h0 g4 := M4.ext (((x.trans x1).trans x2).trans x3) fun c hc h => by have := (hD _ h).1; omega
          refine ⟨j, Nat.lt_succ_self j, by omega, x4, ⟨_, p, _, _, C4, fun b hb => ?_, by omega, ?_, by simp, by simp [St.sym, z3]⟩, by simp [e1], by simp [hi2, z1]⟩
          · rcases hb with hb | hb
            · have := hD b hb; omega
            · omega
          · show (Side.code _ _ st.sd).writes = false
            rw [Side.code_writes, hw])
  obtain ⟨⟨x, e', g'⟩, r1, r2, r3⟩ := loop M e g hi
  simp only at r2 r3
  subst r2
  exact ⟨e', g', r1, r3⟩

theorem any6_ok {h : H} {bv v : V} {L : List Nat} {l : List Dd} (hb : SlB h bv L) (hl : L.length < 140737488355329) (hby : ∀ x ∈ L, x < 256) (A : DosAt h v l) : RT (fun w h' => w = .bool true ∧ Ext h h') (KW 6 [bv, v] h) := by
  obtain ⟨w, g1, a1, rfl, x1⟩ := (awake22_ok h).elim
  obtain ⟨w, g2, a2, v2, rfl, W2, x2⟩ := (default27_ok g1).elim
  obtain ⟨w, g3, a3, p, rfl, C3, x3⟩ := (reader25_ok ((hb.keep x1.get).keep x2.get) hl hby W2.setR defS_ok true).elim
  have X : Ext h g3 := (x1.trans x2).trans x3
  obtain ⟨M, hM⟩ : ∃ M, M = min l.length 300 := ⟨_, rfl⟩
  obtain ⟨e', g', r1, I⟩ := loop6 (h0 := h) (M := M) hM A (e := ⟨[bv, v, .bool false, .ptr p 0, .int .i64 0, .int .i64 0, .int .i64 0, .tup [], .tup [], .tup [], .tup [], .tup [], .tup [], .tup [], .tup []], 8, .int .i64 0⟩) (g := g3)
    ⟨Nat.le_refl _, X, ⟨_, p, 0, _, C3.under, fun b hb => ⟨by have h1 : g2.n ≤ b := hb.1; have := x1.n; have := x2.n; omega, hb.2⟩, by omega, rfl, by simp, by simp [newR]⟩, by simp, by simp⟩
  obtain ⟨_, x', ⟨D, p', m, st, C, hD, hm, hw, e5, e7⟩, e1, e8⟩ := I
  obtain ⟨Cok, _, _, _⟩ := C.ok
  obtain ⟨w, g4, a4, v4, rfl, W4, x4⟩ := (set17_ok C).elim
  obtain ⟨g5, hg5⟩ : ∃ y, y = (g4.new (.cells [.nils] 25 false)).put g4.n (.cells [v4] 25 false) := ⟨_, rfl⟩
  have x5 : Ext g4 g5 := by rw [hg5]; exact ((Ext.refl g4).new _).put (Nat.le_refl _) _
  have r5 : g5.get g4.n = some (.cells [v4] 25 false) := by rw [hg5, get_put_same (by rw [H.n_new]; omega)]
  obtain ⟨w, g6, a6, rfl, x6⟩ := (check34_ok (W4.setR.ext x5) Cok.small).elim
  rw [if_pos Cok] at a6
  have c := count32_ok (((C.ext x4).ext x5).ext x6)
  rw [w6, f6, s6]
  simp [a1, a2, a3, r1, e5, a4, nw, wrN_of (o := 0) get_new_same, splice, ← hg5, rdN_of (o := 0) (n := 1) r5 (by simp), a6, c, e7]
  exact ⟨rfl, ((x'.trans x4).trans x5).trans x6⟩
end Go.Proofs.Ytfjghgjkpenanaa
