/- CoefsBack: lists of blocks, written and read. -/
import Derived.Test.YtbajipmhnoakeaaCya
import Derived.Test.YtbajipmhnoakeaaCaa
import Derived.Test.YtbajipmhnoakeaaZNest
import Derived.SizedLaws
import Derived.OpenShut
set_option linter.unusedVariables false
set_option linter.unusedSimpArgs false
set_option maxRecDepth 20000
namespace Go.Proofs.Ytbajipmhnoakeaa
open Go Go.Zf Go.RowKit Go.WideShapes
open Go.Zf (wi64)

/-- What a law's Do is. -/
structure Dc where
  s : Int
  p : Int
  q : Int
  l : List Int
instance : Inhabited Dc := ⟨⟨0, 0, 0, []⟩⟩
def DoAt (h : H) (p : List V) (x : Dc) : Prop := ∃ v, p = [.int .i64 x.s, .int .i64 x.p, .int .i64 x.q, v] ∧ IntsX (fun _ => False) h v x.l
theorem IntsX.ext0 {h h' : H} {v : V} {l : List Int} (a : IntsX (fun _ => False) h v l) (x : Ext h h') : IntsX (fun _ => False) h' v l := a.keep x.n (fun b hb _ => x.get b hb) (fun _ _ _ h => h)
theorem DoAt.ext {h h' : H} {p : List V} {x : Dc} (a : DoAt h p x) (y : Ext h h') : DoAt h' p x := by
  obtain ⟨v, h1, h2⟩ := a
  exact ⟨v, h1, h2.ext0 y⟩
/-- A block that may be coded. -/
structure Bk where
  size : Nat
  plane : Nat
  sign : Nat
  src : List Int
structure Bk.Ok (b : Bk) : Prop where
  s : sizeOk b.size
  p : b.plane ≤ 2
  g : b.sign ≤ 2
  l : b.src.length = sideP b.size * sideP b.size
  b : ∀ x ∈ b.src, -1048576 ≤ x ∧ x ≤ 1048576
def Bk.ops (b : Bk) : List Op := opsOfB b.size b.plane b.sign b.src
def Dc.bk (x : Dc) : Bk := ⟨mayS x.s, bringP x.p 3, bringP x.q 3, mayL x.l (sideP (mayS x.s) * sideP (mayS x.s))⟩
theorem Dc.ok (x : Dc) : x.bk.Ok := by
  have h1 := bringP_lt x.p (n := 3) (by decide)
  have h2 := bringP_lt x.q (n := 3) (by decide)
  refine ⟨mayS_ok _, ?_, ?_, mayL_len _ _, mayL_b _ _⟩
  · show bringP x.p 3 ≤ 2; omega
  · show bringP x.q 3 ≤ 2; omega
theorem Bk.Ok.ops {b : Bk} (a : b.Ok) : ∀ o ∈ b.ops, o.ok := (ops_ech a.s a.g a.l a.b).2
theorem Bk.Ok.n {b : Bk} (a : b.Ok) : sideP b.size * sideP b.size ≤ 1024 := by
  have h1 := sideP_b a.s
  have : sideP b.size * sideP b.size ≤ 32 * 32 := Nat.mul_le_mul h1.2 h1.2
  omega

abbrev lvs (b : Bk) (c : Nat) : V := .sl c 0 (sideP b.size * sideP b.size) (.ex (sideP b.size * sideP b.size))
theorem mayX {g : H} {p : List V} {x : Dc} (a : DoAt g p x) : ∃ W g1 g2 g3 A b, KW 9 [.agg p] g = some (.ret W, g1) ∧ nw g1 34 [.int .i64 0, .int .i64 0, .int .i64 0, .nils] = some (.ptr A 0, g2) ∧ stZ 4 g2 (.ptr A 0) W = some (.und, g3) ∧
    Ext g g3 ∧ g.n ≤ A ∧ g.n ≤ b ∧ g3.get A = some (.cells [.int .i64 x.bk.size, .int .i64 x.bk.plane, .int .i64 x.bk.sign, lvs x.bk b] 34 false) ∧ g3.get b = some (.cells (intsV x.bk.src) 3 false) := by
  obtain ⟨v, rfl, hv⟩ := a
  obtain ⟨w, g1, a1, b, rfl, hb, r1, x1⟩ := (may9_ok (s := x.s) (p := x.p) (q := x.q) hv hv.cell).elim
  have m1 := x1.n
  obtain ⟨g2, hg2⟩ : ∃ y, y = g1.new (.cells [.int .i64 0, .int .i64 0, .int .i64 0, .nils] 34 false) := ⟨_, rfl⟩
  obtain ⟨g3, hg3⟩ : ∃ y, y = g2.put g1.n (.cells [.int .i64 x.bk.size, .int .i64 x.bk.plane, .int .i64 x.bk.sign, lvs x.bk b] 34 false) := ⟨_, rfl⟩
  have n2 : g2.n = g1.n + 1 := by rw [hg2, H.n_new]
  have r2 : g2.get g1.n = some (.cells [.int .i64 0, .int .i64 0, .int .i64 0, .nils] 34 false) := by rw [hg2, get_new_same]
  have w2 : g2.wrN g1.n 0 [.int .i64 x.bk.size, .int .i64 x.bk.plane, .int .i64 x.bk.sign, lvs x.bk b] = some g3 := by rw [wrN_of r2 (by simp), hg3]; rfl
  have hb1 := H.get_lt r1
  refine ⟨_, g1, g2, g3, g1.n, b, a1, by simp [nw, hg2], ?_, ?_, by omega, hb, ?_, ?_⟩
  · rw [stZ_agg]
    show Option.bind (g2.wrN g1.n 0 [.int .i64 x.bk.size, .int .i64 x.bk.plane, .int .i64 x.bk.sign, lvs x.bk b]) _ = _
    rw [w2]; rfl
  · rw [hg3, hg2]; exact x1.trans (((Ext.refl g1).new _).put (Nat.le_refl _) _)
  · rw [hg3, get_put_same (by omega)]
  · rw [hg3, get_put_ne (by omega), hg2, get_new_lt hb1]; exact r1

/-! What a writer has become behind so many blocks. -/
def stB (l : List Bk) (ad : Bool) (i : Nat) : St := (newW defS ad).run ((l.take i).flatMap Bk.ops)
theorem stB_zero (l : List Bk) (ad : Bool) : stB l ad 0 = newW defS ad := by simp [stB, St.run]
theorem St.run_append (st : St) (a b : List Op) : st.run (a ++ b) = (st.run a).run b := List.foldl_append
theorem stB_succ {l : List Bk} {i : Nat} {b : Bk} (h : l[i]? = some b) (ad : Bool) : stB l ad (i + 1) = (stB l ad i).run b.ops := by
  unfold stB
  rw [List.take_add_one, h, List.flatMap_append, St.run_append]; simp
theorem stB_w {l : List Bk} (hl : ∀ b ∈ l, b.Ok) (ad : Bool) (i : Nat) : ∃ s, (stB l ad i).sd = wS s ∧ SOk s ∧ WithinS s0 s := by
  have ho : ∀ o ∈ (l.take i).flatMap Bk.ops, o.ok := by
    intro o ho
    obtain ⟨b, hb, h1⟩ := List.mem_flatMap.1 ho
    exact (hl b (List.mem_of_mem_take hb)).ops o h1
  exact run_within _ (st := newW defS ad) rfl s0_ok defS_ok ho
theorem run_setOk : ∀ (l : List Op) {st : St} {s : Sr}, st.sd = wS s → SOk s → SetOk st.S → (∀ o ∈ l, o.ok) → SetOk (st.run l).S
  | [], st, s, hs, ok, so, ho => so
  | o :: l, st, s, hs, ok, so, ho => by
    obtain ⟨s', h1, h2, h3, h4, _, _, _⟩ := step_w hs ok so (ho o (by simp))
    exact run_setOk l h1 h2 h4 fun o' h => ho o' (by simp [h])
theorem stB_to {l : List Bk} (hl : ∀ b ∈ l, b.Ok) (ad : Bool) {i : Nat} {s T : Sr} (so : SetOk (stB l ad i).S) (hs : (stB l ad i).sd = wS s) (ok : SOk s) (hT : (stB l ad l.length).sd = wS T) : WithinS s T := by
  have e : stB l ad l.length = (stB l ad i).run ((l.drop i).flatMap Bk.ops) := by
    unfold stB
    rw [← St.run_append, ← List.flatMap_append, List.take_append_drop, List.take_length]
  have ho : ∀ o ∈ (l.drop i).flatMap Bk.ops, o.ok := by
    intro o ho
    obtain ⟨b, hb, h1⟩ := List.mem_flatMap.1 ho
    exact (hl b (List.mem_of_mem_drop hb)).ops o h1
  obtain ⟨s', h1, h2, h3⟩ := run_within _ hs ok so ho
  rw [← e, hT] at h1
  have : T = s' := by
    injection h1 with a b c
    exact Prod.ext a (Prod.ext b c)
  rw [this]; exact h3

abbrev K3 : List Nat := [0, 1, 4, 5, 6, 7, 8, 9, 10, 11, 13, 14, 15, 16, 17, 18]
structure IW (h0 : H) (v : V) (ad : Bool) (l : List Bk) (c j : Nat) (e : E) (g : H) : Prop where
  hj : j ≤ l.length
  x : Ext h0 g
  C : ∃ D, CoderAt D g c (50000 * (l.length - j)) (stB l ad (l.length - j)) ∧ ∀ b, D b → h0.n ≤ b ∧ b < g.n
  e0 : e.s K3 0 = v
  e1 : e.s K3 1 = .bool ad
  e5 : e.s K3 5 = .ptr c 0
  e7 : e.s K3 7 = .int .i64 ((l.length - j : Nat) : Int)

theorem loopW {h0 : H} {v : V} {ad : Bool} {l : List Dc} {c : Nat} (hl : l.length ≤ 400) (A : SlA h0 4 v l.length fun j p => ∀ x, l[j]? = some x → DoAt h0 p x) {e : E} {g : H} {o : Out} (ho : loopZ (l3_0 KW loopZ) e g = o) (hi : IW h0 v ad (l.map Dc.bk) c l.length e g) :
    ∃ e' g', o = some ⟨.ex 0, e', g'⟩ ∧ IW h0 v ad (l.map Dc.bk) c 0 e' g' := by
  have hok : ∀ b ∈ l.map Dc.bk, b.Ok := fun b hb => by obtain ⟨x, _, rfl⟩ := List.mem_map.1 hb; exact x.ok
  have loop := loop_run (body := l3_0 KW loopZ) (IW h0 v ad (l.map Dc.bk) c) (fun st => st.x = .ex 0 ∧ IW h0 v ad (l.map Dc.bk) c 0 st.e st.h) (fun j e g hi => by
    obtain ⟨hj, x, ⟨D, C, hD⟩, e0, e1, e5, e7⟩ := hi
    rw [List.length_map] at hj e7 C
    have A' := (A.ext x)
    have sl := A.len
    cases j with
    | zero =>
      rw [Nat.sub_zero] at e7
      simp [l3_0, e0, e7, sl]
      exact ⟨rfl, by simp, x, ⟨D, by simpa using C, hD⟩, by simp [e0], by simp [e1], by simp [e5], by simp [e7]⟩
    | succ j =>
      obtain ⟨i, hi⟩ : ∃ i, i = l.length - (j + 1) := ⟨_, rfl⟩
      rw [← hi] at e7 C
      have hil : i < l.length := by omega
      obtain ⟨d, hd⟩ : ∃ d, l[i]? = some d := ⟨l[i], List.getElem?_eq_getElem hil⟩
      obtain ⟨b0, o0, p, t1, t2, t3, _, _⟩ := A'.at hil
      have hdo := (t3 d hd).ext x
      obtain ⟨W, g1, g2, g3, Ab, b, a1, a2, a3, x3, hA, hb, rA, rb⟩ := mayX hdo
      have hB : (l.map Dc.bk)[i]? = some d.bk := by simp [hd]
      have ok := d.ok
      obtain ⟨B, hBd⟩ : ∃ B, B = d.bk := ⟨_, rfl⟩
      rw [← hBd] at rA rb hB ok
      have m3 := x3.n
      have C3 : CoderAt D g3 c (50000 * i) (stB (l.map Dc.bk) ad i) := C.keep m3 (fun b _ hb => x3.get b hb)
      have I3 : IntsX D g3 (lvs B b) B.src := by
        have := IntsX.of (X := D) (k := .ex (sideP B.size * sideP B.size)) rb (fun h => by have := hD b h; omega)
        rw [ok.l] at this; exact this
      obtain ⟨s, hs, sok, _⟩ := stB_w hok ad i
      obtain ⟨w, g4, a4, L, rfl, K4⟩ := (code_w C3 hs sok (by omega) ok.s ok.p ok.g I3 ok.l ok.b).elim
      obtain ⟨E4, C4, nE4, sE4⟩ := K4.C
      have m4 := K4.x.n
      have e4 : (stB (l.map Dc.bk) ad i).run (opsOfB B.size B.plane B.sign B.src) = stB (l.map Dc.bk) ad (i + 1) := (stB_succ hB ad).symm
      rw [e4] at C4 K4
      have gA : g4.get Ab = _ := (K4.x.get Ab (H.get_lt rA) (fun h => by have := hD Ab h; omega)).trans rA
      have gb : g4.get b = _ := (K4.x.get b (H.get_lt rb) (fun h => by have := hD b h; omega)).trans rb
      have J1 := K4.ints ok.l (Ext.refl _)
      have J2 : IntsX (fun _ => False) g4 (lvs B b) B.src := by
        have := IntsX.of (X := fun _ => False) (k := .ex (sideP B.size * sideP B.size)) gb (fun h => h)
        rw [ok.l] at this; exact this
      have a5 := eqInts11_ok J1 J2 (by rw [ok.l]; have := ok.n; omega)
      have q0 : g3.rd1 Ab 0 = some (.int .i64 B.size) := by rw [rd1_of rA]; rfl
      have q1 : g3.rd1 Ab 1 = some (.int .i64 B.plane) := by rw [rd1_of rA]; rfl
      have q2 : g3.rd1 Ab 2 = some (.int .i64 B.sign) := by rw [rd1_of rA]; rfl
      have q3 : g3.rd1 Ab 3 = some (lvs B b) := by rw [rd1_of rA]; rfl
      have q4 : g4.rd1 Ab 3 = some (lvs B b) := by rw [rd1_of gA]; rfl
      have z1 : IntKind.i64.wrap ((i : Int) + 1) = ((i + 1 : Nat) : Int) := by rw [wi64 (by omega) (by omega)]; omega
      simp [l3_0, e0, e1, e5, e7, sl, show (i : Int) < l.length by omega, hil, t1, t2, a1, a2, a3, q0, q1, q2, q3, a4, q4, a5, z1, -Int.natCast_add]
      refine ⟨j, by omega, by simp; omega, ?_, ⟨fun b => E4 b ∧ b < g4.n, ?_, ?_⟩, by simp [e0], by simp [e1], by simp [e5], by simp [show l.length - j = i + 1 by omega]⟩
      · exact K4.x.ext (x.trans x3) (fun b hb hd => by have := (hD b hd).1; omega)
      · rw [List.length_map, show l.length - j = i + 1 by omega]
        exact C4.mono (fun b h1 h2 => ⟨h2, h1⟩)
      · rintro b ⟨h1, h2⟩
        have x1 := x.n
        rcases sE4 b h1 with h3 | h3
        · exact ⟨(hD b h3).1, h2⟩
        · exact ⟨by omega, h2⟩) l.length e g hi
  obtain ⟨⟨sx, se, sh⟩, h1, h2, h3⟩ := loop
  exact ⟨se, sh, by rw [← ho, h1]; simp only at h2; rw [h2], h3⟩

structure IR (h0 h1 : H) (v : V) (ad : Bool) (l : List Bk) (B : List Nat) (c r j : Nat) (e : E) (g : H) : Prop where
  hj : j ≤ l.length
  x : Ext h1 g
  C : ∃ D s, (stB l ad (l.length - j)).sd = wS s ∧ SOk s ∧ SetOk (stB l ad (l.length - j)).S ∧ CoderAt D g r (50000 * (l.length - j)) (mateS B s (stB l ad (l.length - j))) ∧ ∀ b, D b → h1.n ≤ b ∧ b < g.n
  e0 : e.s K3 0 = v
  e5 : e.s K3 5 = .ptr c 0
  e13 : e.s K3 13 = .ptr r 0
  e15 : e.s K3 15 = .int .i64 ((l.length - j : Nat) : Int)

theorem loopR {h0 h1 : H} {v : V} {ad : Bool} {l : List Dc} {c r : Nat} {T : Sr} (hT : SOk T) (hTs : (stB (l.map Dc.bk) ad l.length).sd = wS T) (hl : l.length ≤ 400) (x01 : Ext h0 h1) (A : SlA h0 4 v l.length fun j p => ∀ x, l[j]? = some x → DoAt h0 p x) {e : E} {g : H} {o : Out} (ho : loopZ (l3_1 KW loopZ) e g = o) (hi : IR h0 h1 v ad (l.map Dc.bk) (bytes T.1 T.2.1) c r l.length e g) :
    ∃ e' g', o = some ⟨.ex 2, e', g'⟩ ∧ IR h0 h1 v ad (l.map Dc.bk) (bytes T.1 T.2.1) c r 0 e' g' := by
  have hok : ∀ b ∈ l.map Dc.bk, b.Ok := fun b hb => by obtain ⟨x, _, rfl⟩ := List.mem_map.1 hb; exact x.ok
  have loop := loop_run (body := l3_1 KW loopZ) (IR h0 h1 v ad (l.map Dc.bk) (bytes T.1 T.2.1) c r) (fun st => st.x = .ex 2 ∧ IR h0 h1 v ad (l.map Dc.bk) (bytes T.1 T.2.1) c r 0 st.e st.h) (fun j e g hi => by
    obtain ⟨hj, x, ⟨D, s, hs, sok, so, C, hD⟩, e0, e5, e13, e15⟩ := hi
    rw [List.length_map] at hj e15 C hs so
    have A' := (A.ext (x01.trans x))
    have sl := A.len
    cases j with
    | zero =>
      rw [Nat.sub_zero] at e15
      simp [l3_1, e0, e15, sl]
      exact ⟨rfl, by simp, x, ⟨D, s, by simpa using hs, sok, by simpa using so, by simpa using C, hD⟩, by simp [e0], by simp [e5], by simp [e13], by simp [e15]⟩
    | succ j =>
      obtain ⟨i, hi⟩ : ∃ i, i = l.length - (j + 1) := ⟨_, rfl⟩
      rw [← hi] at e15 C hs so
      have hil : i < l.length := by omega
      obtain ⟨d, hd⟩ : ∃ d, l[i]? = some d := ⟨l[i], List.getElem?_eq_getElem hil⟩
      obtain ⟨b0, o0, p, t1, t2, t3, _, _⟩ := A'.at hil
      have hdo := (t3 d hd).ext (x01.trans x)
      obtain ⟨W, g1, g2, g3, Ab, b, a1, a2, a3, x3, hA, hb, rA, rb⟩ := mayX hdo
      have hB : (l.map Dc.bk)[i]? = some d.bk := by simp [hd]
      have ok := d.ok
      obtain ⟨B, hBd⟩ : ∃ B, B = d.bk := ⟨_, rfl⟩
      rw [← hBd] at rA rb hB ok
      have m3 := x3.n
      have C3 := C.keep (h' := g3) m3 (fun b _ hb => x3.get b hb)
      obtain ⟨s', hs', sok', _⟩ := stB_w hok ad (i + 1)
      have e4 : (stB (l.map Dc.bk) ad i).run (opsOfB B.size B.plane B.sign B.src) = stB (l.map Dc.bk) ad (i + 1) := (stB_succ hB ad).symm
      have so' : SetOk (stB (l.map Dc.bk) ad (i + 1)).S := by
        rw [← e4]; exact run_setOk _ hs sok so ok.ops
      have hw : WithinS s' T := stB_to hok ad so' hs' sok' (by rw [List.length_map]; exact hTs)
      obtain ⟨w, g4, a4, L, rfl, K4⟩ := (code_r hT hs sok so C3 (by omega) ok.s ok.p ok.g (v := .nils) rfl ok.l ok.b (by rw [e4]; exact hs') hw).elim
      obtain ⟨E4, C4, nE4, sE4⟩ := K4.C
      have m4 := K4.x.n
      rw [e4] at C4 K4
      have gA : g4.get Ab = _ := (K4.x.get Ab (H.get_lt rA) (fun h => by have := hD Ab h; omega)).trans rA
      have gb : g4.get b = _ := (K4.x.get b (H.get_lt rb) (fun h => by have := hD b h; omega)).trans rb
      have J1 := K4.ints ok.l (Ext.refl _)
      have J2 : IntsX (fun _ => False) g4 (lvs B b) B.src := by
        have := IntsX.of (X := fun _ => False) (k := .ex (sideP B.size * sideP B.size)) gb (fun h => h)
        rw [ok.l] at this; exact this
      have a5 := eqInts11_ok J1 J2 (by rw [ok.l]; have := ok.n; omega)
      have q0 : g3.rd1 Ab 0 = some (.int .i64 B.size) := by rw [rd1_of rA]; rfl
      have q1 : g3.rd1 Ab 1 = some (.int .i64 B.plane) := by rw [rd1_of rA]; rfl
      have q2 : g3.rd1 Ab 2 = some (.int .i64 B.sign) := by rw [rd1_of rA]; rfl
      have q4 : g4.rd1 Ab 3 = some (lvs B b) := by rw [rd1_of gA]; rfl
      have z1 : IntKind.i64.wrap ((i : Int) + 1) = ((i + 1 : Nat) : Int) := by rw [wi64 (by omega) (by omega)]; omega
      simp [l3_1, e0, e5, e13, e15, sl, show (i : Int) < l.length by omega, hil, t1, t2, a1, a2, a3, q0, q1, q2, a4, q4, a5, z1, -Int.natCast_add]
      refine ⟨j, by omega, by simp; omega, ?_, ⟨fun b => E4 b ∧ b < g4.n, s', ?_, sok', ?_, ?_, ?_⟩, by simp [e0], by simp [e5], by simp [e13], by simp [show l.length - j = i + 1 by omega]⟩
      · exact K4.x.ext (x.trans x3) (fun b hb hd => by have := (hD b hd).1; omega)
      · rw [List.length_map, show l.length - j = i + 1 by omega]; exact hs'
      · rw [List.length_map, show l.length - j = i + 1 by omega]; exact so'
      · rw [List.length_map, show l.length - j = i + 1 by omega]
        exact C4.mono (fun b h1 h2 => ⟨h2, h1⟩)
      · rintro b ⟨h1, h2⟩
        have x1 := x.n
        rcases sE4 b h1 with h3 | h3
        · exact ⟨(hD b h3).1, h2⟩
        · exact ⟨by omega, h2⟩) l.length e g hi
  obtain ⟨⟨sx, se, sh⟩, h1, h2, h3⟩ := loop
  exact ⟨se, sh, by rw [← ho, h1]; simp only at h2; rw [h2], h3⟩

noncomputable def rest3 (K : Oracle) (L : Looper) (e : E) (h : H) : Out :=
 sq (bc k3 [68, 69, 67, 70, 71, 11, 12] e (K 12 [(e.s k3 5)] h) fun t69 h1 =>
 bd (exV t69 0) fun t70 =>
 bd (exV t69 1) fun t71 =>
 some ⟨.nm, ⟨[(e.s k3 0), (e.s k3 1), (e.s k3 4), (e.s k3 5), (e.s k3 6), (e.s k3 7), (e.s k3 8), (e.s k3 9), (e.s k3 10), t70, (e.s k3 13), (e.s k3 14), (e.s k3 15), (e.s k3 16), (e.s k3 17), (e.s k3 18)], 12, t71⟩, h1⟩) fun e h =>
 sq (bc k3 [73, 74, 75, 76, 72, 77, 78, 13, 14] e (K 8 [] h) fun t74 h1 =>
 bc k3 [73, 74, 75, 76, 72, 77, 78, 13, 14] e (K 13 [(e.s k3 11), t74, (e.s k3 1)] h1) fun t76 h2 =>
 bd (exV t76 0) fun t77 =>
 bd (exV t76 1) fun t78 =>
 some ⟨.nm, ⟨[(e.s k3 0), (e.s k3 1), (e.s k3 4), (e.s k3 5), (e.s k3 6), (e.s k3 7), (e.s k3 8), (e.s k3 9), (e.s k3 10), (e.s k3 11), t77, t78, (e.s k3 15), (e.s k3 16), (e.s k3 17), (e.s k3 18)], 14, t78⟩, h2⟩) fun e h =>
 sq (sq (bd (binK 0 .neq (e.s k3 14) (.int .i64 0)) fun t80 =>
 some ⟨.nm, ux3 e 80 t80, h⟩) fun e h =>
 br (e.s k3 80) (sq (some ⟨.nm, ⟨[(e.s k3 0), (e.s k3 1), (.bool false), (e.s k3 5), (e.s k3 6), (e.s k3 7), (e.s k3 8), (e.s k3 9), (e.s k3 10), (e.s k3 11), (e.s k3 13), (e.s k3 14), (e.s k3 15), (e.s k3 16), (e.s k3 17), (e.s k3 18)], 4, (.bool false)⟩, h⟩) fun e h =>
 some ⟨.rt, e, h⟩)
 (some ⟨.nm, e, h⟩)) fun e h =>
 sq (sq (some ⟨.nm, ⟨[(e.s k3 0), (e.s k3 1), (e.s k3 4), (e.s k3 5), (e.s k3 6), (e.s k3 7), (e.s k3 8), (e.s k3 9), (e.s k3 10), (e.s k3 11), (e.s k3 13), (e.s k3 14), (.int .i64 0), (e.s k3 16), (e.s k3 17), (e.s k3 18)], 15, (.int .i64 0)⟩, h⟩) fun e h =>
 blk 2 (L (l3_1 K L) e h)) fun e h =>
 sq (bc k3 [112, 113, 114, 115, 116, 4] e (K 14 [(e.s k3 5)] h) fun t113 h1 =>
 bc k3 [112, 113, 114, 115, 116, 4] e (K 14 [(e.s k3 13)] h1) fun t115 h2 =>
 bd (binK 0 .eql t113 t115) fun t116 =>
 some ⟨.nm, ⟨[(e.s k3 0), (e.s k3 1), t116, (e.s k3 5), (e.s k3 6), (e.s k3 7), (e.s k3 8), (e.s k3 9), (e.s k3 10), (e.s k3 11), (e.s k3 13), (e.s k3 14), (e.s k3 15), (e.s k3 16), (e.s k3 17), (e.s k3 18)], 4, t116⟩, h2⟩) fun e h =>
 some ⟨.rt, e, h⟩
noncomputable def s3h (K : Oracle) (L : Looper) (e : E) (h : H) : Out :=
 sq (some ⟨.nm, ⟨[(e.s k3 0), (e.s k3 1), (.bool false), (e.s k3 5), (e.s k3 6), (e.s k3 7), (e.s k3 8), (e.s k3 9), (e.s k3 10), (e.s k3 11), (e.s k3 13), (e.s k3 14), (e.s k3 15), (e.s k3 16), (e.s k3 17), (e.s k3 18)], 4, (.bool false)⟩, h⟩) fun e h =>
 sq (sq (bc k3 [19, 20] e (K 6 [] h) fun t19 h1 =>
 bd (unV .not t19) fun t20 =>
 some ⟨.nm, ux3 e 20 t20, h1⟩) fun e h =>
 br (e.s k3 20) (sq (some ⟨.nm, ⟨[(e.s k3 0), (e.s k3 1), (.bool false), (e.s k3 5), (e.s k3 6), (e.s k3 7), (e.s k3 8), (e.s k3 9), (e.s k3 10), (e.s k3 11), (e.s k3 13), (e.s k3 14), (e.s k3 15), (e.s k3 16), (e.s k3 17), (e.s k3 18)], 4, (.bool false)⟩, h⟩) fun e h =>
 some ⟨.rt, e, h⟩)
 (some ⟨.nm, e, h⟩)) fun e h =>
 sq (sq (bd (lnS (e.s k3 0)) fun t22 =>
 bd (binK 0 .gtr t22 (.int .i64 6)) fun t23 =>
 some ⟨.nm, ux3 e 23 t23, h⟩) fun e h =>
 br (e.s k3 23) (bd (slS 4 (e.s k3 0) none (some (.int .i64 6)) none) fun t25 =>
 some ⟨.nm, ⟨[t25, (e.s k3 1), (e.s k3 4), (e.s k3 5), (e.s k3 6), (e.s k3 7), (e.s k3 8), (e.s k3 9), (e.s k3 10), (e.s k3 11), (e.s k3 13), (e.s k3 14), (e.s k3 15), (e.s k3 16), (e.s k3 17), (e.s k3 18)], 0, t25⟩, h⟩)
 (some ⟨.nm, e, h⟩)) fun e h =>
 sq (bc k3 [27, 28, 29, 26, 30, 31, 5, 6] e (K 8 [] h) fun t27 h1 =>
 bc k3 [27, 28, 29, 26, 30, 31, 5, 6] e (K 7 [t27, (e.s k3 1)] h1) fun t29 h2 =>
 bd (exV t29 0) fun t30 =>
 bd (exV t29 1) fun t31 =>
 some ⟨.nm, ⟨[(e.s k3 0), (e.s k3 1), (e.s k3 4), t30, t31, (e.s k3 7), (e.s k3 8), (e.s k3 9), (e.s k3 10), (e.s k3 11), (e.s k3 13), (e.s k3 14), (e.s k3 15), (e.s k3 16), (e.s k3 17), (e.s k3 18)], 6, t31⟩, h2⟩) fun e h =>
 sq (sq (bd (binK 0 .neq (e.s k3 6) (.int .i64 0)) fun t33 =>
 some ⟨.nm, ux3 e 33 t33, h⟩) fun e h =>
 br (e.s k3 33) (sq (some ⟨.nm, ⟨[(e.s k3 0), (e.s k3 1), (.bool false), (e.s k3 5), (e.s k3 6), (e.s k3 7), (e.s k3 8), (e.s k3 9), (e.s k3 10), (e.s k3 11), (e.s k3 13), (e.s k3 14), (e.s k3 15), (e.s k3 16), (e.s k3 17), (e.s k3 18)], 4, (.bool false)⟩, h⟩) fun e h =>
 some ⟨.rt, e, h⟩)
 (some ⟨.nm, e, h⟩)) fun e h =>
 sq (sq (some ⟨.nm, ⟨[(e.s k3 0), (e.s k3 1), (e.s k3 4), (e.s k3 5), (e.s k3 6), (.int .i64 0), (e.s k3 8), (e.s k3 9), (e.s k3 10), (e.s k3 11), (e.s k3 13), (e.s k3 14), (e.s k3 15), (e.s k3 16), (e.s k3 17), (e.s k3 18)], 7, (.int .i64 0)⟩, h⟩) fun e h =>
 blk 0 (L (l3_0 K L) e h)) fun e h => rest3 K L e h
theorem s3_eq : s3 = s3h := by kernel_rfl
theorem back3_short {h : H} {v : V} {ad : Bool} {l : List Dc} (hl : l.length ≤ 6) (A : SlA h 4 v l.length fun j p => ∀ x, l[j]? = some x → DoAt h p x) {v0 : V}
    (hv : ∃ n0 : Int, lnS v0 = some (.int .i64 n0) ∧ ((n0 ≤ 6 ∧ v0 = v) ∨ (6 < n0 ∧ slS 4 v0 none (some (.int .i64 6)) none = some v))) : RT (fun w h' => w = .bool true ∧ Ext h h') (KW 3 [v0, .bool ad] h) := by
  have hok : ∀ b ∈ l.map Dc.bk, b.Ok := fun b hb => by obtain ⟨x, _, rfl⟩ := List.mem_map.1 hb; exact x.ok
  obtain ⟨w, h1, a1, rfl, x1⟩ := (awake6_ok h).elim
  obtain ⟨w, h2, a2, v2, rfl, W2, x2⟩ := (default27_ok h1).elim
  obtain ⟨w, h3, a3, c, rfl, C3, x3⟩ := (writer12_ok W2.setR defS_ok ad).elim
  have m1 := x1.n
  have m2 := x2.n
  have m3 := x3.n
  have A3 := A.ext ((x1.trans x2).trans x3)
  have A1 : SlA h1 4 v l.length fun j p => ∀ x, l[j]? = some x → DoAt h1 p x := (A.ext x1).imp fun j p _ _ q x hx => (q x hx).ext x1
  have hcr : ∀ (B : List Nat) (s : Sr) (st : St), (mateS B s st).n = st.n := fun _ _ _ => rfl
  obtain ⟨T, hTs, hT, wT⟩ := stB_w hok ad l.length
  have fin0 : ∃ h9, KW 3 [v0, .bool ad] h = some (.ret (.bool true), h9) ∧ Ext h h9 := by
    have key : ∀ {e : E} {o : Out}, loopZ (l3_0 KW loopZ) e h3 = o → e.s K3 0 = v → e.s K3 1 = .bool ad → e.s K3 5 = .ptr c 0 → e.s K3 7 = .int .i64 0 → ∃ h9, fin Try.prog K3 [.tmp 4] (sq (blk 0 o) (rest3 KW loopZ)) = some (.ret (.bool true), h9) ∧ Ext h h9 := by
      intro e o ho q0 q1 q5 q7
      obtain ⟨e4, h4, rfl, _, x4, ⟨D4, C4, hD4⟩, f0, f1, f5, f7⟩ := loopW (h0 := h1) (ad := ad) (c := c) (by omega) A1 ho
        ⟨by simp, x2.trans x3, ⟨fun b => h2.n ≤ b ∧ b < h3.n, by simp [stB_zero]; exact C3.mono (fun b q1 q2 => ⟨q2, q1⟩), fun b hb => ⟨by omega, hb.2⟩⟩, q0, q1, q5, by simp [q7]⟩
      rw [Nat.sub_zero, List.length_map] at C4 f7
      obtain ⟨w, h5, a5, bv, rfl, W5, x5⟩ := (bytes19_ok C4 hTs).elim
      have hbl := bytes_bound (T := T) (by have := C4.ok.2.1; rw [hTs] at this; exact this)
      obtain ⟨w, h6, a6, v6, rfl, W6, x6⟩ := (default27_ok h5).elim
      obtain ⟨w, h7, a7, r, rfl, C7, x7⟩ := (reader25_ok (W5.slb.keep x6.get) hbl W5.byte W6.setR defS_ok ad).elim
      rw [newR_mate hT wT] at C7
      have A6 : SlA h6 4 v l.length fun j p => ∀ x, l[j]? = some x → DoAt h6 p x := (A1.ext ((x4.trans x5).trans x6)).imp fun j p _ _ q x hx => (q x hx).ext ((x4.trans x5).trans x6)
      simp only [K3] at f0 f1 f5
      simp [rest3, f0, f1, f5, a5, a6, a7]
      generalize ho : loopZ (l3_1 KW loopZ) _ _ = o
      obtain ⟨e9, h9, rfl, _, x9, ⟨D9, s9, hs9, _, _, C9, hD9⟩, k0, k5, k13, k15⟩ := loopR (h0 := h6) (h1 := h6) (ad := ad) (c := c) (r := r) hT hTs (by omega) (Ext.refl _) A6 ho
        ⟨by simp, x7, ⟨fun b => h6.n ≤ b ∧ b < h7.n, s0, by simp [stB_zero]; rfl, s0_ok, by simp [stB_zero]; exact defS_ok, by simp [stB_zero]; exact C7.mono (fun b q1 q2 => ⟨q2, q1⟩), fun b hb => hb⟩, by simp, by simp, by simp, by simp⟩
      rw [Nat.sub_zero, List.length_map] at C9 hs9
      have cw := count32_ok (C4.ext ((x5.trans x6).trans x9))
      have cr := count32_ok C9
      rw [hcr] at cr
      simp only [K3] at k5 k13
      simp [k5, k13, cw, cr]
      exact (x1.trans ((x4.trans x5).trans x6)).trans x9
    obtain ⟨n0, g1, g2⟩ := hv
    rw [w3, f3, s3_eq]
    rcases g2 with ⟨g2, rfl⟩ | ⟨g2, g3⟩
    · simp [s3h, a1, g1, show ¬ 6 < n0 by omega, a2, a3]
      generalize ho : loopZ (l3_0 KW loopZ) _ _ = o
      exact key ho (by simp) (by simp) (by simp) (by simp)
    · simp [s3h, a1, g1, g2, g3, a2, a3]
      generalize ho : loopZ (l3_0 KW loopZ) _ _ = o
      exact key ho (by simp) (by simp) (by simp) (by simp)
  obtain ⟨h9, e9, x9⟩ := fin0
  rw [e9]
  exact ⟨rfl, x9⟩
end Go.Proofs.Ytbajipmhnoakeaa
