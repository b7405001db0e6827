/- CoefsAny: of any bytes. -/
import Derived.Test.YtbajipmhnoakeaaCyd
import Derived.Test.YtbajipmhnoakeaaCye
set_option linter.unusedVariables false
set_option linter.unusedSimpArgs false
set_option maxRecDepth 20000
namespace Go.Proofs.Ytbajipmhnoakeaa
open Go Go.Zf Go.RowKit Go.WideShapes
open Go.Zf (wi64)

/-- Code by a reader of whatever bytes. -/
theorem code_any {D : Nat → Prop} {h : H} {c m : Nat} {st : St} (C : CoderAt D h c m st) (hw : st.sd.writes = false) (hm : m + 50000 < 100000000) {size plane sign : Nat} (hs : sizeOk size) (hp : plane ≤ 2) (hg : sign ≤ 2) {v : V} (hc : v.isCell = true) :
    RT (fun w h' => ∃ st', st'.sd.writes = false ∧ st.n + 1 ≤ st'.n ∧ st'.n ≤ st.n + (11 + 47 * (sideP size * sideP size) : Nat) ∧
      ((∃ L lv, w = .tup [.sl L 0 (sideP size * sideP size) (.ex (sideP size * sideP size)), .int .i64 0] ∧ Bd (sideP size * sideP size) lv ∧ Coded D h c L (m + 50000) st' lv h') ∨ (w = .tup [.nils, .int .i64 4] ∧ Stopped D h c (m + 50000) st' h'))) (KW 10 [.ptr c 0, .int .i64 size, .int .i64 plane, .int .i64 sign, v] h) := by
  have sb := sideP_b hs
  have hnn : sideP size * sideP size ≤ 32 * 32 := Nat.mul_le_mul sb.2 sb.2
  have hr : ROk (bdOf size plane sign (List.replicate (sideP size * sideP size) 0) st.sd.writes) := ⟨hs, rfl, (by show min plane 1 ≤ 1; omega), hg, rfl⟩
  obtain ⟨q1, q2⟩ := codeP_Hr hr
  obtain ⟨c1, c2, _⟩ := C.ok
  have hN : (bdOf size plane sign (List.replicate (sideP size * sideP size) 0) st.sd.writes).n = sideP size := rfl
  rw [hN] at q1
  obtain ⟨r1, r2, r3, r4⟩ := Pr.exec_Hr _ q1 hw c1 c2 (by omega)
  rw [q2] at r2
  refine (code10_any (src := List.replicate (sideP size * sideP size) 0) C hm hs hp hg hc (fun h => by rw [hw] at h; cases h) (fun _ => rfl) (by simp) (fun x hx => by rw [(List.mem_replicate.1 hx).2]; decide) rfl).mono fun w h' a => ?_
  refine ⟨_, r4, by omega, r3, ?_⟩
  rcases a with ⟨L, lv, h1, h2, h3, h4⟩ | ⟨h1, h2, h3⟩
  · rcases r1 with r1 | ⟨lv', r1, r5⟩
    · rw [h1] at r1; cases r1
    · rw [h1] at r1; cases r1
      exact .inl ⟨L, lv, h2, r5, h4⟩
  · exact .inr ⟨h2, h3⟩
theorem IntsX.nil (X : Nat → Prop) (h : H) : IntsX X h .nils [] := ⟨rfl, fun i x hi => by simp at hi, rfl, rfl, rfl⟩

abbrev K4 : List Nat := [0, 1, 4, 5, 6, 7, 8, 9, 10, 11, 12, 13]
theorem loopB {h : H} {L N : Nat} {lv : List Int} (hL : h.get L = some (.cells (intsV lv) 3 false)) (hb : Bd N lv) (hN : N ≤ 1024) {v : V} {r i : Nat} {e : E} {o : Out} (ho : loopZ (l4_0 KW loopZ) e h = o) (e1 : e.s K4 1 = v) (e5 : e.s K4 5 = .ptr r 0) (e7 : e.s K4 7 = .int .i64 (i : Nat)) (e9 : e.s K4 9 = .int .i64 (N : Nat)) (e11 : e.s K4 11 = .sl L 0 N (.ex N)) (e13 : e.s K4 13 = .int .i64 0) :
    ∃ e', o = some ⟨.ex 2, e', h⟩ ∧ e'.s K4 1 = v ∧ e'.s K4 5 = .ptr r 0 ∧ e'.s K4 7 = .int .i64 (i : Nat) := by
  have loop := loop_run (body := l4_0 KW loopZ) (fun j e g => j ≤ N ∧ g = h ∧ e.s K4 1 = v ∧ e.s K4 5 = .ptr r 0 ∧ e.s K4 7 = .int .i64 (i : Nat) ∧ e.s K4 9 = .int .i64 (N : Nat) ∧ e.s K4 11 = .sl L 0 N (.ex N) ∧ e.s K4 13 = .int .i64 ((N - j : Nat) : Int))
    (fun st => st.x = .ex 2 ∧ st.h = h ∧ st.e.s K4 1 = v ∧ st.e.s K4 5 = .ptr r 0 ∧ st.e.s K4 7 = .int .i64 (i : Nat)) (fun j e g hi => by
      obtain ⟨hj, rfl, e1, e5, e7, e9, e11, e13⟩ := hi
      cases j with
      | zero =>
        rw [Nat.sub_zero] at e13
        simp [l4_0, e9, e13]
        exact ⟨rfl, rfl, by simp [e1], by simp [e5], by simp [e7]⟩
      | succ j =>
        obtain ⟨k, hk⟩ : ∃ k, k = N - (j + 1) := ⟨_, rfl⟩
        rw [← hk] at e13
        have hkl : k < lv.length := by rw [hb.1]; omega
        have q : g.rd1 L k = some (.int .i64 lv[k]) := by rw [rd1_of hL, intsV_get _ _ hkl]; simp [List.getD, hkl]
        have hbd := hb.2 _ (List.getElem_mem hkl)
        obtain ⟨y, hy⟩ : ∃ y, y = lv[k] := ⟨_, rfl⟩
        rw [← hy] at q hbd
        have z1 : IntKind.i64.wrap ((k : Int) + 1) = ((k + 1 : Nat) : Int) := by rw [wi64 (by omega) (by omega)]; omega
        simp [l4_0, e9, e13, show (k : Int) < N by omega, show k < N by omega, e11, q, show ¬ (2097165 : Int) < y by omega, show ¬ y < (-2097165 : Int) by omega, z1, -Int.natCast_add]
        exact ⟨j, by omega, by omega, rfl, by simp [e1], by simp [e5], by simp [e7], by simp [e9], by simp, by simp [show N - j = k + 1 by omega]⟩) N e h ⟨Nat.le_refl _, rfl, e1, e5, e7, e9, e11, by rw [Nat.sub_self]; exact e13⟩
  obtain ⟨⟨sx, se, sh⟩, h1, h2, h3, h4, h5, h6⟩ := loop
  simp only at h2 h3
  subst h2 h3
  exact ⟨se, by rw [← ho, h1], h4, h5, h6⟩

structure IAny (h1 : H) (v : V) (n r j : Nat) (e : E) (g : H) : Prop where
  hj : j ≤ n ∧ n - j ≤ 8
  x : Ext h1 g
  C : ∃ D st, CoderAt D g r (50000 * (n - j)) st ∧ st.sd.writes = false ∧ ∀ b, D b → h1.n ≤ b ∧ b < g.n
  e1 : e.s K4 1 = v
  e5 : e.s K4 5 = .ptr r 0
  e7 : e.s K4 7 = .int .i64 ((n - j : Nat) : Int)
structure OAny (h1 : H) (s : Go.Zf.St) : Prop where
  x : Ext h1 s.h
  o : s.x = .ex 0 ∨ (s.x = .rt ∧ s.e.s K4 4 = .bool true)

theorem loopA {h1 : H} {v : V} {l : List Dc} {r : Nat} (A : SlA h1 4 v l.length fun j p => ∀ x, l[j]? = some x → DoAt h1 p x) {e : E} {g : H} {o : Out} (ho : loopZ (l4_1 KW loopZ) e g = o) (hi : IAny h1 v l.length r l.length e g) :
    ∃ s, o = some s ∧ OAny h1 s := by
  have loop := loop_run (body := l4_1 KW loopZ) (IAny h1 v l.length r) (OAny h1) (fun j e g hi => by
    obtain ⟨hj, x, ⟨D, st, C, hw, hD⟩, e1, e5, e7⟩ := hi
    have sl := A.len
    have A' := A.ext x
    cases j with
    | zero =>
      rw [Nat.sub_zero] at e7
      simp [l4_1, e1, e7, sl, gl_t]
      exact ⟨x, .inl rfl⟩
    | succ j =>
      obtain ⟨i, hi⟩ : ∃ i, i = l.length - (j + 1) := ⟨_, rfl⟩
      rw [← hi] at e7 C hj
      have hil : i < l.length := by omega
      by_cases h8 : i < 8
      · obtain ⟨d, hd⟩ : ∃ d, l[i]? = some d := ⟨l[i], List.getElem?_eq_getElem hil⟩
        obtain ⟨b0, o0, p, t1, t2, t3, _, t4⟩ := A'.at hil
        obtain ⟨v0, rfl, _⟩ := t3 d hd
        have k0 := t4 0 _ rfl
        have k1 := t4 1 _ rfl
        have k2 := t4 2 _ rfl
        rw [Nat.add_zero] at k0
        obtain ⟨W, g1, g2, g3, Ab, b, a1, a2, a3, x3, hA, hb, rA, rb⟩ := mayX (g := g) (p := [.int .i64 d.s, .int .i64 d.p, .int .i64 d.q, .nils]) (x := ⟨d.s, d.p, d.q, []⟩) ⟨.nils, rfl, IntsX.nil _ _⟩
        have ok := Dc.ok ⟨d.s, d.p, d.q, []⟩
        obtain ⟨B, hBd⟩ : ∃ B, B = Dc.bk ⟨d.s, d.p, d.q, []⟩ := ⟨_, rfl⟩
        rw [← hBd] at rA rb ok
        have m3 := x3.n
        have C3 : CoderAt D g3 r (50000 * i) st := C.keep m3 (fun b _ hb => x3.get b hb)
        have hN := ok.n
        obtain ⟨w, g4, a4, st', hw', n1, n2, hend⟩ := (code_any C3 hw (by omega) ok.s ok.p ok.g (v := .nils) rfl).elim
        have q0 : g3.rd1 Ab 0 = some (.int .i64 B.size) := by rw [rd1_of rA]; rfl
        have q1 : g3.rd1 Ab 1 = some (.int .i64 B.plane) := by rw [rd1_of rA]; rfl
        have q2 : g3.rd1 Ab 2 = some (.int .i64 B.sign) := by rw [rd1_of rA]; rfl
        have q3 : g3.rd1 Ab 3 = some (lvs B b) := by rw [rd1_of rA]; rfl
        have cn := count32_ok C3
        have nb := C3.ok.2.2
        obtain ⟨N, hNd⟩ : ∃ N, N = sideP B.size * sideP B.size := ⟨_, rfl⟩
        have hlv : lvs B b = .sl b 0 N (.ex N) := by rw [hNd]
        rw [hlv] at q3
        rw [← hNd] at hN n2 hend
        obtain ⟨y, hy⟩ : ∃ y, y = st.n := ⟨_, rfl⟩
        obtain ⟨y', hy'⟩ : ∃ y', y' = st'.n := ⟨_, rfl⟩
        rw [← hy] at cn nb n1 n2
        rw [← hy'] at n1 n2
        have z1 : IntKind.i64.wrap ((i : Int) + 1) = ((i + 1 : Nat) : Int) := by rw [wi64 (by omega) (by omega)]; omega
        have z2 : IntKind.i64.wrap (y' - y) = y' - y := wi64 (by omega) (by omega)
        have z3 : IntKind.i64.wrap (64 * (N : Int)) = 64 * (N : Int) := wi64 (by omega) (by omega)
        have z4 : IntKind.i64.wrap (64 * (N : Int) + 12) = 64 * (N : Int) + 12 := wi64 (by omega) (by omega)
        have hbl : bl [.int .i64 0, .int .i64 0, .int .i64 0, .nils] [(some (0, 1), .int .i64 d.s), (some (1, 1), .int .i64 d.p), (some (2, 1), .int .i64 d.q)] = some (.agg [.int .i64 d.s, .int .i64 d.p, .int .i64 d.q, .nils]) := by simp [bl, fillW, splice]
        rcases hend with ⟨L, lv, rfl, hbd, K4'⟩ | ⟨rfl, S4⟩
        · obtain ⟨E4, C4, nE4, sE4⟩ := K4'.C
          have cn4 := count32_ok C4
          rw [← hy'] at cn4
          have m4 := K4'.x.n
          have xx : Ext h1 g4 := K4'.x.ext (x.trans x3) (fun b hb hd => by have := (hD b hd).1; omega)
          simp [l4_1, e1, e5, e7, sl, show (i : Int) < l.length by omega, hil, h8, show (i : Int) < 8 by omega, t1, k0, k1, k2, hbl, a1, a2, a3, q3, cn, q0, q1, q2, a4, cn4, z2, z3, z4, show ¬ 64 * (N : Int) + 12 < y' - y by omega, show ¬ y' ≤ y by omega]
          generalize ho : loopZ (l4_0 KW loopZ) _ _ = o
          obtain ⟨e', rfl, f1, f5, f7⟩ := loopB (v := v) (r := r) (i := i) (L := L) (N := N) K4'.l.get hbd hN ho (by simp) (by simp) (by simp) (by simp) (by simp) (by simp)
          simp only [K4] at f1 f5 f7
          simp [f1, f5, f7, z1, -Int.natCast_add]
          refine ⟨j, by omega, by omega, xx, ⟨fun b => E4 b ∧ b < g4.n, st', ?_, hw', ?_⟩, by simp [f1], by simp [f5], by simp [show l.length - j = i + 1 by omega]⟩
          · rw [show l.length - j = i + 1 by omega]
            exact C4.mono (fun b h1 h2 => ⟨h2, h1⟩)
          · rintro b ⟨h1, h2⟩
            have x1 := x.n
            rcases sE4 b h1 with h3 | h3
            · exact ⟨(hD b h3).1, h2⟩
            · exact ⟨by omega, h2⟩
        · obtain ⟨⟨E4, C4, sE4⟩, xM⟩ := S4
          have cn4 := count32_ok C4
          rw [← hy'] at cn4
          have xx : Ext h1 g4 := xM.ext (x.trans x3) (fun b hb hd => by have := (hD b hd).1; omega)
          simp [l4_1, e1, e5, e7, sl, show (i : Int) < l.length by omega, hil, h8, show (i : Int) < 8 by omega, t1, k0, k1, k2, hbl, a1, a2, a3, q3, cn, q0, q1, q2, a4, cn4, z2, z3, z4, show ¬ 64 * (N : Int) + 12 < y' - y by omega, show ¬ y' ≤ y by omega]
          exact ⟨xx, .inr ⟨rfl, by simp⟩⟩
      · simp [l4_1, e1, e7, sl, show (i : Int) < l.length by omega, hil, h8, show ¬ (i : Int) < 8 by omega]
        exact ⟨x, .inl rfl⟩) l.length e g hi
  obtain ⟨s, h2, h3⟩ := loop
  exact ⟨s, by rw [← ho, h2], h3⟩

theorem any4_ok {h : H} {bv v : V} {bs : List Nat} {l : List Dc} (sb : SlB h bv bs) (hbl : bs.length < 140737488355329) (hb : ∀ x ∈ bs, x < 256) (A : SlA h 4 v l.length fun j p => ∀ x, l[j]? = some x → DoAt h p x) :
    RT (fun w h' => w = .bool true ∧ Ext h h') (KW 4 [bv, v] h) := by
  obtain ⟨w, h1, a1, rfl, x1⟩ := (awake6_ok h).elim
  obtain ⟨w, h2, a2, v2, rfl, W2, x2⟩ := (default27_ok h1).elim
  obtain ⟨w, h3, a3, r, rfl, C3, x3⟩ := (reader25_ok (sb.keep (x1.trans x2).get) hbl hb W2.setR defS_ok true).elim
  have m1 := x1.n
  have m2 := x2.n
  have m3 := x3.n
  have A1 : SlA h1 4 v l.length fun j p => ∀ x, l[j]? = some x → DoAt h1 p x := (A.ext x1).imp fun j p _ _ q x hx => (q x hx).ext x1
  rw [w4, f4, s4]
  simp [a1, a2, a3]
  generalize ho : loopZ (l4_1 KW loopZ) _ _ = o
  obtain ⟨⟨sx, se, sh⟩, rfl, x4, ho⟩ := loopA (r := r) A1 ho ⟨⟨Nat.le_refl _, by omega⟩, x2.trans x3, ⟨fun b => h2.n ≤ b ∧ b < h3.n, newR bs defS true, by simp; exact C3.mono (fun b q1 q2 => ⟨q2, q1⟩), rfl, fun b hb => ⟨by omega, hb.2⟩⟩, by simp, by simp, by simp⟩
  simp only at x4
  rcases ho with ho | ⟨ho, h4⟩
  · simp only at ho
    subst ho
    simp
    exact ⟨rfl, x1.trans x4⟩
  · simp only at ho
    simp only [K4] at h4
    subst ho
    simp [h4]
    exact ⟨rfl, x1.trans x4⟩
theorem cells5 : Try.prog.cellsOf 5 = 1 := by kernel_rfl
theorem wf_u8 {n : Int} (h : (Lit.int .u8 n).wf = true) : ∃ m : Nat, m < 256 ∧ n = m := by
  simp [Lit.wf, IntKind.min, IntKind.max, IntKind.signed, IntKind.bits] at h
  exact ⟨n.toNat, by omega, by omega⟩
/-- What a law's argument of bytes is. -/
theorem argBytes {i : Inj} {h : H} {w : World} (a : ArgH i h w) {Hd : Type} {enc : TypeId × Value → Hd} {r : Reach} {b0 : Nat} {v : Value} {d : DataW Hd} {ps : List MemPlace}
    (hok : Value.okWide Try.prog w r b0 39 v) (hd : DataW.Trod enc Try.prog w 0 (fun _ => true) true 39 v d ps) :
    ∃ i' h' x l, ArgH i' h' w ∧ i.le i' ∧ VRel i' x v ∧ SlB h' x l ∧ h.n ≤ h'.n ∧ (∀ c, c < h.n → h'.get c = h.get c) ∧ l.length < 9223372036854775808 ∧ (∀ y ∈ l, y < 256) ∧ (l = [] ∨ ∃ elems spare, d = .slice elems spare ∧ elems.length = l.length) ∧
      ∀ m, m ≤ l.length → ∃ y, slS 1 x none (some (.int .i64 (m : Nat))) none = some y ∧ SlB h' y (l.take m) := by
  rcases open_cells (z := 1) (Q := qByte) Try.underlying39 cells5 (by decide) hok hd (fun n cs y hy => by
    obtain ⟨n0, rfl, _, w0⟩ := DataW.trod_int Try.underlying5 hy
    obtain ⟨m0, l0, rfl⟩ := wf_u8 w0
    refine ⟨fun _ => .int .u8 m0, fun j hj => ?_, m0, l0, rfl⟩
    match j, hj with
    | 0, _ => exact ⟨rfl, _, rfl, fun _ => .int _ _⟩)
    (fun g g' hg ⟨n, q1, q2⟩ => ⟨n, q1, by rw [← hg 0 (by decide), q2]⟩) with rfl | ⟨B, off, len, cap, G, C, e', fr, rfl, s, els, sp, hd1, hd2⟩
  · exact ⟨i, h, .nils, [], a, fun _ _ h => h, .nils, .inl ⟨rfl, rfl⟩, Nat.le_refl _, fun _ _ => rfl, by decide, by simp, .inl rfl, fun m hm => ⟨.nils, by
      have : m = 0 := by simpa using hm
      subst this; rfl, .inl ⟨rfl, by simp⟩⟩⟩
  · obtain ⟨i', h1, h2, h3⟩ := a.slice s
    have hch : ∀ m, m < cap → ∃ q : Nat, q < 256 ∧ G m = .int .u8 q := fun m hm => by
      obtain ⟨n, q1, q2⟩ := s.el m hm
      exact ⟨n, q1, by simpa using q2⟩
    obtain ⟨q, hq⟩ := Go.Deep.choose_lt hch
    have hle := s.le
    have hmx := s.max
    refine ⟨i', _, _, (List.range len).map q, h1, h2, h3, .inr ⟨h.n, 0, .ex cap, _, _, _, by simp, get_new_same, by simpa using hle, ?_⟩, by rw [H.n_new]; omega, fun c hc => get_new_lt hc, by simp only [maxLen] at hmx; simp; omega, ?_, .inr ⟨els, sp, hd1, by simp [hd2]⟩, fun m hm => ?_⟩
    · apply List.ext_getElem?
      intro m
      by_cases hm : m < len
      · have := (hq m (by omega)).2
        simp [bytesV, hm, show m < cap by omega, this, List.getElem?_take]
      · simp [bytesV, hm, List.getElem?_take]
    · intro y hy
      simp at hy
      obtain ⟨m, hm, rfl⟩ := hy
      exact (hq m (by omega)).1
    · have hm' : m ≤ len := by simpa using hm
      refine ⟨.sl h.n 0 m (.ex cap), by simp [slS, sbV, optB, show (m : Int) ≤ cap by omega, show m ≤ cap by omega], .inr ⟨h.n, 0, .ex cap, _, _, _, by simp [Nat.min_eq_left hm'], get_new_same, by simp; omega, ?_⟩⟩
      apply List.ext_getElem?
      intro j
      by_cases hj : j < m
      · have := (hq j (by omega)).2
        simp [bytesV, hj, show j < cap by omega, show j < len by omega, show j < min m len by omega, this, List.getElem?_take]
      · simp [bytesV, hj, show ¬ j < min m len by omega, List.getElem?_take]

/-- The form's own reach, of bytes. -/
theorem reach {Hd : Type} {ts : List TypeId} {ds : List (DataW Hd)} (hk : (DataW.weightsEach Try.prog ts ds).all (· ≤ reachBytes) = true) {j : Nat} {d : DataW Hd} {l : List Nat} (ht : ts[j]? = some 39) (hd : ds[j]? = some d)
    (hl : l = [] ∨ ∃ elems spare, d = .slice elems spare ∧ elems.length = l.length) : l.length ≤ 140737488351232 := by
  rcases hl with rfl | ⟨elems, spare, rfl, h2⟩
  · simp
  · have h := sized_slice hk ht hd Try.underlying39
    rw [show Try.prog.bytesOf 5 = 1 by kernel_rfl] at h
    simp only [reachBytes] at h
    omega

theorem core4 {Hd : Type} {enc : TypeId × Value → Hd} {W : World} {base : Nat} {v0 v1 : Value} {d0 d1 : DataW Hd} {p0 p1 : List MemPlace}
    (hok : Value.okWide Try.prog W .any base 39 v0) (hd : DataW.Trod enc Try.prog W 0 (fun _ => true) true 39 v0 d0 p0)
    (hok1 : Value.okWide Try.prog W .any base 22 v1) (hd1 : DataW.Trod enc Try.prog W 0 (fun _ => true) true 22 v1 d1 p1)
    (hk : (DataW.weightsEach Try.prog [39, 22] [d0, d1]).all (· ≤ reachBytes) = true) :
    Calls Try.prog 4 #[v0, v1] W fun e W' => e = .returned (.bool true) ∧ Go.RowKit.Below W.heap.size W W' := by
  obtain ⟨i, h, x, l, a, _, hx, hB, n1, k1, hl, hb, hr, _⟩ := argBytes (ArgH.empty W) hok hd
  obtain ⟨i', h', y, a', le, X, _, hy, hrd⟩ := argAny 5 good22 a hd1
  obtain ⟨v, ls, rfl, A, _⟩ := rd_dos hrd
  obtain ⟨u, hu, hv⟩ := hy.get (k := 0) rfl
  have hv0 : u = v1 := by
    obtain ⟨s0, s1, s2, s3, _⟩ := okWide_slice Try.underlying22 hok1
    simp [Value.cells] at hu
    exact hu.symm
  rw [hv0] at hv
  have hl' := reach hk (j := 0) rfl rfl hr
  obtain ⟨w, h'', hrun, rfl, _⟩ := (any4_ok (hB.keep X.get) (by omega) hb A).elim
  exact law_calls (us := [v0, v1]) (callW_ok mixed kp ovC_ok hrun) a'.rel (.cons (hx.mono le) (.cons hv .nil)) a'.dom a'.no
end Go.Proofs.Ytbajipmhnoakeaa
