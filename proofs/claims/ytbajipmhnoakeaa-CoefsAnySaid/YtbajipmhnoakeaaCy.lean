/- Code by a writer, and by the reader of it; awake. -/
import Derived.Test.YtbajipmhnoakeaaCx
set_option linter.unusedVariables false
set_option linter.unusedSimpArgs false
set_option maxRecDepth 20000
namespace Go.Proofs.Ytbajipmhnoakeaa
open Go Go.Zf
open Go.Zf (wi64)

theorem Wr.slb {h : H} {n : Nat} {v : V} {l : List Nat} (a : Wr h n v l) : SlB h v l := by
  obtain ⟨b, k, L, h1, h2, h3, h4, h5, h6⟩ := a
  exact .inr ⟨b, 0, k, _, _, _, h1, h3, by simpa using h4, by rw [List.drop_zero]; unfold bytesV; rw [← List.map_take, h5]⟩
theorem bdOf_ok {size plane sign : Nat} {src : List Int} (hs : sizeOk size) (hg : sign ≤ 2) (hl : src.length = sideP size * sideP size) (hb : ∀ x ∈ src, -1048576 ≤ x ∧ x ≤ 1048576) : BOk (bdOf size plane sign src true) :=
  ⟨hs, rfl, (by show min plane 1 ≤ 1; omega), hg, rfl, hl, hb, rfl⟩
/-- What a writer is asked to code. -/
def opsOfB (size plane sign : Nat) (src : List Int) : List Op := (codeP (bdOf size plane sign src true)).ech.2
theorem ops_ech {size plane sign : Nat} {src : List Int} (hs : sizeOk size) (hg : sign ≤ 2) (hl : src.length = sideP size * sideP size) (hb : ∀ x ∈ src, -1048576 ≤ x ∧ x ≤ 1048576) :
    (codeP (bdOf size plane sign src true)).ech = (some src, opsOfB size plane sign src) ∧ (∀ o ∈ opsOfB size plane sign src, o.ok) := by
  obtain ⟨ops, h1, h2, _⟩ := codeP_ech (bdOf_ok (plane := plane) hs hg hl hb)
  have e : opsOfB size plane sign src = ops := by unfold opsOfB; rw [h1]
  rw [e]
  exact ⟨h1, h2⟩

theorem code_w {D : Nat → Prop} {h : H} {c m : Nat} {st : St} (C : CoderAt D h c m st) {s : Sr} (hsd : st.sd = wS s) (ok : SOk s) (hm : m + 50000 < 100000000) {size plane sign : Nat} (hs : sizeOk size) (hp : plane ≤ 2) (hg : sign ≤ 2) {v : V} {src : List Int}
    (hsrc : IntsX D h v src) (hl : src.length = sideP size * sideP size) (hb : ∀ x ∈ src, -1048576 ≤ x ∧ x ≤ 1048576) :
    RT (fun w h' => ∃ L, w = .tup [.sl L 0 (sideP size * sideP size) (.ex (sideP size * sideP size)), .int .i64 0] ∧ Coded D h c L (m + 50000) (st.run (opsOfB size plane sign src)) src h') (KW 10 [.ptr c 0, .int .i64 size, .int .i64 plane, .int .i64 sign, v] h) := by
  obtain ⟨e1, e2⟩ := ops_ech (plane := plane) hs hg hl hb
  have hw : st.sd.writes = true := by rw [hsd]; rfl
  have ex := Pr.exec_w (codeP (bdOf size plane sign src true)) hsd ok C.ok.1 (by rw [e1]; exact e2)
  rw [e1] at ex
  have := code10_ok C hm hs hp hg hsrc.cell (fun _ => hsrc) (fun h => by rw [hw] at h; cases h) hl hb (by rw [hw]; exact ex)
  exact this.mono fun w h' ⟨L, h1, _, h2⟩ => ⟨L, h1, h2⟩
theorem ops_run {size plane sign : Nat} {src : List Int} (hs : sizeOk size) (hg : sign ≤ 2) (hl : src.length = sideP size * sideP size) (hb : ∀ x ∈ src, -1048576 ≤ x ∧ x ≤ 1048576) {st : St} {s : Sr} (hsd : st.sd = wS s) (ok : SOk s) (so : SetOk st.S) :
    ∃ s', (st.run (opsOfB size plane sign src)).sd = wS s' ∧ SOk s' ∧ WithinS s s' := run_within _ hsd ok so (ops_ech hs hg hl hb).2
theorem code_r {D : Nat → Prop} {h : H} {c m : Nat} {st : St} {s s' T : Sr} (hT : SOk T) (hsd : st.sd = wS s) (ok : SOk s) (so : SetOk st.S) (C : CoderAt D h c m (mateS (bytes T.1 T.2.1) s st)) (hm : m + 50000 < 100000000) {size plane sign : Nat} (hs : sizeOk size) (hp : plane ≤ 2) (hg : sign ≤ 2) {v : V} (hv : v.isCell = true) {src : List Int}
    (hl : src.length = sideP size * sideP size) (hb : ∀ x ∈ src, -1048576 ≤ x ∧ x ≤ 1048576) (h1 : (st.run (opsOfB size plane sign src)).sd = wS s') (h2 : WithinS s' T) :
    RT (fun w h' => ∃ L, w = .tup [.sl L 0 (sideP size * sideP size) (.ex (sideP size * sideP size)), .int .i64 0] ∧ Coded D h c L (m + 50000) (mateS (bytes T.1 T.2.1) s' (st.run (opsOfB size plane sign src))) src h') (KW 10 [.ptr c 0, .int .i64 size, .int .i64 plane, .int .i64 sign, v] h) := by
  obtain ⟨e1, e2⟩ := ops_ech (plane := plane) hs hg hl hb
  have sim := codeP_sim (B := bdOf size plane sign src true) (B' := bdOf size plane sign (List.replicate (sideP size * sideP size) 0) false) ⟨rfl, rfl, rfl, rfl, rfl⟩
  obtain ⟨s2, k1, k2⟩ := Pr.exec_r hT _ _ sim hsd ok so (by rw [e1]; exact e2) ⟨s', by rw [e1]; exact h1, h2⟩
  rw [e1] at k1 k2
  have hs2 : s2 = s' := by
    have := k1.symm.trans h1
    injection this with a b c
    exact Prod.ext a (Prod.ext b c)
  subst hs2
  have := code10_ok (src := List.replicate (sideP size * sideP size) 0) C hm hs hp hg hv (fun h => by cases h) (fun _ => rfl) (by simp) (fun x hx => by rw [(List.mem_replicate.1 hx).2]; decide) k2
  exact this.mono fun w h' ⟨L, h1, _, h2⟩ => ⟨L, h1, h2⟩

theorem Coded.ints {D : Nat → Prop} {h : H} {c L m : Nat} {st : St} {lv : List Int} {h' : H} (a : Coded D h c L m st lv h') {N : Nat} (hN : lv.length = N) {g : H} (x : Ext h' g) : IntsX (fun _ => False) g (.sl L 0 N (.ex N)) lv := by
  subst hN
  exact IntsX.of (by rw [x.get L (H.get_lt a.l.get), a.l.get]) (fun h => h)
theorem bytes_bound {m : Nat} {T : Sr} (so : SideOk m (wS T)) : (bytes T.1 T.2.1).length < 140737488355329 := by
  have h2 : T.1.length ≤ 3 * m := so.2.1
  have h3 := so.2.2
  rw [bytes_len]
  have := trimN_le (emits 4 T.1 T.2.1).1 (T.1.length + 4)
  omega

def awL : List Int := [-20, 1, 0, 0, 0, 0, 0, 0, 0, 0, 0, 0, 0, 0, 0, 0]
theorem aw_cost : costL (opsOfB 4 1 2 awL) = 15 := by kernel_rfl
theorem awake6_ok (h : H) : RT (fun w h' => w = .bool true ∧ Ext h h') (KW 6 [] h) := by
  have hsz : sizeOk 4 := .inl rfl
  have hN : sideP 4 * sideP 4 = 16 := rfl
  have hb : ∀ x ∈ awL, -1048576 ≤ x ∧ x ≤ 1048576 := by decide
  have ms1 := ms_zero h 16 (by decide)
  obtain ⟨g1, hg1⟩ : ∃ y, y = h.new (.cells (intsV (List.replicate 16 0)) 3 false) := ⟨_, rfl⟩
  rw [← hg1] at ms1
  have r1 : g1.get h.n = some (.cells (intsV (List.replicate 16 0)) 3 false) := by rw [hg1, get_new_same]
  have n1 : g1.n = h.n + 1 := by rw [hg1, H.n_new]
  obtain ⟨g2, hg2⟩ : ∃ y, y = g1.put h.n (.cells ((intsV (List.replicate 16 0)).set 0 (.int .i64 (-20))) 3 false) := ⟨_, rfl⟩
  have w2 : g1.wr1 h.n 0 (.int .i64 (-20)) = some g2 := by rw [wr1_of r1 (by simp [intsV]), hg2]
  have r2 : g2.get h.n = some (.cells ((intsV (List.replicate 16 0)).set 0 (.int .i64 (-20))) 3 false) := by rw [hg2, get_put_same (by omega)]
  obtain ⟨g3, hg3⟩ : ∃ y, y = g2.put h.n (.cells (intsV awL) 3 false) := ⟨_, rfl⟩
  have w3 : g2.wr1 h.n 1 (.int .i64 1) = some g3 := by rw [wr1_of r2 (by simp [intsV]), hg3]; rfl
  have r3 : g3.get h.n = some (.cells (intsV awL) 3 false) := by rw [hg3, get_put_same (by rw [hg2, H.n_put]; omega)]
  have n3 : g3.n = h.n + 1 := by rw [hg3, H.n_put, hg2, H.n_put, n1]
  have x3 : Ext h g3 := by
    rw [hg3, hg2, hg1]
    exact (((Ext.refl h).new _).put (Nat.le_refl _) _).put (Nat.le_refl _) _
  obtain ⟨w, g4, a4, v4, rfl, W4, x4⟩ := (default27_ok g3).elim
  obtain ⟨w, g5, a5, p, rfl, C5, x5⟩ := (writer12_ok W4.setR defS_ok true).elim
  have m4 := x4.n
  have m5 := x5.n
  have r5 : g5.get h.n = _ := ((x4.trans x5).get _ (H.get_lt r3)).trans r3
  have I5 : IntsX (fun b => g4.n ≤ b) g5 (.sl h.n 0 16 (.ex 16)) awL := IntsX.of (l := awL) r5 (by omega)
  obtain ⟨w, g6, a6, L1, rfl, K6⟩ := (code_w C5 (s := s0) rfl s0_ok (by decide) hsz (plane := 1) (sign := 2) (by decide) (by decide) I5 rfl hb).elim
  obtain ⟨s', hs', ok', wi'⟩ := ops_run (plane := 1) (sign := 2) (src := awL) hsz (by decide) rfl hb (st := newW defS true) (s := s0) rfl s0_ok C5.ok.1
  have hcost : ((newW defS true).run (opsOfB 4 1 2 awL)).n = 15 := by rw [run_n, aw_cost]; rfl
  obtain ⟨st1, hst1⟩ : ∃ y, y = (newW defS true).run (opsOfB 4 1 2 awL) := ⟨_, rfl⟩
  rw [← hst1] at K6 hs' hcost
  obtain ⟨E6, C6, nE6, sE6⟩ := K6.C
  have m6 := K6.x.n
  have y6 : Ext g3 g6 := K6.x.ext (x4.trans x5) (fun b hb hd => by have h2 : g4.n ≤ b := hd; omega)
  obtain ⟨w, g7, a7, bv, rfl, W7, x7⟩ := (bytes19_ok C6 hs').elim
  have hbl := bytes_bound (T := s') (by have := C6.ok.2.1; rw [hs'] at this; exact this)
  obtain ⟨w, g8, a8, v8, rfl, W8, x8⟩ := (default27_ok g7).elim
  obtain ⟨w, g9, a9, q, rfl, C9, x9⟩ := (reader25_ok (W7.slb.keep x8.get) hbl W7.byte W8.setR defS_ok true).elim
  rw [newR_mate ok' wi'] at C9
  have m7 := x7.n
  have m8 := x8.n
  have m9 := x9.n
  obtain ⟨w, g10, a10, L2, rfl, K10⟩ := (code_r ok' (st := newW defS true) (s := s0) (s' := s') rfl s0_ok C5.ok.1 C9 (by decide) hsz (plane := 1) (sign := 2) (by decide) (by decide) (v := .nils) rfl (src := awL) rfl hb (by rw [← hst1]; exact hs') (Within.refl _ _ _)).elim
  rw [← hst1] at K10
  obtain ⟨E10, C10, nE10, sE10⟩ := K10.C
  have y10 : Ext g6 g10 := K10.x.ext ((x7.trans x8).trans x9) (fun b hb hd => by have h2 : g8.n ≤ b := hd; omega)
  rw [hN] at a6 a10
  have cw := count32_ok (C6.ext y10)
  have cr := count32_ok C10
  have hcr : (mateS (bytes s'.1 s'.2.1) s' st1).n = st1.n := rfl
  rw [hcr] at cr
  rw [hcost] at cw cr
  have I0 : IntsX (fun _ => False) g10 (.sl h.n 0 16 (.ex 16)) awL := IntsX.of (l := awL) (by rw [(y6.trans y10).get _ (H.get_lt r3), r3]) (fun h => h)
  have e1 := eqInts11_ok (K6.ints (N := 16) rfl y10) I0 (by decide)
  have e2 := eqInts11_ok (K10.ints (N := 16) rfl (Ext.refl _)) I0 (by decide)
  have e3 := sign16_ok I0
  have hsg : signP awL = 1 := by decide
  rw [hsg] at e3
  simp at e1 e2
  have a6' : KW 10 [.ptr p 0, .int .i64 4, .int .i64 1, .int .i64 2, .sl h.n 0 16 (.ex 16)] g5 = _ := a6
  have a10' : KW 10 [.ptr q 0, .int .i64 4, .int .i64 1, .int .i64 2, .nils] g9 = _ := a10
  have ms1' : ms h 3 8 [.int .i64 0] (.int .i64 16) (.int .i64 16) = _ := ms1
  rw [w6, f6, s6]
  simp [ms1', w2, w3, a4, a5, a6', a7, a8, a9, a10', e1, e2, cw, cr, e3]
  exact ⟨rfl, (x3.trans y6).trans y10⟩
end Go.Proofs.Ytbajipmhnoakeaa
