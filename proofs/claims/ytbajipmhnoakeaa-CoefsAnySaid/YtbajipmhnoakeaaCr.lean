/- Max and Min; Code of what may be. -/
import Derived.Test.YtbajipmhnoakeaaCpa
import Derived.Test.YtbajipmhnoakeaaCq
set_option linter.unusedVariables false
set_option linter.unusedSimpArgs false
set_option maxRecDepth 20000
namespace Go.Proofs.Ytbajipmhnoakeaa
open Go Go.Zf
open Go.Zf (wi64)

theorem max27_ok {X : Nat → Prop} {h : H} {v : V} {l : List Int} (s : IntsX X h v l) (h0 : 0 < l.length) (h1 : l.length < 100000) :
    RT (fun w h' => h' = h ∧ ∃ M : Int, w = .int .i64 M ∧ M ∈ l ∧ ∀ x ∈ l, x ≤ M) (KW 27 [v] h) := by
  obtain ⟨b, o, s1, s2, _, _⟩ := s.at_ 0 _ (List.getElem?_eq_getElem h0)
  have s1' : iaS 1 v (.int .i64 0) = some (.ptr b o) := s1
  have sl := s.len
  rw [w27, f27, s27]
  simp [sl, show ¬ (l.length : Int) < 1 by omega, s1', s2]
  refine loop_in (C := fun x => RT _ (fin Try.prog _ _ (sq (blk 0 x) _))) (fun j e g => j < l.length ∧ g = h ∧ e.s [0, 2, 3, 4] 0 = v ∧ e.s [0, 2, 3, 4] 4 = .int .i64 ((l.length - j : Nat) : Int) ∧ ∃ M : Int, e.s [0, 2, 3, 4] 3 = .int .i64 M ∧ M ∈ l ∧ ∀ x ∈ l.take (l.length - j), x ≤ M)
    (fun st => st.x = .ex 0 ∧ st.h = h ∧ ∃ M : Int, st.e.s [0, 2, 3, 4] 3 = .int .i64 M ∧ M ∈ l ∧ ∀ x ∈ l, x ≤ M) ?_ (l.length - 1) ?_ ?_
  · rintro j e g ⟨hj, rfl, e0, e4, M, e3, m1, m2⟩
    cases j with
    | zero =>
      rw [Nat.sub_zero] at e4 m2
      rw [List.take_length] at m2
      simp [l27_0, e0, e4, sl]
      exact ⟨rfl, rfl, M, by simp [e3], m1, m2⟩
    | succ j =>
      obtain ⟨i, hi⟩ : ∃ i, i = l.length - (j + 1) := ⟨_, rfl⟩
      rw [← hi] at e4 m2
      have hil : i < l.length := by omega
      obtain ⟨b, o, t1, t2, _, _⟩ := s.at_ i _ (List.getElem?_eq_getElem hil)
      have z1 : IntKind.i64.wrap ((i : Int) + 1) = ((i + 1 : Nat) : Int) := by rw [wi64 (by omega) (by omega)]; omega
      have mb := imax_b M l[i]
      have hil' : (i : Int) < l.length := by omega
      simp [l27_0, e0, e4, sl, hil', t1, t2, e3, maxV_i, -maxV2, z1, -Int.natCast_add, hil]
      refine ⟨j, by omega, by omega, rfl, by simp, by simp [show l.length - j = i + 1 by omega], imax M l[i], by simp, ?_, ?_⟩
      · rcases mb.2.2 with q | q
        · rw [q]; exact m1
        · rw [q]; exact List.getElem_mem hil
      · intro x hx
        rw [show l.length - j = i + 1 by omega, List.take_add_one, List.mem_append, List.getElem?_eq_getElem hil] at hx
        rcases hx with hx | hx
        · have := m2 x hx; omega
        · simp at hx; subst hx; exact mb.2.1
  · refine ⟨by omega, rfl, by simp, by simp [show l.length - (l.length - 1) = 1 by omega], l[0], by simp, List.getElem_mem h0, ?_⟩
    intro x hx
    rw [show l.length - (l.length - 1) = 0 + 1 by omega, List.take_add_one] at hx
    simp [List.getElem?_eq_getElem h0] at hx
    subst hx; exact Int.le_refl _
  · rintro ⟨sx, se, sh⟩ ⟨h1, h2, M, h3, h4, h5⟩
    simp only at h1 h2 h3
    subst h1 h2
    simp [h3]
    exact ⟨rfl, M, rfl, h4, h5⟩
theorem min28_ok {X : Nat → Prop} {h : H} {v : V} {l : List Int} (s : IntsX X h v l) (h0 : 0 < l.length) (h1 : l.length < 100000) :
    RT (fun w h' => h' = h ∧ ∃ M : Int, w = .int .i64 M ∧ M ∈ l ∧ ∀ x ∈ l, M ≤ x) (KW 28 [v] h) := by
  obtain ⟨b, o, s1, s2, _, _⟩ := s.at_ 0 _ (List.getElem?_eq_getElem h0)
  have s1' : iaS 1 v (.int .i64 0) = some (.ptr b o) := s1
  have sl := s.len
  rw [w28, f28, s28]
  simp [sl, show ¬ (l.length : Int) < 1 by omega, s1', s2]
  refine loop_in (C := fun x => RT _ (fin Try.prog _ _ (sq (blk 0 x) _))) (fun j e g => j < l.length ∧ g = h ∧ e.s [0, 2, 3, 4] 0 = v ∧ e.s [0, 2, 3, 4] 4 = .int .i64 ((l.length - j : Nat) : Int) ∧ ∃ M : Int, e.s [0, 2, 3, 4] 3 = .int .i64 M ∧ M ∈ l ∧ ∀ x ∈ l.take (l.length - j), M ≤ x)
    (fun st => st.x = .ex 0 ∧ st.h = h ∧ ∃ M : Int, st.e.s [0, 2, 3, 4] 3 = .int .i64 M ∧ M ∈ l ∧ ∀ x ∈ l, M ≤ x) ?_ (l.length - 1) ?_ ?_
  · rintro j e g ⟨hj, rfl, e0, e4, M, e3, m1, m2⟩
    cases j with
    | zero =>
      rw [Nat.sub_zero] at e4 m2
      rw [List.take_length] at m2
      simp [l28_0, e0, e4, sl]
      exact ⟨rfl, rfl, M, by simp [e3], m1, m2⟩
    | succ j =>
      obtain ⟨i, hi⟩ : ∃ i, i = l.length - (j + 1) := ⟨_, rfl⟩
      rw [← hi] at e4 m2
      have hil : i < l.length := by omega
      obtain ⟨b, o, t1, t2, _, _⟩ := s.at_ i _ (List.getElem?_eq_getElem hil)
      have z1 : IntKind.i64.wrap ((i : Int) + 1) = ((i + 1 : Nat) : Int) := by rw [wi64 (by omega) (by omega)]; omega
      have mb := imin_b M l[i]
      have hil' : (i : Int) < l.length := by omega
      simp [l28_0, e0, e4, sl, hil', t1, t2, e3, minV_i, -minV2, z1, -Int.natCast_add, hil]
      refine ⟨j, by omega, by omega, rfl, by simp, by simp [show l.length - j = i + 1 by omega], imin M l[i], by simp, ?_, ?_⟩
      · rcases mb.2.2 with q | q
        · rw [q]; exact m1
        · rw [q]; exact List.getElem_mem hil
      · intro x hx
        rw [show l.length - j = i + 1 by omega, List.take_add_one, List.mem_append, List.getElem?_eq_getElem hil] at hx
        rcases hx with hx | hx
        · have := m2 x hx; omega
        · simp at hx; subst hx; exact mb.2.1
  · refine ⟨by omega, rfl, by simp, by simp [show l.length - (l.length - 1) = 1 by omega], l[0], by simp, List.getElem_mem h0, ?_⟩
    intro x hx
    rw [show l.length - (l.length - 1) = 0 + 1 by omega, List.take_add_one] at hx
    simp [List.getElem?_eq_getElem h0] at hx
    subst hx; exact Int.le_refl _
  · rintro ⟨sx, se, sh⟩ ⟨h1, h2, M, h3, h4, h5⟩
    simp only at h1 h2 h3
    subst h1 h2
    simp [h3]
    exact ⟨rfl, M, rfl, h4, h5⟩

theorem IntsX.keep {X Y : Nat → Prop} {h h' : H} {v : V} {l : List Int} (a : IntsX X h v l) (hn : h.n ≤ h'.n) (hk : ∀ b, b < h.n → ¬ X b → h'.get b = h.get b) (hy : ∀ b, b < h.n → ¬ X b → ¬ Y b) : IntsX Y h' v l where
  len := a.len
  at_ := fun i x hi => by
    obtain ⟨b, o, h1, h2, h3, h4⟩ := a.at_ i x hi
    exact ⟨b, o, h1, by rw [← h2]; unfold H.rd1; rw [hk b h4 h3], hy b h4 h3, by omega⟩
  cell := a.cell
  same := a.same
  cells := a.cells
/-- Whole numbers in a block of their own. -/
theorem IntsX.of {X : Nat → Prop} {h : H} {b : Nat} {l : List Int} {k : Cap} (hb : h.get b = some (.cells (intsV l) 3 false)) (hx : ¬ X b) : IntsX X h (.sl b 0 l.length k) l where
  len := rfl
  at_ := fun i x hi => by
    have hlt := lt_of_get hi
    refine ⟨b, i, by simp [hlt], ?_, hx, H.get_lt hb⟩
    rw [rd1_of hb, intsV_get _ _ hlt]; simp [hi]
  cell := rfl
  same := by simp [V.same]
  cells := rfl
theorem St.num_zero (st : St) (v : Nat) : st.num 0 v = st := by
  obtain ⟨a, b, c, d⟩ := st
  simp [St.num, bits]

/-- What is asked of Code where it may be. -/
def bdOf (size plane sign : Nat) (src : List Int) (wr : Bool) : BD := ⟨size, sideP size, min plane 1, sign, ordN (sideP size), src, wr⟩
theorem ms_zero (h : H) (N : Nat) (hN : N < 100000) : ms h 3 8 [.int .i64 0] (.int .i64 N) (.int .i64 N) = some (.sl h.n 0 N (.ex N), h.new (.cells (intsV (List.replicate N 0)) 3 false)) := by
  have hm : ms h 3 8 [.int .i64 0] (.int .i64 (N : Nat)) (.int .i64 (N : Nat)) = if (0 : Int) ≤ (N : Nat) ∧ ((N : Nat) : Int) ≤ ((N : Nat) : Int) ∧ ((8 : Nat) : Int) * ((N : Nat) : Int) ≤ 140737488355328 ∧ ((N : Nat) : Int) < 9223372036854775808 ∧ true = true then some (.sl h.n 0 ((N : Nat) : Int).toNat (.ex ((N : Nat) : Int).toNat), h.new (.cells (reps ((N : Nat) : Int).toNat [.int .i64 0]) 3 false)) else none := rfl
  rw [hm, if_pos ⟨by omega, by omega, by omega, by omega, rfl⟩, Int.toNat_natCast, reps_one]
  simp [intsV]

/-- What is left when a block has been coded: the coder, the levels in a block of their own. -/
structure Coded (D : Nat → Prop) (h : H) (c L m : Nat) (st : St) (lv : List Int) (h' : H) : Prop where
  C : ∃ E, CoderAt E h' c m st ∧ ¬ E L ∧ ∀ b, E b → D b ∨ h.n ≤ b
  nL : h.n ≤ L
  l : LvAt h' L lv
  x : Mod D h h'

/-- .. or when it could not go on. -/
structure Stopped (D : Nat → Prop) (h : H) (c m : Nat) (st : St) (h' : H) : Prop where
  C : ∃ E, CoderAt E h' c m st ∧ ∀ b, E b → D b ∨ h.n ≤ b
  x : Mod D h h'
def CodeEnd (D : Nat → Prop) (h : H) (c m N : Nat) (R : Option (List Int) × St) (w : V) (h' : H) : Prop :=
  (∃ L lvF, R.1 = some lvF ∧ w = .tup [.sl L 0 N (.ex N), .int .i64 0] ∧ lvF.length = N ∧ Coded D h c L m R.2 lvF h') ∨ (R.1 = none ∧ w = .tup [.nils, .int .i64 4] ∧ Stopped D h c m R.2 h')

theorem code10_any {D : Nat → Prop} {h : H} {c m : Nat} {st : St} (C : CoderAt D h c m st) (hm : m + 50000 < 100000000) {size plane sign : Nat} (hs : sizeOk size) (hp : plane ≤ 2) (hg : sign ≤ 2) {v : V} {src : List Int} (hc : v.isCell = true)
    (hsrc : st.sd.writes = true → IntsX D h v src) (hr : st.sd.writes = false → src = List.replicate (sideP size * sideP size) 0) (hl : src.length = sideP size * sideP size) (hb : ∀ x ∈ src, -1048576 ≤ x ∧ x ≤ 1048576)
    {R : Option (List Int) × St} (hR : (codeP (bdOf size plane sign src st.sd.writes)).exec st = R) :
    RT (CodeEnd D h c (m + 50000) (sideP size * sideP size) R) (KW 10 [.ptr c 0, .int .i64 size, .int .i64 plane, .int .i64 sign, v] h) := by
  have sb := sideP_b hs
  have oo := ord_ok hs
  obtain ⟨n, hn⟩ : ∃ n, n = sideP size := ⟨_, rfl⟩
  have hnn : n * n ≤ 1024 := by
    have : n * n ≤ 32 * 32 := Nat.mul_le_mul (by omega) (by omega)
    omega
  have hnn2 : 16 ≤ n * n := by
    have : 4 * 4 ≤ n * n := Nat.mul_le_mul (by omega) (by omega)
    omega
  obtain ⟨w, h1, a1, rfl, C1, M1⟩ := (bits29_ok (n := 0) (v := 0) C (by decide) (by omega) (fun _ => by decide)).elim
  rw [St.num_zero] at C1
  rw [show ((0 : Nat) : Int) = 0 from rfl] at a1
  have m1 := M1.n
  obtain ⟨w, h2, a2, ob, rfl, o1, o2, x2⟩ := (order25_ok hs oo.len h1).elim
  have x2n := x2.n
  rw [← hn] at a2 o2 oo hl hr ⊢
  have w26 : ∀ g, Ext h1 g → KW 26 [.ptr c 0] g = some (.ret (.bool st.sd.writes), g) := fun g x => writes26_ok (C1.keep x.n fun b _ hb => x.get b hb)
  have C1' : CoderAt (fun b => grow D h h1 b ∧ b < h1.n) h1 c (m + 0) st := C1.mono fun b hb hd => ⟨hd, hb⟩
  -- the blocks
  obtain ⟨h3, hh3⟩ : ∃ y, y = h2.new (.cells (intsV (List.replicate (n * n) 0)) 3 false) := ⟨_, rfl⟩
  have x3 : Ext h2 h3 := by rw [hh3]; exact (Ext.refl h2).new _
  have n3 : h3.n = h2.n + 1 := by rw [hh3, H.n_new]
  have ms3 := ms_zero h2 (n * n) (by omega)
  rw [← hh3] at ms3
  obtain ⟨pl, hpl⟩ : ∃ pl, pl = min plane 1 := ⟨_, rfl⟩
  have hmin : imin (plane : Int) 1 = (pl : Int) := by unfold imin; split <;> omega
  obtain ⟨h4, hh4⟩ : ∃ y, y = h3.new (.cells [.ptr c 0, .int .i64 size, .int .i64 pl, .int .i64 sign, .sl ob 0 (n * n) (.ex (n * n)), .nils, .sl h2.n 0 (n * n) (.ex (n * n))] 72 false) := ⟨_, rfl⟩
  have x4 : Ext h3 h4 := by rw [hh4]; exact (Ext.refl h3).new _
  have n4 : h4.n = h3.n + 1 := by rw [hh4, H.n_new]
  have g4 : h4.get h3.n = some (.cells [.ptr c 0, .int .i64 size, .int .i64 pl, .int .i64 sign, .sl ob 0 (n * n) (.ex (n * n)), .nils, .sl h2.n 0 (n * n) (.ex (n * n))] 72 false) := by rw [hh4, get_new_same]
  obtain ⟨h5, hh5⟩ : ∃ y, y = h4.put h3.n (.cells [.ptr c 0, .int .i64 size, .int .i64 pl, .int .i64 sign, .sl ob 0 (n * n) (.ex (n * n)), v, .sl h2.n 0 (n * n) (.ex (n * n))] 72 false) := ⟨_, rfl⟩
  have st5 : stZ 1 h4 (.ptr h3.n 5) v = some (.und, h5) := by rw [stZ_one _ _ _ _ hc, wr1_of g4 (by simp), hh5]; rfl
  have n5 : h5.n = h4.n := by rw [hh5, H.n_put]
  have x5 : Ext h3 h5 := by rw [hh5]; exact x4.put (Nat.le_refl _) _
  have g5 : h5.get h3.n = some (.cells [.ptr c 0, .int .i64 size, .int .i64 pl, .int .i64 sign, .sl ob 0 (n * n) (.ex (n * n)), v, .sl h2.n 0 (n * n) (.ex (n * n))] 72 false) := by rw [hh5, get_put_same (by omega)]
  have e1 : decide ((plane : Int) < 0) = false := by simp
  -- what run is handed
  have fin10 : ∀ (h6 : H) (vs : V), Ext h5 h6 ∨ (∃ g, Ext h5 g ∧ h6 = g.put h3.n (.cells [.ptr c 0, .int .i64 size, .int .i64 pl, .int .i64 sign, .sl ob 0 (n * n) (.ex (n * n)), vs, .sl h2.n 0 (n * n) (.ex (n * n))] 72 false)) →
      h6.get h3.n = some (.cells [.ptr c 0, .int .i64 size, .int .i64 pl, .int .i64 sign, .sl ob 0 (n * n) (.ex (n * n)), vs, .sl h2.n 0 (n * n) (.ex (n * n))] 72 false) → h5.n ≤ h6.n →
      IntsX (fun b => (grow D h h1 b ∧ b < h1.n) ∨ b = h2.n) h6 vs src →
      RT (CodeEnd D h c (m + 50000) (n * n) R) (KW 29 [.ptr h3.n 0] h6) := by
    intro h6 vs hx g6 n6 hint
    have k6 : ∀ b, b < h5.n → b ≠ h3.n → h6.get b = h5.get b := by
      intro b hb hne
      rcases hx with x | ⟨g, x, rfl⟩
      · exact x.get b hb
      · rw [get_put_ne hne, x.get b hb]
    have kk : ∀ b, b < h3.n → h6.get b = h3.get b := fun b hb => by rw [k6 b (by omega) (by omega), x5.get b hb]
    have k1 : ∀ b, b < h1.n → h6.get b = h1.get b := fun b hb => by rw [kk b (by omega), x3.get b (by omega), x2.get b hb]
    have S : Base (fun b => grow D h h1 b ∧ b < h1.n) h6 h3.n c ob vs h2.n (bdOf size plane sign src st.sd.writes) := by
      refine ⟨?_, ?_, hint, ⟨by rintro ⟨_, e⟩; omega, by omega⟩, ⟨by rintro ⟨_, e⟩; omega, ?_⟩, ⟨by rintro ⟨_, e⟩; omega, by omega⟩, hs, rfl, by show min plane 1 ≤ 1; omega, hg, rfl, ?_, ?_, ?_, hb, fun b hb => by have := hb.2; omega⟩
      · rw [g6]; unfold bdOf; simp only; rw [← hn, ← hpl]
      · have hob : ob < h2.n := H.get_lt o2
        rw [kk ob (by omega), x3.get ob hob, o2]; unfold bdOf; simp only; rw [← hn]
      · have hob : ob < h2.n := H.get_lt o2
        omega
      · show (ordN (sideP size)).length = sideP size * sideP size; rw [← hn]; exact oo.len
      · show ∀ x ∈ ordN (sideP size), x < sideP size * sideP size; rw [← hn]; exact oo.lt
      · show src.length = sideP size * sideP size; rw [← hn]; exact hl
    have Cc : Cd (fun b => grow D h h1 b ∧ b < h1.n) h6 c h2.n (bdOf size plane sign src st.sd.writes) h6 m st (List.replicate (n * n) 0) := by
      refine ⟨(C1'.keep (by omega) fun b _ hb => k1 b hb).mono fun b _ hd => .inl hd, Mod.refl _ _, ⟨?_, ?_⟩, ?_, rfl⟩
      · rw [kk h2.n (by omega), hh3, get_new_same]
      · intro y hy; rw [(List.mem_replicate.1 hy).2]; decide
      · show _ = sideP size * sideP size; rw [← hn]; simp
    have hz : (bdOf size plane sign src st.sd.writes).n = n := by show sideP size = n; rw [hn]
    obtain ⟨w, h7, a7, Dn, h8⟩ := (run29_any S (by rw [hz]; exact Cc) hm hR).elim
    rw [hz] at h8
    have dC : ∀ b, ((grow D h h1 b ∧ b < h1.n) ∨ h6.n ≤ b ∧ b < h7.n) → D b ∨ h.n ≤ b := by
      rintro b (e | e)
      · rcases e.1 with e | e
        · exact .inl e
        · exact .inr e.1
      · exact .inr (by omega)
    have dM : Mod D h h7 := ⟨by have := Dn.x.n; omega, fun b hb hd => by
      rw [Dn.x.get b (by omega) ?_, k1 b (by omega), M1.get b hb hd]
      rintro (e | e)
      · rcases e.1 with e | e
        · exact hd e
        · omega
      · omega⟩
    rw [a7]
    refine RT_ret ?_
    rcases h8 with ⟨lvF, i1, i2, i3, i4⟩ | ⟨i1, i2⟩
    · refine .inl ⟨h2.n, lvF, i1, i2, i4, ⟨_, Dn.C, ?_, dC⟩, by omega, i3, dM⟩
      rintro (e | e)
      · have := e.2; omega
      · omega
    · exact .inr ⟨i1, i2, ⟨_, Dn.C, dC⟩, dM⟩
  rw [w10, f10, s10]
  have p0 : ¬ (2 : Int) < (plane : Int) := by omega
  have p1 : ¬ (2 : Int) < (sign : Int) := by omega
  cases hw : st.sd.writes with
  | true =>
    have I0 := hsrc hw
    have I2 : IntsX D h2 v src := I0.keep (by omega) (fun b hb hd => by rw [x2.get b (by omega), M1.get b hb hd]) (fun _ _ h => h)
    have sl := I0.len
    rw [hl] at sl
    obtain ⟨w, g, b1, hg1, M, rfl, mM, mM2⟩ := (max27_ok I2 (by omega) (by omega)).elim
    rw [hg1] at b1
    obtain ⟨w, g', b2, hg2, M', rfl, nM, nM2⟩ := (min28_ok I2 (by omega) (by omega)).elim
    rw [hg2] at b2
    have q1 := hb M mM
    have q2 := hb M' nM
    have w2 := w26 h2 x2
    have w5 := w26 h5 ((x2.trans x3).trans x5)
    rw [hw] at w2 w5
    simp [a1, a2, p0, p1, show ¬ (plane : Int) < 0 by omega, show ¬ (sign : Int) < 0 by omega, w2, sl, b1, b2, show ¬ (1048576 : Int) < M by omega, show ¬ M' < (-1048576 : Int) by omega, minV_i, -minV2, hmin, ms3, bl, fillW, splice, bx, ← hh4, st5, w5, -Int.natCast_mul]
    have := fin10 h5 v (.inl (Ext.refl _)) g5 (Nat.le_refl _) (I0.keep (by omega) (fun b hb hd => by rw [x5.get b (by omega), x3.get b (by omega), x2.get b (by omega), M1.get b hb hd]) (fun b hb hd => by
      rintro (⟨e | e, _⟩ | e)
      · exact hd e
      · omega
      · omega))
    obtain ⟨w, h', e', i1⟩ := this.elim
    rcases i1 with ⟨L, lvF, q1, rfl, q2⟩ | ⟨q1, rfl, q2⟩
    · simp [e']
      exact .inl ⟨L, lvF, q1, rfl, q2⟩
    · simp [e']
      exact .inr ⟨q1, rfl, q2⟩
  | false =>
    have w2 := w26 h2 x2
    have w5 := w26 h5 ((x2.trans x3).trans x5)
    rw [hw] at w2 w5
    obtain ⟨h6, hh6⟩ : ∃ y, y = h5.new (.cells (intsV (List.replicate (n * n) 0)) 3 false) := ⟨_, rfl⟩
    have x6 : Ext h5 h6 := by rw [hh6]; exact (Ext.refl h5).new _
    have n6 : h6.n = h5.n + 1 := by rw [hh6, H.n_new]
    have ms6 := ms_zero h5 (n * n) (by omega)
    rw [← hh6] at ms6
    have g6 := (x6.get _ (H.get_lt g5)).trans g5
    obtain ⟨h7, hh7⟩ : ∃ y, y = h6.put h3.n (.cells [.ptr c 0, .int .i64 size, .int .i64 pl, .int .i64 sign, .sl ob 0 (n * n) (.ex (n * n)), .sl h5.n 0 (n * n) (.ex (n * n)), .sl h2.n 0 (n * n) (.ex (n * n))] 72 false) := ⟨_, rfl⟩
    have st7 : h6.wr1 h3.n 5 (.sl h5.n 0 (n * n) (.ex (n * n))) = some h7 := by rw [wr1_of g6 (by simp), hh7]; rfl
    have n7 : h7.n = h6.n := by rw [hh7, H.n_put]
    simp [a1, a2, p0, p1, show ¬ (plane : Int) < 0 by omega, show ¬ (sign : Int) < 0 by omega, w2, gl_t, gk_t, gk_bool, minV_i, -minV2, hmin, ms3, bl, fillW, splice, bx, ← hh4, st5, w5, ms6, st7, -Int.natCast_mul]
    have hsr := hr hw
    have := fin10 h7 (.sl h5.n 0 (n * n) (.ex (n * n))) (.inr ⟨h6, x6, hh7⟩) (by rw [hh7, get_put_same (by omega)]) (by omega) (by
      have := IntsX.of (X := fun b => (grow D h h1 b ∧ b < h1.n) ∨ b = h2.n) (h := h7) (b := h5.n) (l := src) (k := .ex (n * n)) (by rw [hh7, get_put_ne (by omega), hh6, get_new_same, hsr]) (by rintro (⟨_, e⟩ | e) <;> omega)
      rw [hl] at this; exact this)
    obtain ⟨w, h', e', i1⟩ := this.elim
    rcases i1 with ⟨L, lvF, q1, rfl, q2⟩ | ⟨q1, rfl, q2⟩
    · simp [e']
      exact .inl ⟨L, lvF, q1, rfl, q2⟩
    · simp [e']
      exact .inr ⟨q1, rfl, q2⟩
theorem code10_ok {D : Nat → Prop} {h : H} {c m : Nat} {st : St} (C : CoderAt D h c m st) (hm : m + 50000 < 100000000) {size plane sign : Nat} (hs : sizeOk size) (hp : plane ≤ 2) (hg : sign ≤ 2) {v : V} {src : List Int} (hc : v.isCell = true)
    (hsrc : st.sd.writes = true → IntsX D h v src) (hr : st.sd.writes = false → src = List.replicate (sideP size * sideP size) 0) (hl : src.length = sideP size * sideP size) (hb : ∀ x ∈ src, -1048576 ≤ x ∧ x ≤ 1048576)
    {lvF : List Int} {stF : St} (hR : (codeP (bdOf size plane sign src st.sd.writes)).exec st = (some lvF, stF)) :
    RT (fun w h' => ∃ L, w = .tup [.sl L 0 (sideP size * sideP size) (.ex (sideP size * sideP size)), .int .i64 0] ∧ lvF.length = sideP size * sideP size ∧ Coded D h c L (m + 50000) stF lvF h') (KW 10 [.ptr c 0, .int .i64 size, .int .i64 plane, .int .i64 sign, v] h) := by
  refine (code10_any C hm hs hp hg hc hsrc hr hl hb hR).mono fun w h' a => ?_
  rcases a with ⟨L, lv, h1, h2, h3, h4⟩ | ⟨h1, _⟩
  · cases h1; exact ⟨L, h2, h3, h4⟩
  · cases h1
end Go.Proofs.Ytbajipmhnoakeaa
