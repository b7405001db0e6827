/- run, as a text. -/
import Derived.Test.YtbajipmhnoakeaaCo
set_option linter.unusedVariables false
set_option linter.unusedSimpArgs false
set_option maxRecDepth 20000
namespace Go.Proofs.Ytbajipmhnoakeaa
open Go Go.Zf
open Go.Zf (wi64)

theorem d29a : (fun K L p0 h => den Try.prog K L k29 (left (body 29)) (entE k29 [p0]) h) = (fun (K : Oracle) (L : Looper) (p0 : V) (h : H) =>
  bf (nw h 32 [.nils]) fun t2 h1 => bf (nw h1 25 [.int .i64 0]) fun t3 h2 => some ⟨.nm, ⟨[p0, t2, t3, .und], 3, t3⟩, h2⟩) := by kernel_rfl
noncomputable def s29r (K : Oracle) (L : Looper) (e : E) (h : H) : Out :=
  sq (bc k29 [6, 7, 4] e (K 40 [e.s k29 0] h) fun t7 h1 => some ⟨.nm, ⟨[e.s k29 0, e.s k29 2, e.s k29 3, t7], 4, t7⟩, h1⟩) fun e h =>
  sq (bc k29 [8, 9, 10] e (K 41 [e.s k29 0, e.s k29 4] h) fun t10 h1 => some ⟨.nm, ⟨[e.s k29 0, e.s k29 2, e.s k29 3, e.s k29 4], 10, t10⟩, h1⟩) fun e h =>
  sq (bc k29 [11, 12, 13] e (K 42 [e.s k29 0, e.s k29 4] h) fun t13 h1 => some ⟨.nm, ⟨[e.s k29 0, e.s k29 2, e.s k29 3, e.s k29 4], 13, t13⟩, h1⟩) fun e h =>
  sq (bd (nilC (e.s k29 0)) fun t15 => bd (fa 6 t15) fun t16 => bd (ld h t16) fun t17 => bf (stZ 1 h (e.s k29 2) t17) fun _ h1 => bf (stZ 1 h1 (e.s k29 3) (.int .i64 0)) fun _ h2 =>
    some ⟨.nm, ⟨[e.s k29 0, e.s k29 2, e.s k29 3, e.s k29 4], 0, e.s k29 0⟩, h2⟩) fun e h =>
  some ⟨.rt, e, h⟩
theorem d29r : (fun K L e h => den Try.prog K L k29 rest29 e h) = s29r := by kernel_rfl
noncomputable def s39r (K : Oracle) (L : Looper) (e : E) (h : H) : Out :=
  sq (bf (nw h 88 [.int .i64 0]) fun t3 h1 => bf (stZ 1 h1 t3 (e.s k39 10)) fun _ h2 => some ⟨.nm, ⟨[e.s k39 0, e.s k39 1, t3, e.s k39 10], 0, e.s k39 0⟩, h2⟩) fun e h =>
  bf (stZ 1 h (e.s k39 0) .nils) fun _ h1 => bd (fa 0 (e.s k39 3)) fun t11 => bd (ld h1 t11) fun t12 => bf (stZ 1 h1 (e.s k39 1) t12) fun _ h2 =>
  ck (ld h t11) t12 (ck (ld h1 t11) t12 (some ⟨.nm, ⟨[e.s k39 0, e.s k39 1, e.s k39 3, e.s k39 10], 0, e.s k39 0⟩, h2⟩))
theorem d39 : (fun K L e h => den Try.prog K L k39 tail39 e h) = s39r := by kernel_rfl
theorem e29a (K : Oracle) (L : Looper) (p0 : V) (h : H) : den Try.prog K L k29 (left (body 29)) (entE k29 [p0]) h = bf (nw h 32 [.nils]) fun t2 h1 => bf (nw h1 25 [.int .i64 0]) fun t3 h2 => some ⟨.nm, ⟨[p0, t2, t3, .und], 3, t3⟩, h2⟩ := congrFun (congrFun (congrFun (congrFun d29a K) L) p0) h
theorem e29r (K : Oracle) (L : Looper) (e : E) (h : H) : den Try.prog K L k29 rest29 e h = s29r K L e h := congrFun (congrFun (congrFun (congrFun d29r K) L) e) h
theorem e39 (K : Oracle) (L : Looper) (e : E) (h : H) : den Try.prog K L k39 tail39 e h = s39r K L e h := congrFun (congrFun (congrFun (congrFun d39 K) L) e) h
theorem cell32 (h : H) (b o : Nat) : ldV Try.prog 32 h (.ptr b o) = h.rd1 b o := by
  have h1 : isAggT Try.prog 32 = some false := by kernel_rfl
  simp [ldV, h1]
theorem cellE (h : H) (b o : Nat) : ldV Try.prog 25 h (.ptr b o) = h.rd1 b o := by
  have h1 : isAggT Try.prog 25 = some false := by kernel_rfl
  simp [ldV, h1]
theorem run29_eq (p0 : V) (h : H) : KW 29 [p0] h = match s29r KW loopZ ⟨[p0, .ptr h.n 0, .ptr (h.n + 1) 0, .any], 0, p0⟩ ((h.new (.cells [.nils] 32 false)).new (.cells [.int .i64 0] 25 false)) with
    | some ⟨.rt, e', h3⟩ => bd (resVs Try.prog (e'.s k29) h3 [.cell 2 32, .cell 3 25]) fun vs => some (.ret (fin1 vs), h3)
    | some ⟨.pn (.iface 88 (.agg [x])), e', h3⟩ => match s39r KW loopZ ⟨[.ptr h.n 0, .ptr (h.n + 1) 0, .any, .agg [x]], 0, .ptr h.n 0⟩ h3 with
      | some ⟨.nm, _, h4⟩ => bd (resVs Try.prog (e'.s k29) h4 [.cell 2 32, .cell 3 25]) fun vs => some (.ret (fin1 vs), h4)
      | _ => none
    | _ => none := by
  have hg : ([p0] : List V).getD 0 .und = p0 := id rfl
  have hl : ([p0] : List V).length = 1 := id rfl
  have s0 : ∀ t2 t3 : V, E.s k29 ⟨[p0, t2, t3, .und], 3, t3⟩ 0 = p0 := fun _ _ => by simp [k29]
  have s2 : ∀ t2 t3 : V, E.s k29 ⟨[p0, t2, t3, .und], 3, t3⟩ 2 = t2 := fun _ _ => by simp [k29]
  have s3 : ∀ t2 t3 : V, E.s k29 ⟨[p0, t2, t3, .und], 3, t3⟩ 3 = t3 := fun _ _ => by simp [k29]
  rw [w29]
  unfold ovRun
  rw [hg, e29a, hl]
  simp only [nw, bf_some1, H.n_new, e29r, e39, s0, s2, s3, if_true]
  generalize s29r KW loopZ _ _ = o
  rcases o with _ | ⟨x, e', h3⟩ <;> try rfl

section cd
variable {D0 : Nat → Prop} {h0 h h' : H} {q c ob L m : Nat} {vs : V} {B : BD} {st : St} {lv : List Int}
/-- A later heap as the one that is gone from. -/
theorem Base.re (S : Base D0 h0 q c ob vs L B) (C : Cd D0 h0 c L B h m st lv) (x : Ext h h') : Base (grow D0 h0 h) h' q c ob vs L B ∧ Cd (grow D0 h0 h) h' c L B h' m st lv := by
  have hn := C.x.n
  have hx := x.n
  have lo : ∀ b, b < h0.n → ¬ D0 b → ¬ grow D0 h0 h b := by
    intro b hb hd
    rintro (e | e)
    · exact hd e
    · omega
  have gt : ∀ b, b < h0.n → ¬ D0 b → b ≠ L → h'.get b = h0.get b := by
    intro b hb hd hL
    rw [x.get b (by omega), C.x.get b hb (by rintro (e | e); exact hd e; exact hL e)]
  refine ⟨⟨?_, ?_, ?_, ?_, ?_, ?_, S.size, S.n, S.colour, S.sign, S.ord, S.ordl, S.ordb, S.srcl, S.srcb, ?_⟩, ⟨?_, Mod.refl _ _, C.l.ext x, C.ll, C.wr⟩⟩
  · rw [gt q (H.get_lt S.hq) S.nq.1 S.nq.2, S.hq]
  · rw [gt ob (H.get_lt S.ho) S.no.1 S.no.2, S.ho]
  · refine ⟨S.hs.len, fun i y hy => ?_, S.hs.cell, S.hs.same, S.hs.cells⟩
    obtain ⟨b, o, h1, h2, h3, h4⟩ := S.hs.at_ i y hy
    have nb : ¬ D0 b ∧ b ≠ L := ⟨fun e => h3 (.inl e), fun e => h3 (.inr e)⟩
    refine ⟨b, o, h1, ?_, ?_, by omega⟩
    · rw [← h2]; unfold H.rd1; rw [gt b h4 nb.1 nb.2]
    · rintro (e | e)
      · exact lo b h4 nb.1 e
      · exact nb.2 e
  · exact ⟨lo q (H.get_lt S.hq) S.nq.1, S.nq.2⟩
  · exact ⟨lo ob (H.get_lt S.ho) S.no.1, S.no.2⟩
  · exact ⟨lo L S.nl.2 S.nl.1, by have := S.nl.2; omega⟩
  · rintro b (e | e)
    · have := S.dn b e; omega
    · omega
  · exact (C.C.keep hx fun b _ hb => x.get b hb).mono fun b _ hd => .inl hd

/-- What is left when a block has been coded. -/
structure Done (D0 : Nat → Prop) (h0 : H) (c L : Nat) (h : H) (m : Nat) (st : St) : Prop where
  C : CoderAt (grow D0 h0 h) h c m st
  x : Mod (fun b => D0 b ∨ b = L) h0 h

theorem Base.done (S : Base D0 h0 q c ob vs L B) (C : Cd D0 h0 c L B h m st lv) {h2 h5 h7 : H} {m' : Nat} {st' : St} {lv' : List Int} (x2 : Ext h h2) (n2 : h2.n = h.n + 2) (C5 : Cd (grow D0 h0 h) h2 c L B h5 m' st' lv') (n7 : h5.n ≤ h7.n) (o7 : ∀ b, b < h5.n → b ≠ h.n → b ≠ h.n + 1 → h7.get b = h5.get b) :
    Done D0 h0 c L h7 m' st' ∧ h7.get L = h5.get L := by
  have x5 := C5.x.n
  have hLh : L < h.n := by have := S.nl.2; have := C.x.n; omega
  have nD : ∀ b, h.n ≤ b → b < h2.n → ¬ grow D0 h0 h b := by
    intro b h1 h3
    rintro (e | e)
    · have := S.dn b e; have := C.x.n; omega
    · omega
  refine ⟨⟨?_, ⟨?_, ?_⟩⟩, o7 L (by omega) (by omega) (by omega)⟩
  · refine (C5.C.keep (h' := h7) (by omega) ?_).mono ?_
    · intro b hb hb2
      refine o7 b hb2 ?_ ?_
      · rintro rfl; rcases hb with e | e; exact nD _ (by omega) (by omega) e; omega
      · rintro rfl; rcases hb with e | e; exact nD _ (by omega) (by omega) e; omega
    · intro b hb hd
      have := C.x.n
      rcases hd with (e | e) | e
      · exact .inl e
      · exact .inr ⟨e.1, by omega⟩
      · exact .inr ⟨by omega, by omega⟩
  · have := C.x.n; omega
  · intro b hb hd
    have := C.x.n
    rw [o7 b (by omega) (by omega) (by omega), C5.x.get b (by omega) ?_, x2.get b (by omega), C.x.get b hb hd]
    rintro (e | e)
    · rcases e with e | e
      · exact hd (.inl e)
      · omega
    · exact hd (.inr e)

theorem sgs_some (B : BD) : ∀ (r : List Nat) (lv : List Int) (st : St), ∃ lvF stF, (sgsP B r lv).exec st = (some lvF, stF)
  | [], lv, st => ⟨lv, st, rfl⟩
  | p :: r, lv, st => by
    unfold sgsP
    split
    · exact sgs_some B r lv st
    · unfold belowP
      split
      · exact sgs_some B r _ _
      · exact sgs_some B r _ _

theorem run29_any (S : Base D0 h0 q c ob vs L B) (C : Cd D0 h0 c L B h m st (List.replicate (B.n * B.n) 0)) (hm : m + 50000 < 100000000) {R : Option (List Int) × St} (hR : (codeP B).exec st = R) :
    RT (fun w h' => Done D0 h0 c L h' (m + 50000) R.2 ∧ ((∃ lvF, R.1 = some lvF ∧ w = .tup [.sl L 0 (B.n * B.n) (.ex (B.n * B.n)), .int .i64 0] ∧ LvAt h' L lvF ∧ lvF.length = B.n * B.n) ∨ (R.1 = none ∧ w = .tup [.nils, .int .i64 4]))) (KW 29 [.ptr q 0] h) := by
  have hnn := S.nn
  obtain ⟨h2, hh2⟩ : ∃ y, y = (h.new (.cells [.nils] 32 false)).new (.cells [.int .i64 0] 25 false) := ⟨_, rfl⟩
  have x2 : Ext h h2 := by rw [hh2]; exact ((Ext.refl h).new _).new _
  have n2 : h2.n = h.n + 2 := by rw [hh2, H.n_new, H.n_new]
  have g2 : h2.get h.n = some (.cells [.nils] 32 false) := by rw [hh2, get_new_lt (by rw [H.n_new]; omega), get_new_same]
  have g3 : h2.get (h.n + 1) = some (.cells [.int .i64 0] 25 false) := by rw [hh2, get_new_eq (by rw [H.n_new])]
  obtain ⟨S2, C2⟩ := S.re C x2
  have hLh : L < h.n := by have := S.nl.2; have := C.x.n; omega
  unfold codeP at hR
  obtain ⟨w, h3, a3, en, st3, b3, hen, rfl, C3⟩ := (end40_ok S2 C2 (by omega)).elim
  rw [Pr.exec_some b3] at hR
  have hm46 : 46 * en ≤ 46 * 1024 := by omega
  have nD : ∀ b, h.n ≤ b → b < h2.n → ¬ grow D0 h0 h b := by
    intro b h1 h3
    rintro (e | e)
    · have := S.dn b e; have := C.x.n; omega
    · omega
  have lows : ∀ {h5 : H} {m' : Nat} {st' : St} {lv' : List Int}, Cd (grow D0 h0 h) h2 c L B h5 m' st' lv' → h5.get h.n = some (.cells [.nils] 32 false) ∧ h5.get (h.n + 1) = some (.cells [.int .i64 0] 25 false) := by
    intro h5 m' st' lv' C5
    constructor
    · rw [C5.x.get _ (by omega) (by rintro (e | e); exact nD _ (by omega) (by omega) e; omega), g2]
    · rw [C5.x.get _ (by omega) (by rintro (e | e); exact nD _ (by omega) (by omega) e; omega), g3]
  rcases (amounts41_any S2 C3 hen (by omega) rfl).elim with ⟨w, h4, a4, lv4, st4, b4, C4⟩ | ⟨h4, a4, lv4, st4, b4, C4⟩
  · rw [Pr.exec_some b4] at hR
    obtain ⟨lvF, stF, b5⟩ := sgs_some B (B.ord.take en) lv4 st4
    rw [b5] at hR
    obtain ⟨w', h5, a5, C5⟩ := (signs42_ok S2 C4 hen (by omega) b5).elim
    have q6 : h5.rd1 q 6 = some (.sl L 0 (B.n * B.n) (.ex (B.n * B.n))) := by rw [rd1_of (C5.gq S2)]; rfl
    obtain ⟨k2, k3⟩ := lows C5
    have x5 := C5.x.n
    obtain ⟨h6, hh6⟩ : ∃ y, y = h5.put h.n (.cells [.sl L 0 (B.n * B.n) (.ex (B.n * B.n))] 32 false) := ⟨_, rfl⟩
    have w6 : h5.wr1 h.n 0 (.sl L 0 (B.n * B.n) (.ex (B.n * B.n))) = some h6 := by rw [wr1_of k2 (by simp), hh6]; rfl
    have k6 : h6.get (h.n + 1) = some (.cells [.int .i64 0] 25 false) := by rw [hh6, get_put_ne (by omega), k3]
    have n6 : h6.n = h5.n := by rw [hh6, H.n_put]
    obtain ⟨h7, hh7⟩ : ∃ y, y = h6.put (h.n + 1) (.cells [.int .i64 0] 25 false) := ⟨_, rfl⟩
    have w7 : h6.wr1 (h.n + 1) 0 (.int .i64 0) = some h7 := by rw [wr1_of k6 (by simp), hh7]; rfl
    have n7 : h7.n = h5.n := by rw [hh7, H.n_put, n6]
    have r2 : h7.rd1 h.n 0 = some (.sl L 0 (B.n * B.n) (.ex (B.n * B.n))) := by
      rw [rd1_of (c := [.sl L 0 (B.n * B.n) (.ex (B.n * B.n))]) (e := 32) (ro := false) (by rw [hh7, get_put_ne (by omega), hh6, get_put_same (by omega)])]; rfl
    have r3 : h7.rd1 (h.n + 1) 0 = some (.int .i64 0) := by
      rw [rd1_of (c := [.int .i64 0]) (e := 25) (ro := false) (by rw [hh7, get_put_same (by omega)])]; rfl
    obtain ⟨Dn, gL⟩ := S.done C x2 n2 (C5.more (m' := m + 50000) (by omega) hm) (h7 := h7) (by omega) (fun b _ h1 h2 => by rw [hh7, get_put_ne h2, hh6, get_put_ne h1])
    rw [run29_eq, ← hh2]
    simp [s29r, k29, a3, a4, a5, q6, w6, w7, r2, r3, resVs_cell, cell32, cellE]
    subst hR
    exact ⟨Dn, .inl ⟨lvF, rfl, rfl, ⟨by rw [gL, C5.l.get], C5.l.b⟩, C5.ll⟩⟩
  · rw [Pr.exec_none b4] at hR
    obtain ⟨k2, k3⟩ := lows C4
    have x4 := C4.x.n
    obtain ⟨h5, hh5⟩ : ∃ y, y = (h4.new (.cells [.int .i64 0] 88 false)).put h4.n (.cells [.int .i64 4] 88 false) := ⟨_, rfl⟩
    have x5 : Ext h4 h5 := by rw [hh5]; exact ((Ext.refl h4).new _).put (Nat.le_refl _) _
    have n5 : h5.n = h4.n + 1 := by rw [hh5, H.n_put, H.n_new]
    have s5 : (h4.new (.cells [.int .i64 0] 88 false)).wrN h4.n 0 [.int .i64 4] = some h5 := by rw [wrN_of get_new_same (by simp), hh5]; rfl
    have g5 : h5.get h4.n = some (.cells [.int .i64 4] 88 false) := by rw [hh5, get_put_same (by rw [H.n_new]; omega)]
    obtain ⟨h6, hh6⟩ : ∃ y, y = h5.put h.n (.cells [.nils] 32 false) := ⟨_, rfl⟩
    have w6 : h5.wr1 h.n 0 .nils = some h6 := by rw [wr1_of ((x5.get _ (by omega)).trans k2) (by simp), hh6]; rfl
    have k6 : h6.get (h.n + 1) = some (.cells [.int .i64 0] 25 false) := by rw [hh6, get_put_ne (by omega), x5.get _ (by omega), k3]
    have n6 : h6.n = h5.n := by rw [hh6, H.n_put]
    obtain ⟨h7, hh7⟩ : ∃ y, y = h6.put (h.n + 1) (.cells [.int .i64 4] 25 false) := ⟨_, rfl⟩
    have w7 : h6.wr1 (h.n + 1) 0 (.int .i64 4) = some h7 := by rw [wr1_of k6 (by simp), hh7]; rfl
    have n7 : h7.n = h5.n := by rw [hh7, H.n_put, n6]
    have q5 : h5.rd1 h4.n 0 = some (.int .i64 4) := by rw [rd1_of g5]; rfl
    have q6 : h6.rd1 h4.n 0 = some (.int .i64 4) := by rw [rd1_of (by rw [hh6, get_put_ne (by omega)]; exact g5)]; rfl
    have r2 : h7.rd1 h.n 0 = some .nils := by
      rw [rd1_of (c := [.nils]) (e := 32) (ro := false) (by rw [hh7, get_put_ne (by omega), hh6, get_put_same (by omega)])]; rfl
    have r3 : h7.rd1 (h.n + 1) 0 = some (.int .i64 4) := by
      rw [rd1_of (c := [.int .i64 4]) (e := 25) (ro := false) (by rw [hh7, get_put_same (by omega)])]; rfl
    obtain ⟨Dn, gL⟩ := S.done C x2 n2 (C4.more (m' := m + 50000) (by omega) hm) (h7 := h7) (by omega) (fun b hb h1 h2 => by rw [hh7, get_put_ne h2, hh6, get_put_ne h1, x5.get b hb])
    rw [run29_eq, ← hh2]
    simp [s29r, k29, a3, a4, bc_pan, sq_pn, fgE, fgL, s39r, k39, nw, s5, w6, q5, w7, q6, r2, r3, resVs_cell, cell32, cellE]
    subst hR
    exact ⟨Dn, .inr ⟨rfl, rfl⟩⟩
end cd
end Go.Proofs.Ytbajipmhnoakeaa
