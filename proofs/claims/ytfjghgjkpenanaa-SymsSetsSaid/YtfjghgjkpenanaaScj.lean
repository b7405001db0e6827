/- SymsSets: behind the spoiling. -/
import Derived.Test.YtfjghgjkpenanaaSci
set_option linter.unusedVariables false
set_option linter.unusedSimpArgs false
set_option maxRecDepth 20000
namespace Go.Proofs.Ytfjghgjkpenanaa
open Go Go.Zf
open Go.Zf (wi64)

theorem setNil' (D : Nat → Prop) (h : H) : SetR D h .nils [] := ⟨[], SlR.nil _ _ _ _, fun k r hr => by simp at hr⟩
theorem writer12_bad' {D : Nat → Prop} {h : H} {v : V} {S : List (List Tb)} (u : SetR D h v S) (sm : Small S) (no : ¬ SetOk S) (ad : Bool) :
    RT (fun w h' => w = .tup [.nilp, .int .i64 2] ∧ Ext h h') (KW 12 [.agg [v], .bool ad] h) := by
  obtain ⟨h1, b1, x1, g1, n1, u1⟩ := box25 u
  obtain ⟨w, h2, e34, rfl, x2⟩ := (check34_ok u1 sm).elim
  rw [if_neg no] at e34
  rw [w12, f12, s12]
  simp [b1, rdN_of (o := 0) (n := 1) g1 (by simp), e34]
  exact ⟨rfl, x1.trans x2⟩
theorem writer13_bad' {D : Nat → Prop} {h : H} {v : V} {S : List (List Tb)} (u : SetR D h v S) (sm : Small S) (no : ¬ SetOk S) (ad : Bool) :
    RT (fun w h' => w = .tup [.nilp, .int .i64 2] ∧ Ext h h') (KW 13 [.agg [v], .bool ad] h) := by
  obtain ⟨h1, b1, x1, g1, n1, u1⟩ := box25 u
  obtain ⟨w, h2, e37, rfl, x2⟩ := (check37_ok u1 sm).elim
  rw [if_neg no] at e37
  rw [w13, f13, s13]
  simp [b1, rdN_of (o := 0) (n := 1) g1 (by simp), e37]
  exact ⟨rfl, x1.trans x2⟩
theorem setsAt3 {D1 D2 : Nat → Prop} {h : H} {a b : V} {A B : List (List Tb)} (u : SetR D1 h a A) (w : SetR D2 h b B) : SetsAt (fun c => D1 c ∨ D2 c) (h.new (.cells [a, b, a] 25 false)) (.sl h.n 0 3 (.ex 3)) [A, B, A] := by
  have x := (Ext.refl h).new (.cells [a, b, a] 25 false)
  have u' := (u.ext x).mono fun c _ hd => (.inl hd : D1 c ∨ D2 c)
  have w' := (w.ext x).mono fun c _ hd => (.inr hd : D1 c ∨ D2 c)
  refine ⟨h.n, [a, b, a], rfl, get_new_same, rfl, fun i S hS => ?_⟩
  match i, hS with
  | 0, hS => cases hS; exact ⟨a, rfl, u'⟩
  | 1, hS => cases hS; exact ⟨b, rfl, w'⟩
  | 2, hS => cases hS; exact ⟨a, rfl, u'⟩
  | i + 3, hS => simp at hS
theorem all3 {A B : List (List Tb)} (a : SetOk A) : AllOk [A, B, A] ↔ SetOk B := by
  constructor
  · intro h; exact h 1 B rfl
  · intro h i S hS
    match i, hS with
    | 0, hS => cases hS; exact a
    | 1, hS => cases hS; exact h
    | 2, hS => cases hS; exact a
    | i + 3, hS => simp at hS
theorem small3 {A B : List (List Tb)} (a : Small A) (b : Small B) : AllSmall [A, B, A] := ⟨by simp, fun i S hS => by
  match i, hS with
  | 0, hS => cases hS; exact a
  | 1, hS => cases hS; exact b
  | 2, hS => cases hS; exact a
  | i + 3, hS => simp at hS⟩
/-- The average, or that there is none: both. -/
theorem average_both {A B : List (List Tb)} (okA : SetOk A) (sB : Small B) :
    ∃ (Z : List (List Tb)) (e : Int), Small Z ∧ (∀ (D1 D2 : Nat → Prop) (h : H) (a b : V), SetR D1 h a A → SetR D2 h b B → ∃ g v, KW 39 [.sl h.n 0 3 (.ex 3)] (h.new (.cells [a, b, a] 25 false)) = some (.ret (.tup [.agg [v], .int .i64 e]), g) ∧ Ext h g ∧ SetR (fun _ => True) g v Z) ∧
      (∀ (D1 D2 : Nat → Prop) (h : H) (a b : V), SetR D1 h a A → SetR D2 h b B → ∃ g v, KW 40 [.sl h.n 0 3 (.ex 3)] (h.new (.cells [a, b, a] 25 false)) = some (.ret (.tup [.agg [v], .int .i64 e]), g) ∧ Ext h g ∧ SetR (fun _ => True) g v Z) := by
  by_cases c : SetOk B
  · have hall : AllOk [A, B, A] := (all3 okA).mpr c
    refine ⟨avgS [A, B, A], 0, ?_, fun D1 D2 h a b u w => ?_, fun D1 D2 h a b u w => ?_⟩
    · refine ⟨by simp [avgS], fun k r hr => ?_⟩
      have hk : k < 32 := by have := lt_of_get hr; simpa [avgS] using this
      simp [avgS, hk] at hr
      subst hr
      have := cx_le hk
      refine ⟨by simp; omega, fun i t ht => ?_⟩
      have hi : i < cx k := by have := lt_of_get ht; simpa using this
      simp [hi] at ht
      subst ht
      simp [avS, avgT, tabN_length]
      have := vl_le hk; omega
    · obtain ⟨w, g, e, v, rfl, W, x⟩ := (average39_ok (setsAt3 u w) (by simp) (by simp) hall).elim
      exact ⟨g, v, e, ((Ext.refl h).new _).trans x, W.setR.mono fun _ _ _ => trivial⟩
    · obtain ⟨w, g, e, v, rfl, W, x⟩ := (average40_ok (setsAt3 u w) (by simp) (by simp) hall).elim
      exact ⟨g, v, e, ((Ext.refl h).new _).trans x, W.setR.mono fun _ _ _ => trivial⟩
  · have hall : ¬ AllOk [A, B, A] := fun h => c ((all3 okA).mp h)
    have sm := small3 okA.small sB
    refine ⟨[], 2, ⟨by decide, fun k r hr => by simp at hr⟩, fun D1 D2 h a b u w => ?_, fun D1 D2 h a b u w => ?_⟩
    · obtain ⟨w, g, e, rfl, x⟩ := (average39_bad (setsAt3 u w) sm (by simp) hall).elim
      exact ⟨g, .nils, e, ((Ext.refl h).new _).trans x, setNil' _ _⟩
    · obtain ⟨w, g, e, rfl, x⟩ := (average40_bad (setsAt3 u w) sm (by simp) hall).elim
      exact ⟨g, .nils, e, ((Ext.refl h).new _).trans x, setNil' _ _⟩
theorem writer_both {B : List (List Tb)} (sB : Small B) :
    ∃ e : Int, (∀ (D : Nat → Prop) (h : H) (v : V), SetR D h v B → ∃ g w, KW 12 [.agg [v], .bool true] h = some (.ret (.tup [w, .int .i64 e]), g) ∧ Ext h g) ∧ (∀ (D : Nat → Prop) (h : H) (v : V), SetR D h v B → ∃ g w, KW 13 [.agg [v], .bool true] h = some (.ret (.tup [w, .int .i64 e]), g) ∧ Ext h g) := by
  by_cases c : SetOk B
  · refine ⟨0, fun D h v u => ?_, fun D h v u => ?_⟩
    · obtain ⟨w, g, e, p, rfl, _, x⟩ := (writer12_ok u c true).elim
      exact ⟨g, _, e, x⟩
    · obtain ⟨w, g, e, p, rfl, _, x⟩ := (writer13_ok u c true).elim
      exact ⟨g, _, e, x⟩
  · refine ⟨2, fun D h v u => ?_, fun D h v u => ?_⟩
    · obtain ⟨w, g, e, rfl, x⟩ := (writer12_bad' u sB c true).elim
      exact ⟨g, _, e, x⟩
    · obtain ⟨w, g, e, rfl, x⟩ := (writer13_bad' u sB c true).elim
      exact ⟨g, _, e, x⟩
theorem nbox {g g' : H} {v : V} (h : g' = (g.new (.cells [.nils] 25 false)).put g.n (.cells [v] 25 false)) : Ext g g' ∧ g'.n = g.n + 1 ∧ g'.get g.n = some (.cells [v] 25 false) ∧ (g.new (.cells [.nils] 25 false)).wrN g.n 0 [v] = some g' := by
  refine ⟨by rw [h]; exact ((Ext.refl g).new _).put (Nat.le_refl _) _, by rw [h, H.n_put, H.n_new], by rw [h, get_put_same (by rw [H.n_new]; omega)], by rw [wrN_of (o := 0) get_new_same (by simp), h]; rfl⟩

theorem rest8_ok {h g : H} {Dx : Nat → Prop} {vx : V} {Sx : List (List Tb)} {Bx By : Nat} {e : E} (okx : SetOk Sx) (Q : Q8 h Dx vx Sx Bx By g) (I : E8 Bx By e) :
    RT (fun w h' => w = .bool true ∧ Ext h h') (fin Try.prog k8 [.tmp 6] (rest8 KW loopZ e g)) := by
  obtain ⟨X, Wx, rx, Dy, vy, Sy, ry, Ry, sy⟩ := Q
  obtain ⟨e7, e8⟩ := I
  obtain ⟨w, g1, a1, vi, rfl, W1, x1⟩ := (copy11_ok Ry sy).elim
  have hci : V.cells vi = some [vi] := by obtain ⟨_, k3, _⟩ := W1.setR; exact k3.cells
  obtain ⟨g2, hg2⟩ : ∃ z, z = (g1.new (.cells [.nils] 25 false)).put g1.n (.cells [vi] 25 false) := ⟨_, rfl⟩
  obtain ⟨x2, n2, r2, st2⟩ := nbox hg2
  have X2 := x1.trans x2
  obtain ⟨w, g3, a3, rfl, x3⟩ := (check34_ok (W1.setR.ext x2) sy).elim
  obtain ⟨w, g4, a4, rfl, x4⟩ := (check37_ok ((Ry.ext X2).ext x3) sy).elim
  have X4 := (X2.trans x3).trans x4
  obtain ⟨w, g5, a5, rfl, x5⟩ := (check34_ok (Wx.setR.ext X4) okx.small).elim
  rw [if_pos okx] at a5
  obtain ⟨er, her⟩ : ∃ er : Int, er = if SetOk Sy then 0 else 2 := ⟨_, rfl⟩
  rw [← her] at a3 a4
  have X5 := X4.trans x5
  have x25 := (x3.trans x4).trans x5
  obtain ⟨w, g6, a6, v6, rfl, P6, x6⟩ := (copy38_ok ((W1.setR.ext x2).ext x25) sy).elim
  have X6 := X5.trans x6
  obtain ⟨w, g7, a7, rfl, x7⟩ := (same15_ok P6.setR (Ry.ext X6) sy).elim
  have X7 := X6.trans x7
  have x27 := (x25.trans x6).trans x7
  have hcx : V.cells vx = some [vx] := by obtain ⟨_, k3, _⟩ := Wx.setR; exact k3.cells
  have hcy : V.cells vy = some [vy] := by obtain ⟨_, k3, _⟩ := Ry; exact k3.cells
  -- the averages
  obtain ⟨Z, ez, sZ, av1, av2⟩ := average_both okx sy
  obtain ⟨g9, vp, a9, x9, Rp⟩ := av1 _ _ g7 vx vi (Wx.setR.ext X7) ((W1.setR.ext x2).ext x27)
  have hcp : V.cells vp = some [vp] := by obtain ⟨_, k3, _⟩ := Rp; exact k3.cells
  obtain ⟨g10, hg10⟩ : ∃ z, z = (g9.new (.cells [.nils] 25 false)).put g9.n (.cells [vp] 25 false) := ⟨_, rfl⟩
  obtain ⟨x10, n10, r10, st10⟩ := nbox hg10
  have X10 := (X7.trans x9).trans x10
  obtain ⟨g12, vq, a12, x12, Rq⟩ := av2 _ _ g10 vx vy (Wx.setR.ext X10) (Ry.ext X10)
  have hcq : V.cells vq = some [vq] := by obtain ⟨_, k3, _⟩ := Rq; exact k3.cells
  obtain ⟨g13, hg13⟩ : ∃ z, z = (g12.new (.cells [.nils] 25 false)).put g12.n (.cells [vq] 25 false) := ⟨_, rfl⟩
  obtain ⟨x13, n13, r13, st13⟩ := nbox hg13
  have X13 := (X10.trans x12).trans x13
  obtain ⟨ew, wr1, wr2⟩ := writer_both sy
  have x213 : Ext g2 g13 := ((((x27.trans x9).trans x10).trans x12).trans x13)
  obtain ⟨g14, w14, a14, x14⟩ := wr1 _ g13 vi ((W1.setR.ext x2).ext x213)
  have X14 := X13.trans x14
  obtain ⟨g15, w15, a15, x15⟩ := wr2 _ g14 vy (Ry.ext X14)
  have X15 := X14.trans x15
  have Rp15 : SetR (fun _ => True) g15 vp Z := ((((Rp.ext x10).ext x12).ext x13).ext x14).ext x15
  have Rq15 : SetR (fun _ => True) g15 vq Z := ((Rq.ext x13).ext x14).ext x15
  obtain ⟨w, g16, a16, rfl, x16⟩ := (same15_ok Rp15 Rq15 sZ).elim
  have x216 : Ext g2 g16 := ((x213.trans x14).trans x15).trans x16
  obtain ⟨w, g17, a17, rfl, x17⟩ := (same15_ok ((W1.setR.ext x2).ext x216) (Ry.ext (X15.trans x16)) sy).elim
  obtain ⟨w, g18, a18, rfl, x18⟩ := (awake22_ok g17).elim
  have XX : Ext h g18 := ((((X.trans X15).trans x16).trans x17).trans x18)
  have rx2 : g2.get Bx = _ := (X2.get _ (H.get_lt rx)).trans rx
  have ry1 := rdN_of (o := 0) (n := 1) ry (by simp)
  have keep : ∀ {g' : H} {b : Nat} {v : V}, Ext g g' → g.get b = some (.cells [v] 25 false) → g'.rdN b 0 1 = some [v] := fun {g' b v} x hb => by
    have := (x.get _ (H.get_lt hb)).trans hb
    rw [rdN_of this (by simp)]; rfl
  have keep2 : ∀ {g' : H}, Ext g2 g' → g'.rdN g1.n 0 1 = some [vi] := fun {g'} x => by
    have := (x.get _ (H.get_lt r2)).trans r2
    rw [rdN_of this (by simp)]; rfl
  have keep10 : ∀ {g' : H}, Ext g10 g' → g'.rdN g9.n 0 1 = some [vp] := fun {g'} x => by
    have := (x.get _ (H.get_lt r10)).trans r10
    rw [rdN_of this (by simp)]; rfl
  have keep13 : ∀ {g' : H}, Ext g13 g' → g'.rdN g12.n 0 1 = some [vq] := fun {g'} x => by
    have := (x.get _ (H.get_lt r13)).trans r13
    rw [rdN_of this (by simp)]; rfl
  have hb1 : bs g7 25 3 [.nils, .nils, .nils] [(some (0, 1), .agg [vx]), (some (1, 1), .agg [vi]), (some (2, 1), .agg [vx])] = some (.sl g7.n 0 3 (.ex 3), g7.new (.cells [vx, vi, vx] 25 false)) := by
    simp [bs, fillW, splice, V.cells]
  have hb2 : bs g10 25 3 [.nils, .nils, .nils] [(some (0, 1), .agg [vx]), (some (1, 1), .agg [vy]), (some (2, 1), .agg [vx])] = some (.sl g10.n 0 3 (.ex 3), g10.new (.cells [vx, vy, vx] 25 false)) := by
    simp [bs, fillW, splice, V.cells]
  have hsi : V.same vi vi = true := by obtain ⟨_, k3, _⟩ := W1.setR; exact k3.same
  have hsx : V.same vx vx = true := by obtain ⟨_, k3, _⟩ := Wx.setR; exact k3.same
  have hsy : V.same vy vy = true := by obtain ⟨_, k3, _⟩ := Ry; exact k3.same
  have x23 := x3
  have X3 := X2.trans x3
  unfold rest8
  simp [e7, e8, ry1, a1, nw, hci, st2, keep2 (Ext.refl g2), a3, keep X3 ry, a4, gl_t, gk_t, keep X4 rx, a5, keep2 x25, a6, keep (X5.trans x6) ry, a7, ck, V.same, V.sames, hsi, hsx, hsy, keep X2 ry, keep X5 ry, keep2 x27, keep X7 rx, keep X7 ry, hb1, a9, hcp, st10, keep X10 rx, keep X10 ry, hb2, a12, hcq, st13, keep2 x213, a14, keep X14 ry, a15, keep10 ((x12.trans x13).trans (x14.trans x15)), keep13 (x14.trans x15), a16, keep2 x216, keep (X15.trans x16) ry, a17, a18]
  exact ⟨rfl, XX⟩
end Go.Proofs.Ytfjghgjkpenanaa
