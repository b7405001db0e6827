/- The document's coder: Writer, Reader, Bytes. -/
import Derived.Test.YtfjghgjkpenanaaSam
set_option linter.unusedVariables false
set_option linter.unusedSimpArgs false
set_option maxRecDepth 20000
namespace Go.Proofs.Ytfjghgjkpenanaa
open Go Go.Zf
open Go.Zf (wi64)

theorem writer13_ok {D : Nat → Prop} {h : H} {v : V} {S : List (List Tb)} (u : SetR D h v S) (ok : SetOk S) (ad : Bool) :
    RT (fun w h' => ∃ p, w = .tup [.ptr p 0, .int .i64 0] ∧ CoderRef (fun b => h.n ≤ b) h' p 0 (newW S ad) ∧ Ext h h') (KW 13 [.agg [v], .bool ad] h) := by
  obtain ⟨h1, b1, x1, g1, n1, u1⟩ := box25 u
  obtain ⟨w, h2, e37, rfl, x2⟩ := (check37_ok u1 ok.small).elim
  rw [if_pos ok] at e37
  obtain ⟨h3, e43, E3, m3, f3⟩ := new11_ok h2
  have x3 : Ext h2 h3 := ⟨by omega, f3⟩
  have x2n := x2.n
  obtain ⟨w, h4, e11, v', rfl, W, x4⟩ := (copy11_ok ((u1.ext x2).ext x3) ok.small).elim
  have g2 : h2.get h.n = _ := (x2.get _ (H.get_lt g1)).trans g1
  have g3 : h3.get h.n = _ := (x3.get _ (H.get_lt g2)).trans g2
  have g4 : h4.get h.n = _ := (x4.get _ (H.get_lt g3)).trans g3
  obtain ⟨h5, hh5⟩ : ∃ g, g = h4.new (.cells [.ptr h2.n 0, .nilp, v', .bool ad, .int .i64 0] 51 false) := ⟨_, rfl⟩
  have x5 : Ext h4 h5 := by rw [hh5]; exact (Ext.refl h4).new _
  have n5 : h5.n = h4.n + 1 := by rw [hh5, H.n_new]
  have r5 : h5.get h4.n = some (.cells [.ptr h2.n 0, .nilp, v', .bool ad, .int .i64 0] 51 false) := by rw [hh5, get_new_same]
  have x4n := x4.n
  have hbx : bx h4 51 (.agg [.ptr h2.n 0, .nilp, v', .bool ad, .int .i64 0]) = some (.ptr h4.n 0, h5) := by rw [hh5]; rfl
  have hvc : V.cells v' = some [v'] := by
    obtain ⟨cs, k1, k2⟩ := W.setR; exact k1.cells
  rw [w13, f13, s13]
  simp [b1, rdN_of (o := 0) (n := 1) g1 (by simp), e37, e43, rdN_of (o := 0) (n := 1) g2 (by simp), rdN_of (o := 0) (n := 1) g3 (by simp), rdN_of (o := 0) (n := 1) g4 (by simp), e11, bl, fillW, splice, hvc, hbx, ck, V.same, V.sames, u.ckv]
  have hvs := u.ckv (some ())
  simp [ck] at hvs
  simp [hvs]
  refine ⟨h4.n, rfl, ⟨.ptr h2.n 0, .nilp, v', fun b => b = h2.n, fun b => h3.n ≤ b ∧ b < h4.n, r5, (show h.n ≤ h4.n by omega), ⟨h2.n, rfl, rfl, .nils, ?_, rfl, fun c o n k e => by cases e⟩, ⟨⟨by decide, by decide, by decide⟩, by simp, by decide⟩, ?_, ok, ⟨Int.le_refl _, Int.le_refl _⟩, fun b hb => ?_, fun b hb => ?_⟩, ?_⟩
  · exact ⟨by rw [x5.get _ (by omega), x4.get _ (by omega)]; exact E3.cell, .inl ⟨rfl, rfl⟩, E3.byte, E3.low64⟩
  · exact (W.mono fun b hb hd => ⟨hd, hb⟩).ext x5
  · have hb : b = h2.n := hb
    exact ⟨(show h.n ≤ b by omega), by omega, by omega⟩
  · exact ⟨(show h.n ≤ b by omega), by omega, by omega, (show ¬ b = h2.n by omega)⟩
  · exact (((x1.trans x2).trans x3).trans x4).trans x5

theorem reader26_ok {D : Nat → Prop} {h : H} {v bv : V} {l : List Nat} {S : List (List Tb)} (sb : SlB h bv l) (hl : l.length < 140737488355329) (hb : ∀ x ∈ l, x < 256) (u : SetR D h v S) (ok : SetOk S) (ad : Bool) :
    RT (fun w h' => ∃ p, w = .tup [.ptr p 0, .int .i64 0] ∧ CoderRef (fun b => h.n ≤ b) h' p 0 (newR l S ad) ∧ Ext h h') (KW 26 [bv, .agg [v], .bool ad] h) := by
  obtain ⟨h1, b1, x1, g1, n1, u1⟩ := box25 u
  obtain ⟨w, h2, e37, rfl, x2⟩ := (check37_ok u1 ok.small).elim
  rw [if_pos ok] at e37
  have x2n := x2.n
  obtain ⟨h3, q, v3, e52, hdec, q0, q1, q2, f3⟩ := read20_ok ((sb.keep x1.get).keep x2.get) hl hb
  have hn3 : h2.n ≤ h3.n := by omega
  have x3 : Ext h2 h3 := ⟨hn3, f3⟩
  have E3 := hdec (fun c => c = q ∨ ¬ (h2.n ≤ c ∧ c < h3.n)) (.inl rfl) (fun c c1 c2 c3 => by rintro (e | e); exact c3 e; exact e ⟨c1, c2⟩)
  obtain ⟨w, h4, e11, v', rfl, W, x4⟩ := (copy11_ok ((u1.ext x2).ext x3) ok.small).elim
  have g2 : h2.get h.n = _ := (x2.get _ (H.get_lt g1)).trans g1
  have g3 : h3.get h.n = _ := (x3.get _ (H.get_lt g2)).trans g2
  obtain ⟨h5, hh5⟩ : ∃ g, g = h4.new (.cells [.nilp, .ptr q 0, v', .bool ad, .int .i64 0] 51 false) := ⟨_, rfl⟩
  have x5 : Ext h4 h5 := by rw [hh5]; exact (Ext.refl h4).new _
  have n5 : h5.n = h4.n + 1 := by rw [hh5, H.n_new]
  have r5 : h5.get h4.n = some (.cells [.nilp, .ptr q 0, v', .bool ad, .int .i64 0] 51 false) := by rw [hh5, get_new_same]
  have x4n := x4.n
  have hbx : bx h4 51 (.agg [.nilp, .ptr q 0, v', .bool ad, .int .i64 0]) = some (.ptr h4.n 0, h5) := by rw [hh5]; rfl
  have hvc : V.cells v' = some [v'] := by
    obtain ⟨cs, k1, k2⟩ := W.setR; exact k1.cells
  have hdi := dread_inv hb
  have hvs := u.ckv (some ())
  simp [ck] at hvs
  rw [w26, f26, s26]
  simp [b1, rdN_of (o := 0) (n := 1) g1 (by simp), e37, e52, rdN_of (o := 0) (n := 1) g2 (by simp), rdN_of (o := 0) (n := 1) g3 (by simp), e11, bl, fillW, splice, hvc, hbx, ck, V.same, V.sames, hvs]
  have hE3 : RefD (fun c => h2.n ≤ c ∧ c < h3.n) h3 0 q (dread l).1 (dread l).2 4294967295 := ⟨v3, E3, by omega, ⟨q1, q2⟩⟩
  refine ⟨h4.n, rfl, ⟨.nilp, .ptr q 0, v', fun b => h2.n ≤ b ∧ b < h3.n, fun b => h3.n ≤ b ∧ b < h4.n, r5, (show h.n ≤ h4.n by omega), ⟨q, rfl, rfl, hE3.keep fun b hb hb2 => by rw [x5.get _ (by omega), x4.get _ hb2]⟩, ⟨hdi.1, hdi.2, by decide⟩, ?_, ok, ⟨Int.le_refl _, Int.le_refl _⟩, fun b hb => ?_, fun b hb => ?_⟩, ?_⟩
  · exact (W.mono fun b hb hd => ⟨hd, hb⟩).ext x5
  · exact ⟨(show h.n ≤ b by omega), by omega, by omega⟩
  · exact ⟨(show h.n ≤ b by omega), by omega, by omega, fun h => by omega⟩
  · exact (((x1.trans x2).trans x3).trans x4).trans x5

theorem bytes20_ok {D : Nat → Prop} {h : H} {p m : Nat} {st : St} {out : List Nat} {low rng : Nat} (a : CoderRef D h p m st) (hs : st.sd = .w out low rng) :
    RT (fun w h' => ∃ v, w = .tup [v, .int .i64 0] ∧ Wr h' h.n v (bytes out low) ∧ Ext h h') (KW 20 [.ptr p 0] h) := by
  obtain ⟨vo, vi, vs, Ds, Dw, h1, h2, h3, h4, h5, h6, h7, h8, h9⟩ := a
  rw [hs] at h3 h4
  obtain ⟨e, rfl, rfl, v, ea, _⟩ := h3
  obtain ⟨h', v', k1, k2, k3, k4⟩ := bytes16_wr ea h4.1 (by have := h4.2.1; have := h4.2.2; omega)
  rw [w20, f20, s20]
  simp [rd1_of h1, k1]
  exact ⟨v', rfl, k2, k3, k4⟩
/-- The set of the document's coder, where it stands. -/
theorem CoderRef.set {D : Nat → Prop} {h : H} {p m : Nat} {st : St} (a : CoderRef D h p m st) : ∃ vs, h.rdN p 2 1 = some [vs] ∧ SetW D h vs st.S ∧ h.rd1 p 4 = some (.int .i64 st.n) := by
  obtain ⟨vo, vi, vs, Ds, Dw, h1, h2, h3, h4, h5, h6, h7, h8, h9⟩ := a
  exact ⟨vs, by rw [rdN_of h1 (by simp)]; rfl, h5.mono fun b _ hb => (h9 b hb).1, by rw [rd1_of h1]; rfl⟩
end Go.Proofs.Ytfjghgjkpenanaa
