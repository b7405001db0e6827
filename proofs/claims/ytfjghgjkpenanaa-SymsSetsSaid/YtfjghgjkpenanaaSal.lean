/- The document's coder: Symbol. -/
import Derived.Test.YtfjghgjkpenanaaSak
set_option linter.unusedVariables false
set_option linter.unusedSimpArgs false
set_option maxRecDepth 20000
namespace Go.Proofs.Ytfjghgjkpenanaa
open Go Go.Zf
open Go.Zf (wi64)

theorem SideRef.more {D : Nat → Prop} {h : H} {m m' : Nat} {vo vi : V} {sd : Side} (a : SideRef D h m vo vi sd) (hm : m ≤ m') : SideRef D h m' vo vi sd := by
  cases sd with
  | w o l r => exact a
  | r o l r =>
    obtain ⟨e, h1, h2, at_, h3, h4, h5⟩ := a
    exact ⟨e, h1, h2, at_, h3, by omega, h5⟩

/-- Behind the coding: the table is put, if the coder adapts, and the count. -/
theorem put41 {D Ds Dw : Nat → Prop} {h g1 g3 : H} {p m k c s B : Nat} {vo vi vs vc vr : V} {st : St} {t : Tb} {r : List Tb} {sd' : Side} {bO oO bb : Nat} {cells : List V} {ad : Bool} {v : Int}
    (x1 : Ext h g1) (hp : h.get p = some (.cells [vo, vi, vs, .bool st.ad, .int .i64 st.n] 51 false)) (hDp : D p) (h5 : SetW Dw h vs st.S) (h6 : SetOk st.S) (h7 : 0 ≤ st.n ∧ st.n ≤ 100 * m) (hm : m + 1 < 100000000)
    (h8 : ∀ b, Ds b → D b ∧ b ≠ p ∧ b < h.n) (h9 : ∀ b, Dw b → D b ∧ b ≠ p ∧ b < h.n ∧ ¬ Ds b)
    (hk : k < 32) (hc : c < cx k) (hr : st.S[k]? = some r) (ht : r[c]? = some t) (tok : TabOk t) (tl : t.c.length = vl k) (hsl : s < t.c.length)
    (hB : h.n ≤ B) (b3 : g3.get B = some (.cells [vc, .int .i64 t.n] 72 false)) (U : U16 Dw h vc t.c)
    (s3 : SideRef (grow Ds g1 g3) g3 (m + 1) vo vi sd') (so3 : SideOk (m + 1) sd') (M3 : Mod Ds g1 g3)
    (t1 : iaS 1 vs (.int .i64 k) = some (.ptr bO oO)) (t2 : h.rd1 bO oO = some vr) (t3 : Dw bO) (t4 : bO < h.n) (t5 : iaS 2 vr (.int .i64 c) = some (.ptr bb (c * 2))) (t6 : h.get bb = some (.cells cells 72 false)) (t7 : c * 2 + 2 ≤ cells.length) (t10 : Dw bb)
    (t11 : ∀ (h1 : H) (E : Nat → Prop) (vc' : V) (t' : Tb), (∀ b, Dw b → b < h.n → h1.get b = h.get b) → h.n ≤ h1.n → (∀ b, Dw b → b < h.n → E b) → U16 E h1 vc' t'.c → SetW E (h1.put bb (.cells (splice cells (c * 2) [vc', .int .i64 t'.n]) 72 false)) vs (st.S.set k (r.set c t')))
    (hsym : st.sym k c v = ⟨sd', if st.ad then st.S.set k ((st.S.getD k []).set c (adaptP t s)) else st.S, st.ad, st.n + 1⟩) :
    (st.ad = false → ∃ g5, g3.rd1 p 4 = some (.int .i64 st.n) ∧ g3.wr1 p 4 (.int .i64 (st.n + 1)) = some g5 ∧ CoderRef (grow D h g5) g5 p (m + 1) (st.sym k c v) ∧ Mod D h g5) ∧
    (st.ad = true → ∃ vc' g4 g5 g6 g7, KW 74 [.agg [vc, .int .i64 t.n], .int .i64 s] g3 = some (.ret (.tup [.agg [vc', .int .i64 (adaptP t s).n], .int .i64 0]), g4) ∧ (g4.new (.cells [.nils, .int .i64 0] 72 false)).wrN g4.n 0 [vc', .int .i64 (adaptP t s).n] = some g5 ∧ g5.rdN g4.n 0 2 = some [vc', .int .i64 (adaptP t s).n] ∧ g5.rd1 p 2 = some vs ∧ g5.rd1 bO oO = some vr ∧ g5.wrN bb (c * 2) [vc', .int .i64 (adaptP t s).n] = some g6 ∧ g6.rd1 p 4 = some (.int .i64 st.n) ∧ g6.wr1 p 4 (.int .i64 (st.n + 1)) = some g7 ∧ V.cells vc' = some [vc'] ∧ V.same vc' vc' = true ∧ V.same vs vs = true ∧ V.same vr vr = true ∧ CoderRef (grow D h g7) g7 p (m + 1) (st.sym k c v) ∧ Mod D h g7) := by
  have hpl := H.get_lt hp
  have x1n := x1.n
  have M3n := M3.n
  have hDsp : ¬ Ds p := fun hb => (h8 p hb).2.1 rfl
  have keep3 : ∀ b, b < h.n → ¬ Ds b → g3.get b = h.get b := fun b hb hd => by rw [M3.get b (by omega) hd, x1.get b hb]
  have hp3 : g3.get p = _ := (keep3 p hpl hDsp).trans hp
  have hDw3 : ∀ b, Dw b → b < h.n → g3.get b = h.get b := fun b hb hb2 => keep3 b hb2 (h9 b hb).2.2.2
  constructor
  · intro had
    obtain ⟨g5, hg5⟩ : ∃ x, x = g3.put p (.cells [vo, vi, vs, .bool st.ad, .int .i64 (st.n + 1)] 51 false) := ⟨_, rfl⟩
    have hw5 : g3.wr1 p 4 (.int .i64 (st.n + 1)) = some g5 := by rw [wr1_of hp3 (by simp), hg5]; rfl
    have hn5 : g5.n = g3.n := by rw [hg5, H.n_put]
    refine ⟨g5, by rw [rd1_of hp3]; rfl, hw5, ⟨vo, vi, vs, grow Ds g1 g3, Dw, ?_, .inl hDp, ?_, ?_, ?_, ?_, ?_, fun b hb => ?_, fun b hb => ?_⟩, ⟨by omega, fun d hd hdd => ?_⟩⟩
    · rw [hg5, get_put_same (H.get_lt hp3), hsym]
    · rw [hsym]
      exact s3.keep fun b hb hb2 => by
        rw [hg5, get_put_ne]; rintro rfl
        rcases hb with hb | hb
        · exact hDsp hb
        · omega
    · rw [hsym]; exact so3
    · rw [hsym, had]
      exact h5.keep fun b hb hb2 => by rw [hg5, get_put_ne (h9 b hb).2.1, hDw3 b hb hb2]
    · rw [hsym, had]; exact h6
    · rw [hsym]; show 0 ≤ st.n + 1 ∧ st.n + 1 ≤ 100 * ((m + 1 : Nat) : Int); omega
    · rcases hb with hb | hb
      · have := h8 b hb; exact ⟨.inl this.1, this.2.1, by omega⟩
      · exact ⟨.inr ⟨by omega, by omega⟩, by omega, by omega⟩
    · have := h9 b hb
      refine ⟨.inl this.1, this.2.1, by omega, ?_⟩
      rintro (h | h)
      · exact this.2.2.2 h
      · omega
    · rw [hg5, get_put_ne (fun e => hdd (by rw [e]; exact hDp)), keep3 d hd (fun hb => hdd (h8 d hb).1)]
  · intro had
    have U3 : U16 Dw g3 vc t.c := U.keep fun b x hb hx => hDw3 b hb (H.get_lt hx)
    obtain ⟨w, g4, e74, vt, rfl, ⟨vc', rfl, U4⟩, x4⟩ := (adapt74_ok U3 tok hsl).elim
    have x4n := x4.n
    obtain ⟨g5, hg5⟩ : ∃ z, z = (g4.new (.cells [.nils, .int .i64 0] 72 false)).put g4.n (.cells [vc', .int .i64 (adaptP t s).n] 72 false) := ⟨_, rfl⟩
    have x5 : Ext g4 g5 := by rw [hg5]; exact ((Ext.refl g4).new _).put (Nat.le_refl _) _
    have n5 : g5.n = g4.n + 1 := by rw [hg5, H.n_put, H.n_new]
    have k5 : g5.get g4.n = some (.cells [vc', .int .i64 (adaptP t s).n] 72 false) := by rw [hg5, get_put_same (by rw [H.n_new]; omega)]
    have hst : (g4.new (.cells [.nils, .int .i64 0] 72 false)).wrN g4.n 0 [vc', .int .i64 (adaptP t s).n] = some g5 := by
      rw [wrN_of (o := 0) get_new_same (by simp), hg5]; rfl
    have keep5 : ∀ b, b < g3.n → g5.get b = g3.get b := fun b hb => by rw [x5.get b (by omega), x4.get b hb]
    have hbbl := H.get_lt t6
    have bb5 : g5.get bb = some (.cells cells 72 false) := by rw [keep5 bb (by omega), hDw3 bb t10 hbbl, t6]
    have hp5 : g5.get p = _ := (keep5 p (by omega)).trans hp3
    have hbp : bb ≠ p := (h9 bb t10).2.1
    obtain ⟨g6, hg6⟩ : ∃ x, x = g5.put bb (.cells (splice cells (c * 2) [vc', .int .i64 (adaptP t s).n]) 72 false) := ⟨_, rfl⟩
    have hw6 : g5.wrN bb (c * 2) [vc', .int .i64 (adaptP t s).n] = some g6 := by rw [wrN_of bb5 (by simp; omega), hg6]
    have hp6 : g6.get p = _ := (show g6.get p = g5.get p by rw [hg6, get_put_ne (fun e => hbp e.symm)]).trans hp5
    have W6 : SetW (fun b => Dw b ∨ (g3.n ≤ b ∧ b < g4.n)) g6 vs (st.S.set k (r.set c (adaptP t s))) := by
      rw [hg6]
      exact t11 g5 _ vc' (adaptP t s) (fun b hb hb2 => by rw [keep5 b (by omega), hDw3 b hb hb2]) (by omega) (fun b hb _ => .inl hb) ((U4.mono fun b hb hd => .inr ⟨hd, hb⟩).ext x5)
    obtain ⟨g7, hg7⟩ : ∃ x, x = g6.put p (.cells [vo, vi, vs, .bool st.ad, .int .i64 (st.n + 1)] 51 false) := ⟨_, rfl⟩
    have hw7 : g6.wr1 p 4 (.int .i64 (st.n + 1)) = some g7 := by rw [wr1_of hp6 (by simp), hg7]; rfl
    have hn6 : g6.n = g5.n := by rw [hg6, H.n_put]
    have hn7 : g7.n = g5.n := by rw [hg7, H.n_put, hn6]
    have hgr : st.S.getD k [] = r := by simp [hr]
    have bo5 : g5.rd1 bO oO = some vr := by
      unfold H.rd1 at t2 ⊢
      rw [keep5 bO (by omega), hDw3 bO t3 t4]; exact t2
    refine ⟨vc', g4, g5, g6, g7, e74, hst, by rw [rdN_of (o := 0) (n := 2) k5 (by simp)]; simp, by rw [rd1_of hp5]; rfl, bo5, hw6, by rw [rd1_of hp6]; rfl, hw7, U4.1.cells, U4.1.same, by obtain ⟨_, k3, _⟩ := h5.setR; exact k3.same, ?_, ⟨vo, vi, vs, grow Ds g1 g3, fun b => Dw b ∨ (g3.n ≤ b ∧ b < g4.n), ?_, .inl hDp, ?_, ?_, ?_, ?_, ?_, fun b hb => ?_, fun b hb => ?_⟩, ⟨by omega, fun d hd hdd => ?_⟩⟩
    · obtain ⟨_, _, vr', k1, k2, ⟨_, k3, _⟩, _, _⟩ := h5.setR.row hr
      rw [t1] at k1; cases k1; rw [t2] at k2; cases k2
      exact k3.same
    · rw [hg7, get_put_same (H.get_lt hp6), hsym]
    · rw [hsym]
      exact s3.keep fun b hb hb2 => by
        have hbp2 : b ≠ p := by
          rintro rfl
          rcases hb with hb | hb
          · exact hDsp hb
          · omega
        have hbb : b ≠ bb := by
          rintro rfl
          rcases hb with hb | hb
          · exact (h9 b t10).2.2.2 hb
          · have := (h9 b t10).2.2.1; omega
        rw [hg7, get_put_ne hbp2, hg6, get_put_ne hbb, keep5 b hb2]
    · rw [hsym]; exact so3
    · rw [hsym, if_pos had, hgr]
      exact W6.keep fun b hb hb2 => by
        rw [hg7, get_put_ne]; rintro rfl
        rcases hb with hb | hb
        · exact (h9 b hb).2.1 rfl
        · omega
    · rw [hsym, if_pos had]; exact h6.set hk (adaptP_ok tok s) (by rw [adaptP_len, tl])
    · rw [hsym]; show 0 ≤ st.n + 1 ∧ st.n + 1 ≤ 100 * ((m + 1 : Nat) : Int); omega
    · rcases hb with hb | hb
      · have := h8 b hb; exact ⟨.inl this.1, this.2.1, by omega⟩
      · exact ⟨.inr ⟨by omega, by omega⟩, by omega, by omega⟩
    · rcases hb with hb | hb
      · have := h9 b hb
        refine ⟨.inl this.1, this.2.1, by omega, ?_⟩
        rintro (h | h)
        · exact this.2.2.2 h
        · omega
      · refine ⟨.inr ⟨by omega, by omega⟩, by omega, by omega, ?_⟩
        rintro (h | h)
        · have := (h8 b h).2.2; omega
        · omega
    · rw [hg7, get_put_ne (fun e => hdd (by rw [e]; exact hDp)), hg6, get_put_ne (fun e => hdd (by rw [e]; exact (h9 bb t10).1)), keep5 d (by omega), keep3 d hd (fun hb => hdd (h8 d hb).1)]

theorem symbol41_ok {D : Nat → Prop} {h : H} {p m : Nat} {st : St} {k c : Nat} {v : Int} (a : CoderRef D h p m st) (hm : m + 1 < 100000000) (hk : k < 32) (hc : c < cx k) (hv : st.sd.writes = true → 0 ≤ v ∧ v < vl k) :
    RT (fun w h' => w = .tup [.int .i64 (st.symV k c v : Nat), .int .i64 0] ∧ CoderRef (grow D h h') h' p (m + 1) (st.sym k c v) ∧ Mod D h h') (KW 41 [.ptr p 0, .int .i64 k, .int .i64 c, .int .i64 v] h) := by
  obtain ⟨vo, vi, vs, Ds, Dw, h1, h2, h3, h4, h5, h6, h7, h8, h9⟩ := a
  obtain ⟨w, g, e68, rfl, x⟩ := (shape68_ok k h).elim
  rw [if_pos ⟨by omega, by omega⟩, Int.toNat_natCast] at e68
  have xn := x.n
  have hp : g.get p = _ := (x.get _ (H.get_lt h1)).trans h1
  obtain ⟨r, hr, ht, tok, tl⟩ := h6.get hk hc
  have hcx := cx_le hk
  obtain ⟨t, htd⟩ : ∃ t, t = tabOf st.S k c := ⟨_, rfl⟩
  rw [← htd] at ht tok tl
  obtain ⟨bO, oO, vr, bb, cells, vc, t1, t2, t3, t4, t5, t6, t7, t8, t9, t10, t11⟩ := h5.tab hr ht
  have hv' : st.sd.writes = true → 0 ≤ v ∧ v < t.c.length := by rw [tl]; exact hv
  obtain ⟨g1, hg1⟩ : ∃ z, z = (g.new (.cells [.nils, .int .i64 0] 72 false)).put g.n (.cells [vc, .int .i64 t.n] 72 false) := ⟨_, rfl⟩
  have x1 : Ext g g1 := by rw [hg1]; exact ((Ext.refl g).new _).put (Nat.le_refl _) _
  have n1 : g1.n = g.n + 1 := by rw [hg1, H.n_put, H.n_new]
  have k1 : g1.get g.n = some (.cells [vc, .int .i64 t.n] 72 false) := by rw [hg1, get_put_same (by rw [H.n_new]; omega)]
  have hst : (g.new (.cells [.nils, .int .i64 0] 72 false)).wrN g.n 0 [vc, .int .i64 t.n] = some g1 := by
    rw [wrN_of (o := 0) get_new_same (by simp), hg1]; rfl
  have X1 := x.trans x1
  have hp1 : g1.get p = _ := (x1.get _ (H.get_lt hp)).trans hp
  have g2r : g.rd1 bO oO = some vr := rd1_ext x t4 t2
  have g8r : g.rdN bb (c * 2) 2 = some [vc, .int .i64 t.n] := by rw [← t8]; unfold H.rdN; rw [x.get _ (H.get_lt t6)]
  have hcv : V.cells vc = some [vc] := t9.1.cells
  obtain ⟨hsl, hmay⟩ := Side.val_may tok hv'
  have so2 := Side.code_ok h4 hm hmay
  obtain ⟨s, hs⟩ : ∃ s, s = st.sd.val t v := ⟨_, rfl⟩
  have hsv : st.symV k c v = s := by rw [hs, htd]; rfl
  rw [← hs] at hsl so2
  rw [hsv]
  have hsym : st.sym k c v = ⟨st.sd.code (pt t s) (pt t (s + 1)), if st.ad then st.S.set k ((st.S.getD k []).set c (adaptP t s)) else st.S, st.ad, st.n + 1⟩ := by
    rw [St.sym, ← htd, ← hs]
  have zn : IntKind.i64.wrap (st.n + 1) = st.n + 1 := wi64 (by omega) (by omega)
  have k1r := rdN_of (o := 0) (n := 2) k1 (by simp)
  simp at k1r
  have hDsl : ∀ b, Ds b → b < h.n := fun b hb => (h8 b hb).2.2
  cases hsd : st.sd with
  | w out low rng =>
    rw [hsd] at h3 h4 hs
    have hvv := hv (by rw [hsd]; rfl)
    have hsv2 : (s : Int) = v := by rw [hs]; simp [Side.val]; omega
    obtain ⟨e, rfl, rfl, E⟩ := h3
    obtain ⟨g2, g3, e69, x2, e70, s3, M3, M23⟩ := code41_w (s := s) (E.keep fun b _ hb => X1.get b hb) h4 (t9.ext X1) tok hsl
    have x2n := x2.n
    have q2 : g2.get p = _ := (x2.get _ (H.get_lt hp1)).trans hp1
    have hDsp : ¬ Ds p := fun hb => (h8 p hb).2.1 rfl
    have q3 : g3.get p = _ := (M23.get p (H.get_lt q2) hDsp).trans q2
    have k2 : g2.get g.n = _ := (x2.get _ (H.get_lt k1)).trans k1
    have k3 : g3.get g.n = _ := (M23.get g.n (H.get_lt k2) (fun hb => by have := hDsl _ hb; omega)).trans k2
    have k3r := rdN_of (o := 0) (n := 2) k3 (by simp)
    simp at k3r
    rw [hsv2] at e69
    obtain ⟨p0, p1⟩ := put41 X1 h1 h2 h5 h6 h7 hm h8 h9 hk hc hr ht tok tl hsl (B := g.n) (by omega) k3 t9 s3 (by rw [← hsd]; exact so2) M3 t1 t2 t3 t4 t5 t6 t7 t10 t11 (v := v) (ad := true) (by rw [hsym, hsd])
    rw [w41, f41, s41]
    cases had : st.ad with
    | false =>
      obtain ⟨g5, c1, c2, c3, c4⟩ := p0 had
      rw [had] at q3
      simp [e68, show ¬ (c : Int) < 0 by omega, show ¬ (cx k : Int) ≤ c by omega, show ¬ cx k ≤ c by omega, gl_t, rd1_of hp, show ¬ v < 0 by omega, show ¬ (vl k : Int) ≤ v by omega, t1, g2r, t5, g8r, nw, hcv, hst, rd1_of hp1, k1r, e69, rd1_of q2, e70, rd1_of q3, zn, c1, c2]
      exact ⟨by rw [hsv2], c3, c4⟩
    | true =>
      obtain ⟨vc', g4, g5, g6, g7, c1, c2, c3, c4, c5, c6, c7, c8, c9, c10, c11, c12, c13, c14⟩ := p1 had
      rw [had] at q3
      rw [hsv2] at c1
      simp [e68, show ¬ (c : Int) < 0 by omega, show ¬ (cx k : Int) ≤ c by omega, show ¬ cx k ≤ c by omega, gl_t, rd1_of hp, show ¬ v < 0 by omega, show ¬ (vl k : Int) ≤ v by omega, t1, g2r, t5, g8r, nw, hcv, hst, rd1_of hp1, k1r, e69, rd1_of q2, e70, rd1_of q3, k3r, zn, c1, c2, c3, c4, c5, c6, c7, c8, c9, c10, c11, c12, ck, V.same, V.sames]
      exact ⟨by rw [hsv2], c13, c14⟩
  | r rest code rng =>
    rw [hsd] at h3 h4 hs
    obtain ⟨e, rfl, rfl, E⟩ := h3
    obtain ⟨g2, g3, g4, e71, e72, x2, e69, x3, e73, s3, M4, M34⟩ := code41_r (E.keep fun b _ hb => X1.get b hb) h4 (t9.ext X1) tok
    have hs' : findP t (value code rng) = s := hs.symm
    rw [hs'] at e72 e69 e73 s3
    have x2n := x2.n
    have x3n := x3.n
    have q2 : g2.get p = _ := (x2.get _ (H.get_lt hp1)).trans hp1
    have q3 : g3.get p = _ := (x3.get _ (H.get_lt q2)).trans q2
    have hDsp : ¬ Ds p := fun hb => (h8 p hb).2.1 rfl
    have q4 : g4.get p = _ := (M34.get p (H.get_lt q3) hDsp).trans q3
    have k2 : g2.get g.n = _ := (x2.get _ (H.get_lt k1)).trans k1
    have k3 : g3.get g.n = _ := (x3.get _ (H.get_lt k2)).trans k2
    have k4 : g4.get g.n = _ := (M34.get g.n (H.get_lt k3) (fun hb => by have := hDsl _ hb; omega)).trans k3
    have k2r := rdN_of (o := 0) (n := 2) k2 (by simp)
    have k4r := rdN_of (o := 0) (n := 2) k4 (by simp)
    simp at k2r k4r
    obtain ⟨p0, p1⟩ := put41 X1 h1 h2 h5 h6 h7 hm h8 h9 hk hc hr ht tok tl hsl (B := g.n) (by omega) k4 t9 s3 (by rw [← hsd]; exact so2) M4 t1 t2 t3 t4 t5 t6 t7 t10 t11 (v := v) (ad := true) (by rw [hsym, hsd])
    rw [w41, f41, s41]
    cases had : st.ad with
    | false =>
      obtain ⟨g5, c1, c2, c3, c4⟩ := p0 had
      rw [had] at q4
      simp [e68, show ¬ (c : Int) < 0 by omega, show ¬ (cx k : Int) ≤ c by omega, show ¬ cx k ≤ c by omega, gl_t, rd1_of hp, t1, g2r, t5, g8r, nw, hcv, hst, rd1_of hp1, k1r, e71, e72, k2r, e69, rd1_of q3, e73, rd1_of q4, zn, c1, c2]
      exact ⟨rfl, c3, c4⟩
    | true =>
      obtain ⟨vc', g5, g6, g7, g8, c1, c2, c3, c4, c5, c6, c7, c8, c9, c10, c11, c12, c13, c14⟩ := p1 had
      rw [had] at q4
      simp [e68, show ¬ (c : Int) < 0 by omega, show ¬ (cx k : Int) ≤ c by omega, show ¬ cx k ≤ c by omega, gl_t, rd1_of hp, t1, g2r, t5, g8r, nw, hcv, hst, rd1_of hp1, k1r, e71, e72, k2r, e69, rd1_of q3, e73, rd1_of q4, k4r, zn, c1, c2, c3, c4, c5, c6, c7, c8, c9, c10, c11, c12, ck, V.same, V.sames]
      exact ⟨rfl, c13, c14⟩
end Go.Proofs.Ytfjghgjkpenanaa
