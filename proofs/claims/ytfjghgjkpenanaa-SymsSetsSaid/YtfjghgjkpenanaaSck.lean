/- SymsSets: the law's core. -/
import Derived.Test.YtfjghgjkpenanaaScj
set_option linter.unusedVariables false
set_option linter.unusedSimpArgs false
set_option maxRecDepth 20000
namespace Go.Proofs.Ytfjghgjkpenanaa
open Go Go.Zf Go.RowKit Go.WideShapes
open Go.Zf (wi64)

set_option maxHeartbeats 2000000 in
theorem sets8_ok {h : H} {v0 v1 : V} {l0 l1 : List Dd} (s0 s1 s2 s3 : Int) (A0 : DosAt h v0 l0) (A1 : DosAt h v1 l1) : RT (fun w h' => w = .bool true ∧ Ext h h') (KW 8 [v0, v1, .agg [.int .i64 s0, .int .i64 s1, .int .i64 s2, .int .i64 s3]] h) := by
  obtain ⟨g0, hg0⟩ : ∃ z, z = h.new (.cells [.int .i64 s0, .int .i64 s1, .int .i64 s2, .int .i64 s3] 77 false) := ⟨_, rfl⟩
  have x0 : Ext h g0 := by rw [hg0]; exact (Ext.refl h).new _
  have n0 : g0.n = h.n + 1 := by rw [hg0, H.n_new]
  have r0 : g0.get h.n = some (.cells [.int .i64 s0, .int .i64 s1, .int .i64 s2, .int .i64 s3] 77 false) := by rw [hg0, get_new_same]
  have hbx : bx h 77 (.agg [.int .i64 s0, .int .i64 s1, .int .i64 s2, .int .i64 s3]) = some (.ptr h.n 0, g0) := by rw [hg0]; rfl
  obtain ⟨w, g1, a1, vx, Sx, rfl, okx, Wx, x1⟩ := (set10_ok (A0.ext x0)).elim
  obtain ⟨w, g2, a2, vy, Sy, rfl, oky, Wy, x2⟩ := (set10_ok ((A1.ext x0).ext x1)).elim
  have m1 := x1.n
  have m2 := x2.n
  have hcx : V.cells vx = some [vx] := by obtain ⟨_, k3, _⟩ := Wx.setR; exact k3.cells
  have hcy : V.cells vy = some [vy] := by obtain ⟨_, k3, _⟩ := Wy.setR; exact k3.cells
  have hsy : V.same vy vy = true := by obtain ⟨_, k3, _⟩ := Wy.setR; exact k3.same
  obtain ⟨g3, hg3⟩ : ∃ z, z = g2.new (.cells [.nils] 25 false) := ⟨_, rfl⟩
  have n3 : g3.n = g2.n + 1 := by rw [hg3, H.n_new]
  obtain ⟨g4, hg4⟩ : ∃ z, z = g3.new (.cells [.nils] 25 false) := ⟨_, rfl⟩
  have n4 : g4.n = g3.n + 1 := by rw [hg4, H.n_new]
  have x3 : Ext g2 g3 := by rw [hg3]; exact (Ext.refl g2).new _
  have x4 : Ext g3 g4 := by rw [hg4]; exact (Ext.refl g3).new _
  have r3 : g4.get g2.n = some (.cells [.nils] 25 false) := by rw [x4.get _ (by omega), hg3, get_new_same]
  have r4 : g4.get g3.n = some (.cells [.nils] 25 false) := by rw [hg4, get_new_same]
  obtain ⟨g5, hg5⟩ : ∃ z, z = g4.put g2.n (.cells [vx] 25 false) := ⟨_, rfl⟩
  have st5 : g4.wrN g2.n 0 [vx] = some g5 := by rw [wrN_of (o := 0) r3 (by simp), hg5]; rfl
  have r45 : g5.get g3.n = some (.cells [.nils] 25 false) := by rw [hg5, get_put_ne (by omega), r4]
  obtain ⟨g6, hg6⟩ : ∃ z, z = g5.put g3.n (.cells [vy] 25 false) := ⟨_, rfl⟩
  have st6 : g5.wrN g3.n 0 [vy] = some g6 := by rw [wrN_of (o := 0) r45 (by simp), hg6]; rfl
  have n6 : g6.n = g4.n := by rw [hg6, H.n_put, hg5, H.n_put]
  have x6 : Ext g2 g6 := by rw [hg6, hg5]; exact (((x3.trans x4).put (Nat.le_refl _) _).put (by omega) _)
  have X6 : Ext h g6 := ((x0.trans x1).trans x2).trans x6
  have rx : g6.get g2.n = some (.cells [vx] 25 false) := by rw [hg6, get_put_ne (by omega), hg5, get_put_same (H.get_lt r3)]
  have ry : g6.get g3.n = some (.cells [vy] 25 false) := by rw [hg6, get_put_same (H.get_lt r45)]
  have r06 : g6.get h.n = some (.cells [.int .i64 s0, .int .i64 s1, .int .i64 s2, .int .i64 s3] 77 false) := ((x1.trans x2).trans x6).get _ (H.get_lt r0) |>.trans r0
  have W6x : SetW (fun b => g0.n ≤ b ∧ b < g1.n) g6 vx Sx := ((Wx.mono fun b hb hd => ⟨hd, hb⟩).ext x2).ext x6
  have W6y : SetW (fun b => g1.n ≤ b ∧ b < g2.n) g6 vy Sy := (Wy.mono fun b hb hd => ⟨hd, hb⟩).ext x6
  have Y : Y8 h (fun b => g0.n ≤ b ∧ b < g1.n) (fun b => g1.n ≤ b ∧ b < g2.n) g2.n g3.n g6 := ⟨fun b hb => ⟨by omega, by omega, by omega, by omega⟩, fun b hb => ⟨by omega, by omega, by omega, by omega⟩, by omega, by omega⟩
  have Q0 : Q8 h (fun b => g0.n ≤ b ∧ b < g1.n) vx Sx g2.n g3.n g6 := ⟨X6, W6x, rx, _, vy, Sy, ry, W6y.setR, oky.small⟩
  obtain ⟨q0, q0a, _, b0⟩ := bring36_ok s0 4 (by decide) g6
  have q0l := q0a (by decide)
  have d0 : g6.rd1 h.n 0 = some (.int .i64 s0) := by rw [rd1_of r06]; rfl
  have d1 : g6.rd1 h.n 1 = some (.int .i64 s1) := by rw [rd1_of r06]; rfl
  have d2 : g6.rd1 h.n 2 = some (.int .i64 s2) := by rw [rd1_of r06]; rfl
  have d3 : g6.rd1 h.n 3 = some (.int .i64 s3) := by rw [rd1_of r06]; rfl
  simp at b0
  have ia0 : iaA 4 1 (.ptr h.n 0) (.int .i64 0) = some (.ptr h.n 0) := rfl
  have ia1 : iaA 4 1 (.ptr h.n 0) (.int .i64 1) = some (.ptr h.n 1) := rfl
  have ia2 : iaA 4 1 (.ptr h.n 0) (.int .i64 2) = some (.ptr h.n 2) := rfl
  have ia3 : iaA 4 1 (.ptr h.n 0) (.int .i64 3) = some (.ptr h.n 3) := rfl
  rw [w8, f8, s8_eq, s8a]
  by_cases c0 : q0 = 0
  · subst c0
    have ly : lnS vy = some (.int .i64 (32 : Nat)) := by
      have := W6y.setR.len; rw [oky.1] at this; exact this
    obtain ⟨k, hk, _, b1⟩ := bring36_ok s1 32 (by decide) g6
    have hk := hk (by decide)
    obtain ⟨r, hr⟩ := get_of_lt (l := Sy) (i := k) (by rw [oky.1]; exact hk)
    have hrl := (oky.2 k r hr).1
    have hcxk := cx_le hk
    obtain ⟨c, hc, _, b2⟩ := bring36_ok s2 (cx k) (by omega) g6
    have hc := hc (by omega)
    obtain ⟨m, hm, _, b3⟩ := bring36_ok s3 5 (by decide) g6
    have hm := hm (by decide)
    simp at b1 b3 ly
    have smr := oky.small.2 k r hr
    obtain ⟨t, ht⟩ := get_of_lt (l := r) (i := c) (by omega)
    obtain ⟨bO, oO, vr, bb, cells, vc, t1, t2, t3, t4, t5, t6, t7, t8, t9, t10, t11⟩ := W6y.tab hr ht
    have htok := (oky.2 k r hr).2 c t ht
    have hvl := vl_le hk
    obtain ⟨_, _, vr', y1, y2, ⟨rc, Sr, Er⟩, _, _⟩ := W6y.setR.row hr
    rw [t1] at y1; cases y1
    rw [t2] at y2; cases y2
    have lr := Sr.len
    rw [hrl] at lr
    have hsr := Sr.same
    have hcl : cells[c * 2]? = some vc ∧ cells[c * 2 + 1]? = some (.int .i64 t.n) := by
      rw [rdN_of t6 (by omega)] at t8
      simp only [Option.some.injEq] at t8
      have e0 := congrArg (fun l => l[0]?) t8
      have e1 := congrArg (fun l => l[1]?) t8
      simp at e0 e1
      exact ⟨e0, e1⟩
    have rvc : g6.rd1 bb (c * 2) = some vc := by rw [rd1_of t6, hcl.1]
    have hsc := t9.1.same
    have hm5 : m = 0 ∨ m = 1 ∨ m = 2 ∨ m = 3 ∨ m = 4 := by omega
    rcases hm5 with rfl | rfl | rfl | rfl | rfl
    · obtain ⟨b, o, vr2, vr3, z1, z2, z3, z4, z5, z6, g7, z7, M7, R7⟩ := W6y.cutRow hr (c := c) (by omega)
      rw [t1] at z1; cases z1
      rw [t2] at z2; cases z2
      have Q := Q8.of X6 W6x rx ry Y M7 R7 (oky.small.set ⟨by rw [List.length_take]; omega, fun i t ht => by
        rw [List.getElem?_take] at ht
        split at ht
        · exact smr.2 i t ht
        · cases ht⟩)
      have hst : stZ 1 g6 (.ptr bO oO) vr3 = some (.und, g7) := by rw [stZ_one _ _ _ _ z5, z7]; rfl
      simp [hbx, a1, a2, nw, ← hg3, ← hg4, hcx, st5, hcy, st6, ia0, ia1, ia2, ia3, d0, b0, d1, d2, d3, rd1_of ry, ly, b1, t1, t2, lr, b2, b3, z3, hst, ck, V.same, hsy, hsr]
      exact rest8_ok okx Q ⟨by simp, by simp⟩
    · obtain ⟨vc', z3, U', z5⟩ := t9.cutLo (by rw [htok.1]; omega)
      obtain ⟨g7, hg7⟩ : ∃ z, z = g6.put bb (.cells (cells.set (c * 2) vc') 72 false) := ⟨_, rfl⟩
      have z7 : g6.wr1 bb (c * 2) vc' = some g7 := by rw [wr1_of t6 (by omega), hg7]
      have hsp : cells.set (c * 2) vc' = splice cells (c * 2) [vc', .int .i64 t.n] := by
        apply List.ext_getElem?
        intro j
        rw [splice_get (by omega), List.getElem?_set]
        by_cases e1 : c * 2 = j
        · rw [if_pos e1, if_pos e1.symm, if_pos (by omega)]
        · rw [if_neg e1, if_neg (Ne.symm e1)]
          by_cases e2 : j = c * 2 + 1
          · rw [if_pos e2, e2, hcl.2]
          · rw [if_neg e2]
      have W7 : SetW (fun b => g1.n ≤ b ∧ b < g2.n) g7 vy (Sy.set k (r.set c ⟨t.c.tail, t.n⟩)) := by
        rw [hg7, hsp]
        exact t11 g6 _ vc' ⟨t.c.tail, t.n⟩ (fun _ _ _ => rfl) (Nat.le_refl _) (fun _ hb _ => hb) U'
      have M7 : Mod (fun b => g1.n ≤ b ∧ b < g2.n) g6 g7 := ⟨by rw [hg7, H.n_put]; exact Nat.le_refl _, fun d _ hd => by rw [hg7, get_put_ne (by rintro rfl; exact hd t10)]⟩
      have Q := Q8.of X6 W6x rx ry Y M7 W7.setR (oky.small.set ⟨by rw [List.length_set]; omega, fun i t' ht' => by
        rw [List.getElem?_set] at ht'
        split at ht'
        · split at ht'
          · cases ht'; rw [List.length_tail]; omega
          · cases ht'
        · exact smr.2 i t' ht'⟩)
      have hst : stZ 1 g6 (.ptr bb (c * 2)) vc' = some (.und, g7) := by
        rw [stZ_one _ _ _ _ U'.1.cell, z7]; rfl
      simp [hbx, a1, a2, nw, ← hg3, ← hg4, hcx, st5, hcy, st6, ia0, ia1, ia2, ia3, d0, b0, d1, d2, d3, rd1_of ry, ly, b1, t1, t2, lr, b2, b3, t5, rvc, z3, hst, ck, V.same, hsy, hsr, hsc]
      exact rest8_ok okx Q ⟨by simp, by simp⟩
    · obtain ⟨g7, hg7⟩ : ∃ z, z = g6.put bb (.cells (cells.set (c * 2 + 1) (.int .i64 33)) 72 false) := ⟨_, rfl⟩
      have z7 : g6.wr1 bb (c * 2 + 1) (.int .i64 33) = some g7 := by rw [wr1_of t6 (by omega), hg7]
      have hsp : cells.set (c * 2 + 1) (.int .i64 33) = splice cells (c * 2) [vc, .int .i64 33] := by
        apply List.ext_getElem?
        intro j
        rw [splice_get (by omega), List.getElem?_set]
        by_cases e1 : c * 2 + 1 = j
        · subst e1; rw [if_pos rfl, if_pos (show c * 2 + 1 < cells.length by omega), if_neg (show ¬ c * 2 + 1 = c * 2 by omega), if_pos rfl]
        · rw [if_neg e1]
          by_cases e2 : j = c * 2
          · rw [if_pos e2, e2, hcl.1]
          · rw [if_neg e2, if_neg (by omega)]
      have W7 : SetW (fun b => g1.n ≤ b ∧ b < g2.n) g7 vy (Sy.set k (r.set c ⟨t.c, 33⟩)) := by
        rw [hg7, hsp]
        exact t11 g6 _ vc ⟨t.c, 33⟩ (fun _ _ _ => rfl) (Nat.le_refl _) (fun _ hb _ => hb) t9
      have M7 : Mod (fun b => g1.n ≤ b ∧ b < g2.n) g6 g7 := ⟨by rw [hg7, H.n_put]; exact Nat.le_refl _, fun d _ hd => by rw [hg7, get_put_ne (by rintro rfl; exact hd t10)]⟩
      have Q := Q8.of X6 W6x rx ry Y M7 W7.setR (oky.small.set ⟨by rw [List.length_set]; omega, fun i t' ht' => by
        rw [List.getElem?_set] at ht'
        split at ht'
        · split at ht'
          · cases ht'; exact smr.2 c t ht
          · cases ht'
        · exact smr.2 i t' ht'⟩)
      simp [hbx, a1, a2, nw, ← hg3, ← hg4, hcx, st5, hcy, st6, ia0, ia1, ia2, ia3, d0, b0, d1, d2, d3, rd1_of ry, ly, b1, t1, t2, lr, b2, b3, t5, z7, ck, V.same, hsy, hsr, hsc]
      exact rest8_ok okx Q ⟨by simp, by simp⟩
    · obtain ⟨bu, ou, u1, u2, u3, cu, u4⟩ := t9.at (i := 0) (by rw [htok.1]; omega)
      have hou : ou < cu.length := by rw [rd1_of u4] at u2; exact lt_of_get u2
      obtain ⟨g7, hg7⟩ : ∃ z, z = g6.put bu (.cells (cu.set ou (.int .u16 (32769 : Nat))) 38 false) := ⟨_, rfl⟩
      have z7 : g6.wr1 bu ou (.int .u16 32769) = some g7 := by rw [wr1_of u4 hou, hg7]; rfl
      obtain ⟨S7, sm7, R7⟩ := W6y.setR.put oky.small u4 hou (y := 32769) (by omega)
      rw [← hg7] at R7
      have M7 : Mod (fun b => g1.n ≤ b ∧ b < g2.n) g6 g7 := ⟨by rw [hg7, H.n_put]; exact Nat.le_refl _, fun d _ hd => by rw [hg7, get_put_ne (by rintro rfl; exact hd u3)]⟩
      have Q := Q8.of X6 W6x rx ry Y M7 R7 sm7
      simp at u1
      simp [hbx, a1, a2, nw, ← hg3, ← hg4, hcx, st5, hcy, st6, ia0, ia1, ia2, ia3, d0, b0, d1, d2, d3, rd1_of ry, ly, b1, t1, t2, lr, b2, b3, t5, rvc, u1, z7, ck, V.same, hsy, hsr, hsc]
      exact rest8_ok okx Q ⟨by simp, by simp⟩
    · obtain ⟨vy', z3, R'⟩ := W6y.setR.cut (k := k) (by rw [oky.1]; omega)
      obtain ⟨g7, hg7⟩ : ∃ z, z = g6.put g3.n (.cells [vy'] 25 false) := ⟨_, rfl⟩
      have z7 : g6.wr1 g3.n 0 vy' = some g7 := by rw [wr1_of ry (by simp), hg7]; rfl
      have hcv : vy'.isCell = true := by obtain ⟨_, k3, _⟩ := R'; exact k3.cell
      have hst : stZ 1 g6 (.ptr g3.n 0) vy' = some (.und, g7) := by rw [stZ_one _ _ _ _ hcv, z7]; rfl
      have Q : Q8 h (fun b => g0.n ≤ b ∧ b < g1.n) vx Sx g2.n g3.n g7 := ⟨by rw [hg7]; exact X6.put (by omega) _, W6x.keep fun b hb _ => by rw [hg7, get_put_ne (by omega)], by rw [hg7, get_put_ne (by omega), rx], _, vy', _, by rw [hg7, get_put_same (H.get_lt ry)], R'.keep fun b hb _ => by rw [hg7, get_put_ne (by have := hb.2; omega)], oky.small.take k⟩
      simp [hbx, a1, a2, nw, ← hg3, ← hg4, hcx, st5, hcy, st6, ia0, ia1, ia2, ia3, d0, b0, d1, d2, d3, rd1_of ry, ly, b1, t1, t2, lr, b2, b3, z3, hst, ck, V.same, hsy, hsr]
      exact rest8_ok okx Q ⟨by simp, by simp⟩
  · simp [hbx, a1, a2, nw, ← hg3, ← hg4, hcx, st5, hcy, st6, ia0, ia1, ia2, ia3, d0, b0, c0]
    exact rest8_ok okx Q0 ⟨by simp, by simp⟩

theorem cellTypes77 : Try.prog.cellTypes Try.prog.depth 77 = some [3, 3, 3, 3] := by kernel_rfl
theorem cellsOf77 : Try.prog.cellsOf 77 = 4 := by kernel_rfl
theorem okWide_i64 {w : World} {r : Reach} {b : Nat} {v : Value} (h : Cell.okWide Try.prog w r b 3 v) : Value.okWide Try.prog w r b 3 v := by
  unfold Value.okWide; rw [Try.underlying3]; exact h
theorem arg_four {w : World} {r : Reach} {b : Nat} {v : Value} (hok : Value.okWide Try.prog w r b 77 v) : ∃ b0 b1 b2 b3, v = .agg #[.int .i64 b0, .int .i64 b1, .int .i64 b2, .int .i64 b3] := by
  unfold Value.okWide at hok
  rw [Try.underlying77] at hok
  obtain ⟨cs, rfl, hcs, ts, hts, _, hrow⟩ := hok
  rw [cellTypes77] at hts
  cases hts
  rw [cellsOf77] at hcs
  obtain ⟨l⟩ := cs
  match l, hcs with
  | [u0, u1, u2, u3], _ =>
    have o0 := hrow 0 u0 rfl
    have o1 := hrow 1 u1 rfl
    have o2 := hrow 2 u2 rfl
    have o3 := hrow 3 u3 rfl
    simp at o0 o1 o2 o3
    obtain ⟨b0, rfl⟩ := okWide_int Try.underlying3 (okWide_i64 o0)
    obtain ⟨b1, rfl⟩ := okWide_int Try.underlying3 (okWide_i64 o1)
    obtain ⟨b2, rfl⟩ := okWide_int Try.underlying3 (okWide_i64 o2)
    obtain ⟨b3, rfl⟩ := okWide_int Try.underlying3 (okWide_i64 o3)
    exact ⟨b0, b1, b2, b3, rfl⟩
theorem core8 {Hd : Type} {enc : TypeId × Value → Hd} {W : World} {base : Nat} {v0 v1 v2 : Value} {d0 d1 d2 : DataW Hd} {p0 p1 p2 : List MemPlace} {k : Prop}
    (hok : Value.okWide Try.prog W .any base 22 v0) (hd : DataW.Trod enc Try.prog W 0 (fun _ => true) true 22 v0 d0 p0)
    (hok1 : Value.okWide Try.prog W .any base 22 v1) (hd1 : DataW.Trod enc Try.prog W 0 (fun _ => true) true 22 v1 d1 p1)
    (hok2 : Value.okWide Try.prog W .any base 77 v2) (hd2 : DataW.Trod enc Try.prog W 0 (fun _ => true) true 77 v2 d2 p2) (hk : k) :
    Calls Try.prog 8 #[v0, v1, v2] W fun e W' => e = .returned (.bool true) ∧ Go.RowKit.Below W.heap.size W W' := by
  obtain ⟨b0, b1, b2, b3, rfl⟩ := arg_four hok2
  obtain ⟨i, h, x, l, a, _, hx, hA, X, hl, _⟩ := argDos (ArgH.empty W) hok hd
  obtain ⟨i', h', x', l', a', le, hx', hA', X', hl', _⟩ := argDos a hok1 hd1
  obtain ⟨w, h'', hrun, rfl, _⟩ := (sets8_ok b0 b1 b2 b3 (hA.ext X') hA').elim
  exact law_calls (us := [v0, v1, .agg #[.int .i64 b0, .int .i64 b1, .int .i64 b2, .int .i64 b3]]) (callW_ok mixed kp ov2_ok hrun) a'.rel (.cons (hx.mono le) (.cons hx' (.cons (.agg (.cons (.int _ _) (.cons (.int _ _) (.cons (.int _ _) (.cons (.int _ _) .nil)))) rfl) .nil))) a'.dom a'.no
end Go.Proofs.Ytfjghgjkpenanaa
