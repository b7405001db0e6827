/- The functions of the cut, printed by a program of ours: each is shown to be the interpreter's run. -/
import Derived.Test.YtpjcmgmmolediaaKp
set_option linter.unusedVariables false
set_option linter.unusedSimpArgs false
namespace Go.Proofs.Ytpjcmgmmolediaa
open Go Go.Zf
/-- zoetrope/zoetroperef12.slope -/
@[simp] def k60 : List Nat := [0, 2, 3]
noncomputable def s60 (K : Oracle) (L : Looper) (e : E) (h : H) : Out :=
 sq (some ⟨.nm, ⟨[(e.s k60 0), (.int .i64 0), (e.s k60 3)], 2, (.int .i64 0)⟩, h⟩) fun e h =>
 sq (sq (some ⟨.nm, ⟨[(e.s k60 0), (e.s k60 2), (e.s k60 0)], 3, (e.s k60 0)⟩, h⟩) fun e h =>
 blk 0 (sq (bd (binK 0 .eql (e.s k60 3) (.int .i64 3)) fun t5 =>
 some ⟨.nm, ⟨[(e.s k60 0), (e.s k60 2), (e.s k60 3)], 4, t5⟩, h⟩) fun e h =>
 br (e.s k60 4) (sq (some ⟨.nm, ⟨[(e.s k60 0), (.int .i64 1023), (e.s k60 3)], 2, (.int .i64 1023)⟩, h⟩) fun e h =>
 some ⟨.rt, e, h⟩)
 (sq (bd (binK 0 .eql (e.s k60 3) (.int .i64 6)) fun t7 =>
 some ⟨.nm, ⟨[(e.s k60 0), (e.s k60 2), (e.s k60 3)], 6, t7⟩, h⟩) fun e h =>
 br (e.s k60 6) (sq (some ⟨.nm, ⟨[(e.s k60 0), (.int .i64 547), (e.s k60 3)], 2, (.int .i64 547)⟩, h⟩) fun e h =>
 some ⟨.rt, e, h⟩)
 (sq (bd (binK 0 .eql (e.s k60 3) (.int .i64 9)) fun t9 =>
 some ⟨.nm, ⟨[(e.s k60 0), (e.s k60 2), (e.s k60 3)], 8, t9⟩, h⟩) fun e h =>
 br (e.s k60 8) (sq (some ⟨.nm, ⟨[(e.s k60 0), (.int .i64 372), (e.s k60 3)], 2, (.int .i64 372)⟩, h⟩) fun e h =>
 some ⟨.rt, e, h⟩)
 (sq (bd (binK 0 .eql (e.s k60 3) (.int .i64 14)) fun t11 =>
 some ⟨.nm, ⟨[(e.s k60 0), (e.s k60 2), (e.s k60 3)], 10, t11⟩, h⟩) fun e h =>
 br (e.s k60 10) (sq (some ⟨.nm, ⟨[(e.s k60 0), (.int .i64 273), (e.s k60 3)], 2, (.int .i64 273)⟩, h⟩) fun e h =>
 some ⟨.rt, e, h⟩)
 (sq (bd (binK 0 .eql (e.s k60 3) (.int .i64 17)) fun t13 =>
 some ⟨.nm, ⟨[(e.s k60 0), (e.s k60 2), (e.s k60 3)], 12, t13⟩, h⟩) fun e h =>
 br (e.s k60 12) (sq (some ⟨.nm, ⟨[(e.s k60 0), (.int .i64 215), (e.s k60 3)], 2, (.int .i64 215)⟩, h⟩) fun e h =>
 some ⟨.rt, e, h⟩)
 (sq (bd (binK 0 .eql (e.s k60 3) (.int .i64 20)) fun t15 =>
 some ⟨.nm, ⟨[(e.s k60 0), (e.s k60 2), (e.s k60 3)], 14, t15⟩, h⟩) fun e h =>
 br (e.s k60 14) (sq (some ⟨.nm, ⟨[(e.s k60 0), (.int .i64 178), (e.s k60 3)], 2, (.int .i64 178)⟩, h⟩) fun e h =>
 some ⟨.rt, e, h⟩)
 (sq (bd (binK 0 .eql (e.s k60 3) (.int .i64 23)) fun t17 =>
 some ⟨.nm, ⟨[(e.s k60 0), (e.s k60 2), (e.s k60 3)], 16, t17⟩, h⟩) fun e h =>
 br (e.s k60 16) (sq (some ⟨.nm, ⟨[(e.s k60 0), (.int .i64 151), (e.s k60 3)], 2, (.int .i64 151)⟩, h⟩) fun e h =>
 some ⟨.rt, e, h⟩)
 (sq (bd (binK 0 .eql (e.s k60 3) (.int .i64 26)) fun t19 =>
 some ⟨.nm, ⟨[(e.s k60 0), (e.s k60 2), (e.s k60 3)], 18, t19⟩, h⟩) fun e h =>
 br (e.s k60 18) (sq (some ⟨.nm, ⟨[(e.s k60 0), (.int .i64 132), (e.s k60 3)], 2, (.int .i64 132)⟩, h⟩) fun e h =>
 some ⟨.rt, e, h⟩)
 (sq (bd (binK 0 .eql (e.s k60 3) (.int .i64 29)) fun t21 =>
 some ⟨.nm, ⟨[(e.s k60 0), (e.s k60 2), (e.s k60 3)], 20, t21⟩, h⟩) fun e h =>
 br (e.s k60 20) (sq (some ⟨.nm, ⟨[(e.s k60 0), (.int .i64 116), (e.s k60 3)], 2, (.int .i64 116)⟩, h⟩) fun e h =>
 some ⟨.rt, e, h⟩)
 (sq (bd (binK 0 .eql (e.s k60 3) (.int .i64 32)) fun t23 =>
 some ⟨.nm, ⟨[(e.s k60 0), (e.s k60 2), (e.s k60 3)], 22, t23⟩, h⟩) fun e h =>
 br (e.s k60 22) (sq (some ⟨.nm, ⟨[(e.s k60 0), (.int .i64 102), (e.s k60 3)], 2, (.int .i64 102)⟩, h⟩) fun e h =>
 some ⟨.rt, e, h⟩)
 (sq (bd (binK 0 .eql (e.s k60 3) (.int .i64 36)) fun t25 =>
 some ⟨.nm, ⟨[(e.s k60 0), (e.s k60 2), (e.s k60 3)], 24, t25⟩, h⟩) fun e h =>
 br (e.s k60 24) (sq (some ⟨.nm, ⟨[(e.s k60 0), (.int .i64 90), (e.s k60 3)], 2, (.int .i64 90)⟩, h⟩) fun e h =>
 some ⟨.rt, e, h⟩)
 (sq (bd (binK 0 .eql (e.s k60 3) (.int .i64 39)) fun t27 =>
 some ⟨.nm, ⟨[(e.s k60 0), (e.s k60 2), (e.s k60 3)], 26, t27⟩, h⟩) fun e h =>
 br (e.s k60 26) (sq (some ⟨.nm, ⟨[(e.s k60 0), (.int .i64 80), (e.s k60 3)], 2, (.int .i64 80)⟩, h⟩) fun e h =>
 some ⟨.rt, e, h⟩)
 (sq (bd (binK 0 .eql (e.s k60 3) (.int .i64 42)) fun t29 =>
 some ⟨.nm, ⟨[(e.s k60 0), (e.s k60 2), (e.s k60 3)], 28, t29⟩, h⟩) fun e h =>
 br (e.s k60 28) (sq (some ⟨.nm, ⟨[(e.s k60 0), (.int .i64 71), (e.s k60 3)], 2, (.int .i64 71)⟩, h⟩) fun e h =>
 some ⟨.rt, e, h⟩)
 (sq (bd (binK 0 .eql (e.s k60 3) (.int .i64 45)) fun t31 =>
 some ⟨.nm, ⟨[(e.s k60 0), (e.s k60 2), (e.s k60 3)], 30, t31⟩, h⟩) fun e h =>
 br (e.s k60 30) (sq (some ⟨.nm, ⟨[(e.s k60 0), (.int .i64 64), (e.s k60 3)], 2, (.int .i64 64)⟩, h⟩) fun e h =>
 some ⟨.rt, e, h⟩)
 (some ⟨.nm, e, h⟩)))))))))))))))) fun e h =>
 sq (bc k60 [32, 33, 2] e (K 70 [(e.s k60 0)] h) fun t33 h1 =>
 some ⟨.nm, ⟨[(e.s k60 0), t33, (e.s k60 3)], 2, t33⟩, h1⟩) fun e h =>
 some ⟨.rt, e, h⟩
noncomputable def f60 (K : Oracle) (L : Looper) (p0 : V) (h : H) : Option (Rv × H) := fin Try.prog k60 [.tmp 2] (s60 K L ⟨[p0, V.und, V.und], 0, p0⟩ h)
theorem r60 : (fun K L p0 h => runFF Try.prog kp K L 60 [p0] h) = f60 := by kernel_rfl
theorem c60 (p0 : V) (h : H) : callZ Try.prog kp 60 [p0] h = f60 (callZ Try.prog kp) loopZ p0 h :=
  (callZ_eqF _ _ _ _ _).trans (congrFun (congrFun (congrFun (congrFun (r60) _) _) p0) h)

/-- zoetrope/intra.of$1 -/
@[simp] def k61 : List Nat := [0, 1, 2, 4]
noncomputable def s61 (K : Oracle) (L : Looper) (e : E) (h : H) : Out :=
 sq (some ⟨.nm, ⟨[(e.s k61 0), (e.s k61 1), (e.s k61 2), (.int .i64 0)], 4, (.int .i64 0)⟩, h⟩) fun e h =>
 sq (sq (bd (binK 0 .lss (e.s k61 0) (.int .i64 0)) fun t6 =>
 some ⟨.nm, ⟨[(e.s k61 0), (e.s k61 1), (e.s k61 2), (e.s k61 4)], 6, t6⟩, h⟩) fun e h =>
 br (e.s k61 6) (sq (bd (ld h (e.s k61 1)) fun t7 =>
 some ⟨.nm, ⟨[(e.s k61 0), (e.s k61 1), (e.s k61 2), t7], 4, t7⟩, h⟩) fun e h =>
 some ⟨.rt, e, h⟩)
 (some ⟨.nm, e, h⟩)) fun e h =>
 sq (bd (ld h (e.s k61 2)) fun t8 =>
 bd (ld h (e.s k61 2)) fun t10 =>
 bd (lnS t10) fun t11 =>
 bd (binK 0 .sub t11 (.int .i64 1)) fun t12 =>
 bd (minV [(e.s k61 0), t12]) fun t13 =>
 bd (iaS 1 t8 t13) fun t14 =>
 bd (ld h t14) fun t15 =>
 bd (cv .i64 t15) fun t16 =>
 some ⟨.nm, ⟨[(e.s k61 0), (e.s k61 1), (e.s k61 2), t16], 4, t16⟩, h⟩) fun e h =>
 some ⟨.rt, e, h⟩
noncomputable def f61 (K : Oracle) (L : Looper) (p0 p1 p2 : V) (h : H) : Option (Rv × H) := fin Try.prog k61 [.tmp 4] (s61 K L ⟨[p0, p1, p2, V.und], 0, p0⟩ h)
theorem r61 : (fun K L p0 p1 p2 h => runFF Try.prog kp K L 61 [p0, p1, p2] h) = f61 := by kernel_rfl
theorem c61 (p0 p1 p2 : V) (h : H) : callZ Try.prog kp 61 [p0, p1, p2] h = f61 (callZ Try.prog kp) loopZ p0 p1 p2 h :=
  (callZ_eqF _ _ _ _ _).trans (congrFun (congrFun (congrFun (congrFun (congrFun (congrFun (r61) _) _) p0) p1) p2) h)

/-- zoetrope/intra.kept -/
@[simp] def k62 : List Nat := [0, 1, 4, 5, 6]
noncomputable def l62_0 (K : Oracle) (L : Looper) (e : E) (h : H) : Out :=
 sq (sq (bd (binK 0 .leq (e.s k62 6) (e.s k62 1)) fun t9 =>
 some ⟨.nm, ⟨[(e.s k62 0), (e.s k62 1), (e.s k62 4), (e.s k62 5), (e.s k62 6)], 9, t9⟩, h⟩) fun e h =>
 br (e.s k62 9) (some ⟨.nm, e, h⟩)
 (some ⟨.ex 0, e, h⟩)) fun e h =>
 sq (blk 1 (bn (cdy K (e.s k62 0) [(e.s k62 6)] h) fun t15 h1 =>
 bd (ld h1 (e.s k62 5)) fun t12 =>
 bf (bs h1 3 1 [(.int .i64 0)] [(some (0, 1), t15)]) fun t16 h2 =>
 bf (apZ 3 1 8 h2 t12 t16) fun t17 h3 =>
 bf (stZ 1 h3 (e.s k62 5) t17) fun _ h4 =>
 ck (ld h (e.s k62 5)) t12 (ck (ld h1 (e.s k62 5)) t12 (some ⟨.nm, ⟨[(e.s k62 0), (e.s k62 1), (e.s k62 4), (e.s k62 5), (e.s k62 6)], 0, (e.s k62 0)⟩, h4⟩)))) fun e h =>
 bd (binK 0 .add (e.s k62 6) (.int .i64 1)) fun t11 =>
 some ⟨.nm, ⟨[(e.s k62 0), (e.s k62 1), (e.s k62 4), (e.s k62 5), t11], 6, t11⟩, h⟩
noncomputable def s62 (K : Oracle) (L : Looper) (e : E) (h : H) : Out :=
 sq (some ⟨.nm, ⟨[(e.s k62 0), (e.s k62 1), .nilf, (e.s k62 5), (e.s k62 6)], 4, .nilf⟩, h⟩) fun e h =>
 sq (bf (nw h 34 [.nils]) fun t5 h1 =>
 some ⟨.nm, ⟨[(e.s k62 0), (e.s k62 1), (e.s k62 4), t5, (e.s k62 6)], 5, t5⟩, h1⟩) fun e h =>
 sq (sq (some ⟨.nm, ⟨[(e.s k62 0), (e.s k62 1), (e.s k62 4), (e.s k62 5), (.int .i64 (-2))], 6, (.int .i64 (-2))⟩, h⟩) fun e h =>
 blk 0 (L (l62_0 K L) e h)) fun e h =>
 sq (bd (some (.fn (.func 71) [] [(e.s k62 5)])) fun t18 =>
 some ⟨.nm, ⟨[(e.s k62 0), (e.s k62 1), t18, (e.s k62 5), (e.s k62 6)], 4, t18⟩, h⟩) fun e h =>
 some ⟨.rt, e, h⟩
noncomputable def f62 (K : Oracle) (L : Looper) (p0 p1 : V) (h : H) : Option (Rv × H) := fin Try.prog k62 [.tmp 4] (s62 K L ⟨[p0, p1, V.und, V.und, V.und], 0, p0⟩ h)
theorem r62 : (fun K L p0 p1 h => runFF Try.prog kp K L 62 [p0, p1] h) = f62 := by kernel_rfl
theorem c62 (p0 p1 : V) (h : H) : callZ Try.prog kp 62 [p0, p1] h = f62 (callZ Try.prog kp) loopZ p0 p1 h :=
  (callZ_eqF _ _ _ _ _).trans (congrFun (congrFun (congrFun (congrFun (congrFun (r62) _) _) p0) p1) h)

/-- (zoetrope/intra.block).smooth$1 -/
@[simp] def k63 : List Nat := [0, 1, 2, 3, 5]
noncomputable def s63 (K : Oracle) (L : Looper) (e : E) (h : H) : Out :=
 sq (some ⟨.nm, ⟨[(e.s k63 0), (e.s k63 1), (e.s k63 2), (e.s k63 3), (.int .i64 0)], 5, (.int .i64 0)⟩, h⟩) fun e h =>
 sq (sq (bd (binK 0 .lss (e.s k63 0) (.int .i64 0)) fun t7 =>
 some ⟨.nm, ⟨[(e.s k63 0), (e.s k63 1), (e.s k63 2), (e.s k63 3), (e.s k63 5)], 7, t7⟩, h⟩) fun e h =>
 br (e.s k63 7) (sq (bd (fa 3 (e.s k63 1)) fun t8 =>
 bd (ld h t8) fun t9 =>
 some ⟨.nm, ⟨[(e.s k63 0), (e.s k63 1), (e.s k63 2), (e.s k63 3), t9], 5, t9⟩, h⟩) fun e h =>
 some ⟨.rt, e, h⟩)
 (some ⟨.nm, e, h⟩)) fun e h =>
 sq (bd (ld h (e.s k63 2)) fun t10 =>
 bd (binK 0 .sub (e.s k63 0) (.int .i64 1)) fun t12 =>
 bn (cdy K t10 [t12] h) fun t13 h1 =>
 bd (ld h1 (e.s k63 2)) fun t14 =>
 bn (cdy K t14 [(e.s k63 0)] h1) fun t16 h2 =>
 bd (ld h2 (e.s k63 2)) fun t19 =>
 bd (binK 0 .add (e.s k63 0) (.int .i64 1)) fun t21 =>
 bd (ld h2 (e.s k63 3)) fun t22 =>
 bd (minV [t21, t22]) fun t23 =>
 bn (cdy K t19 [t23] h2) fun t24 h3 =>
 bd (binK 0 .mul (.int .i64 2) t16) fun t17 =>
 bd (binK 0 .add t13 t17) fun t18 =>
 bd (binK 0 .add t18 t24) fun t25 =>
 bd (binK 0 .add t25 (.int .i64 2)) fun t26 =>
 bd (binK 0 .shr t26 (.int .u64 2)) fun t27 =>
 ck (ld h (e.s k63 2)) t10 (ck (ld h (e.s k63 2)) t14 (ck (ld h1 (e.s k63 2)) t14 (ck (ld h (e.s k63 2)) t19 (ck (ld h1 (e.s k63 2)) t19 (ck (ld h2 (e.s k63 2)) t19 (ck (ld h (e.s k63 3)) t22 (ck (ld h1 (e.s k63 3)) t22 (ck (ld h2 (e.s k63 3)) t22 (some ⟨.nm, ⟨[(e.s k63 0), (e.s k63 1), (e.s k63 2), (e.s k63 3), t27], 5, t27⟩, h3⟩)))))))))) fun e h =>
 some ⟨.rt, e, h⟩
noncomputable def f63 (K : Oracle) (L : Looper) (p0 p1 p2 p3 : V) (h : H) : Option (Rv × H) := fin Try.prog k63 [.tmp 5] (s63 K L ⟨[p0, p1, p2, p3, V.und], 0, p0⟩ h)
theorem r63 : (fun K L p0 p1 p2 p3 h => runFF Try.prog kp K L 63 [p0, p1, p2, p3] h) = f63 := by kernel_rfl
theorem c63 (p0 p1 p2 p3 : V) (h : H) : callZ Try.prog kp 63 [p0, p1, p2, p3] h = f63 (callZ Try.prog kp) loopZ p0 p1 p2 p3 h :=
  (callZ_eqF _ _ _ _ _).trans (congrFun (congrFun (congrFun (congrFun (congrFun (congrFun (congrFun (r63) _) _) p0) p1) p2) p3) h)

/-- (zoetrope/intra.block).double$1 -/
@[simp] def k64 : List Nat := [0, 1, 3, 4]
noncomputable def s64 (K : Oracle) (L : Looper) (e : E) (h : H) : Out :=
 sq (some ⟨.nm, ⟨[(e.s k64 0), (e.s k64 1), (.int .i64 0), (e.s k64 4)], 3, (.int .i64 0)⟩, h⟩) fun e h =>
 sq (bd (binK 0 .shr (e.s k64 0) (.int .u64 1)) fun t6 =>
 some ⟨.nm, ⟨[(e.s k64 0), (e.s k64 1), (e.s k64 3), t6], 4, t6⟩, h⟩) fun e h =>
 sq (sq (bd (binK 0 .and (e.s k64 0) (.int .i64 1)) fun t8 =>
 bd (binK 0 .eql t8 (.int .i64 0)) fun t9 =>
 some ⟨.nm, ⟨[(e.s k64 0), (e.s k64 1), (e.s k64 3), (e.s k64 4)], 9, t9⟩, h⟩) fun e h =>
 br (e.s k64 9) (sq (bd (ld h (e.s k64 1)) fun t10 =>
 bc k64 [10, 11, 12, 3] e (cdy K t10 [(e.s k64 4)] h) fun t12 h1 =>
 some ⟨.nm, ⟨[(e.s k64 0), (e.s k64 1), t12, (e.s k64 4)], 3, t12⟩, h1⟩) fun e h =>
 some ⟨.rt, e, h⟩)
 (some ⟨.nm, e, h⟩)) fun e h =>
 sq (bd (ld h (e.s k64 1)) fun t13 =>
 bn (cdy K t13 [(e.s k64 4)] h) fun t15 h1 =>
 bd (ld h1 (e.s k64 1)) fun t16 =>
 bd (binK 0 .add (e.s k64 4) (.int .i64 1)) fun t18 =>
 bn (cdy K t16 [t18] h1) fun t19 h2 =>
 bd (ld h2 (e.s k64 1)) fun t22 =>
 bd (binK 0 .sub (e.s k64 4) (.int .i64 1)) fun t24 =>
 bn (cdy K t22 [t24] h2) fun t25 h3 =>
 bd (ld h3 (e.s k64 1)) fun t27 =>
 bd (binK 0 .add (e.s k64 4) (.int .i64 2)) fun t29 =>
 bn (cdy K t27 [t29] h3) fun t30 h4 =>
 bd (binK 0 .add t15 t19) fun t20 =>
 bd (binK 0 .mul (.int .i64 9) t20) fun t21 =>
 bd (binK 0 .sub t21 t25) fun t26 =>
 bd (binK 0 .sub t26 t30) fun t31 =>
 bd (binK 0 .add t31 (.int .i64 8)) fun t32 =>
 bd (binK 0 .shr t32 (.int .u64 4)) fun t33 =>
 bd (maxV [t33, (.int .i64 0)]) fun t34 =>
 bd (minV [t34, (.int .i64 255)]) fun t35 =>
 ck (ld h (e.s k64 1)) t13 (ck (ld h (e.s k64 1)) t16 (ck (ld h1 (e.s k64 1)) t16 (ck (ld h (e.s k64 1)) t22 (ck (ld h1 (e.s k64 1)) t22 (ck (ld h2 (e.s k64 1)) t22 (ck (ld h (e.s k64 1)) t27 (ck (ld h1 (e.s k64 1)) t27 (ck (ld h2 (e.s k64 1)) t27 (ck (ld h3 (e.s k64 1)) t27 (some ⟨.nm, ⟨[(e.s k64 0), (e.s k64 1), t35, (e.s k64 4)], 3, t35⟩, h4⟩))))))))))) fun e h =>
 some ⟨.rt, e, h⟩
noncomputable def f64 (K : Oracle) (L : Looper) (p0 p1 : V) (h : H) : Option (Rv × H) := fin Try.prog k64 [.tmp 3] (s64 K L ⟨[p0, p1, V.und, V.und], 0, p0⟩ h)
theorem r64 : (fun K L p0 p1 h => runFF Try.prog kp K L 64 [p0, p1] h) = f64 := by kernel_rfl
theorem c64 (p0 p1 : V) (h : H) : callZ Try.prog kp 64 [p0, p1] h = f64 (callZ Try.prog kp) loopZ p0 p1 h :=
  (callZ_eqF _ _ _ _ _).trans (congrFun (congrFun (congrFun (congrFun (congrFun (r64) _) _) p0) p1) h)

/-- (zoetrope/intra.block).slant$1 -/
@[simp] def k66 : List Nat := [0, 1, 2, 3, 4, 7]
noncomputable def s66 (K : Oracle) (L : Looper) (e : E) (h : H) : Out :=
 sq (some ⟨.nm, ⟨[(e.s k66 0), (e.s k66 1), (e.s k66 2), (e.s k66 3), (e.s k66 4), (.int .i64 0)], 7, (.int .i64 0)⟩, h⟩) fun e h =>
 sq (bd (ldn 4 h (e.s k66 2)) fun t8 =>
 bd (fa 1 (e.s k66 2)) fun t9 =>
 bd (ld h t9) fun t10 =>
 bd (binK 0 .add (e.s k66 1) (.int .i64 1)) fun t12 =>
 bd (ld h (e.s k66 3)) fun t13 =>
 bd (binK 0 .mul t12 t13) fun t14 =>
 bd (ld h (e.s k66 4)) fun t16 =>
 bc k66 [8, 9, 10, 11, 12, 13, 14, 15, 16, 17, 7] e (K 67 [t8, t10, t14, (e.s k66 0), t16] h) fun t17 h1 =>
 some ⟨.nm, ⟨[(e.s k66 0), (e.s k66 1), (e.s k66 2), (e.s k66 3), (e.s k66 4), t17], 7, t17⟩, h1⟩) fun e h =>
 some ⟨.rt, e, h⟩
noncomputable def f66 (K : Oracle) (L : Looper) (p0 p1 p2 p3 p4 : V) (h : H) : Option (Rv × H) := fin Try.prog k66 [.tmp 7] (s66 K L ⟨[p0, p1, p2, p3, p4, V.und], 0, p0⟩ h)
theorem r66 : (fun K L p0 p1 p2 p3 p4 h => runFF Try.prog kp K L 66 [p0, p1, p2, p3, p4] h) = f66 := by kernel_rfl
theorem c66 (p0 p1 p2 p3 p4 : V) (h : H) : callZ Try.prog kp 66 [p0, p1, p2, p3, p4] h = f66 (callZ Try.prog kp) loopZ p0 p1 p2 p3 p4 h :=
  (callZ_eqF _ _ _ _ _).trans (congrFun (congrFun (congrFun (congrFun (congrFun (congrFun (congrFun (congrFun (r66) _) _) p0) p1) p2) p3) p4) h)

/-- (zoetrope/intra.block).between -/
@[simp] def k67 : List Nat := [0, 1, 2, 3, 4, 5, 10, 11, 12, 13]
noncomputable def s67 (K : Oracle) (L : Looper) (e : E) (h : H) : Out :=
 sq (bf (bx h 59 (e.s k67 0)) fun t5 h1 =>
 some ⟨.nm, ⟨[(e.s k67 0), (e.s k67 1), (e.s k67 2), (e.s k67 3), (e.s k67 4), t5, (.int .i64 0), (e.s k67 11), (e.s k67 12), (e.s k67 13)], 10, (.int .i64 0)⟩, h1⟩) fun e h =>
 sq (bd (fa 0 (e.s k67 5)) fun t14 =>
 bd (ld h t14) fun t15 =>
 bd (binK 0 .mul (.int .i64 2) t15) fun t16 =>
 bd (binK 0 .sub t16 (.int .i64 1)) fun t17 =>
 bd (binK 0 .shl t17 (e.s k67 4)) fun t19 =>
 some ⟨.nm, ⟨[(e.s k67 0), (e.s k67 1), (e.s k67 2), (e.s k67 3), (e.s k67 4), (e.s k67 5), (e.s k67 10), t19, (e.s k67 12), (e.s k67 13)], 11, t19⟩, h⟩) fun e h =>
 sq (bd (binK 0 .sub (.int .i64 6) (e.s k67 4)) fun t22 =>
 bd (binK 0 .shr (e.s k67 2) t22) fun t23 =>
 bd (binK 0 .shl (e.s k67 3) (e.s k67 4)) fun t26 =>
 bd (binK 0 .add t23 t26) fun t27 =>
 some ⟨.nm, ⟨[(e.s k67 0), (e.s k67 1), (e.s k67 2), (e.s k67 3), (e.s k67 4), (e.s k67 5), (e.s k67 10), (e.s k67 11), t27, (e.s k67 13)], 12, t27⟩, h⟩) fun e h =>
 sq (sq (bd (binK 0 .geq (e.s k67 12) (e.s k67 11)) fun t30 =>
 some ⟨.nm, ⟨[(e.s k67 0), (e.s k67 1), (e.s k67 2), (e.s k67 3), (e.s k67 4), (e.s k67 5), (e.s k67 10), (e.s k67 11), (e.s k67 12), (e.s k67 13)], 30, t30⟩, h⟩) fun e h =>
 br (e.s k67 30) (sq (bc k67 [31, 32, 33, 10] e (cdy K (e.s k67 1) [(e.s k67 11)] h) fun t33 h1 =>
 some ⟨.nm, ⟨[(e.s k67 0), (e.s k67 1), (e.s k67 2), (e.s k67 3), (e.s k67 4), (e.s k67 5), t33, (e.s k67 11), (e.s k67 12), (e.s k67 13)], 10, t33⟩, h1⟩) fun e h =>
 some ⟨.rt, e, h⟩)
 (some ⟨.nm, e, h⟩)) fun e h =>
 sq (bd (binK 0 .shl (e.s k67 2) (e.s k67 4)) fun t36 =>
 bd (binK 0 .shr t36 (.int .u64 1)) fun t37 =>
 bd (binK 0 .and t37 (.int .i64 31)) fun t38 =>
 some ⟨.nm, ⟨[(e.s k67 0), (e.s k67 1), (e.s k67 2), (e.s k67 3), (e.s k67 4), (e.s k67 5), (e.s k67 10), (e.s k67 11), (e.s k67 12), t38], 13, t38⟩, h⟩) fun e h =>
 sq (bd (binK 0 .sub (.int .i64 32) (e.s k67 13)) fun t40 =>
 bc k67 [39, 40, 41, 42, 43, 44, 45, 46, 47, 48, 49, 50, 51, 52, 53, 10] e (cdy K (e.s k67 1) [(e.s k67 12)] h) fun t43 h1 =>
 bd (binK 0 .mul t40 t43) fun t44 =>
 bd (binK 0 .add (e.s k67 12) (.int .i64 1)) fun t48 =>
 bc k67 [39, 40, 41, 42, 43, 44, 45, 46, 47, 48, 49, 50, 51, 52, 53, 10] e (cdy K (e.s k67 1) [t48] h1) fun t49 h2 =>
 bd (binK 0 .mul (e.s k67 13) t49) fun t50 =>
 bd (binK 0 .add t44 t50) fun t51 =>
 bd (binK 0 .add t51 (.int .i64 16)) fun t52 =>
 bd (binK 0 .shr t52 (.int .u64 5)) fun t53 =>
 some ⟨.nm, ⟨[(e.s k67 0), (e.s k67 1), (e.s k67 2), (e.s k67 3), (e.s k67 4), (e.s k67 5), t53, (e.s k67 11), (e.s k67 12), (e.s k67 13)], 10, t53⟩, h2⟩) fun e h =>
 some ⟨.rt, e, h⟩
noncomputable def f67 (K : Oracle) (L : Looper) (p0 p1 p2 p3 p4 : V) (h : H) : Option (Rv × H) := fin Try.prog k67 [.tmp 10] (s67 K L ⟨[p0, p1, p2, p3, p4, V.und, V.und, V.und, V.und, V.und], 0, p0⟩ h)
theorem r67 : (fun K L p0 p1 p2 p3 p4 h => runFF Try.prog kp K L 67 [p0, p1, p2, p3, p4] h) = f67 := by kernel_rfl
theorem c67 (p0 p1 p2 p3 p4 : V) (h : H) : callZ Try.prog kp 67 [p0, p1, p2, p3, p4] h = f67 (callZ Try.prog kp) loopZ p0 p1 p2 p3 p4 h :=
  (callZ_eqF _ _ _ _ _).trans (congrFun (congrFun (congrFun (congrFun (congrFun (congrFun (congrFun (congrFun (r67) _) _) p0) p1) p2) p3) p4) h)

/-- (zoetrope/intra.block).slant$2 -/
@[simp] def k68 : List Nat := [0, 1, 2, 3, 4, 7]
noncomputable def s68 (K : Oracle) (L : Looper) (e : E) (h : H) : Out :=
 sq (some ⟨.nm, ⟨[(e.s k68 0), (e.s k68 1), (e.s k68 2), (e.s k68 3), (e.s k68 4), (.int .i64 0)], 7, (.int .i64 0)⟩, h⟩) fun e h =>
 sq (bd (ldn 4 h (e.s k68 2)) fun t8 =>
 bd (fa 2 (e.s k68 2)) fun t9 =>
 bd (ld h t9) fun t10 =>
 bd (binK 0 .add (e.s k68 0) (.int .i64 1)) fun t12 =>
 bd (ld h (e.s k68 3)) fun t13 =>
 bd (binK 0 .mul t12 t13) fun t14 =>
 bd (ld h (e.s k68 4)) fun t16 =>
 bc k68 [8, 9, 10, 11, 12, 13, 14, 15, 16, 17, 7] e (K 67 [t8, t10, t14, (e.s k68 1), t16] h) fun t17 h1 =>
 some ⟨.nm, ⟨[(e.s k68 0), (e.s k68 1), (e.s k68 2), (e.s k68 3), (e.s k68 4), t17], 7, t17⟩, h1⟩) fun e h =>
 some ⟨.rt, e, h⟩
noncomputable def f68 (K : Oracle) (L : Looper) (p0 p1 p2 p3 p4 : V) (h : H) : Option (Rv × H) := fin Try.prog k68 [.tmp 7] (s68 K L ⟨[p0, p1, p2, p3, p4, V.und], 0, p0⟩ h)
theorem r68 : (fun K L p0 p1 p2 p3 p4 h => runFF Try.prog kp K L 68 [p0, p1, p2, p3, p4] h) = f68 := by kernel_rfl
theorem c68 (p0 p1 p2 p3 p4 : V) (h : H) : callZ Try.prog kp 68 [p0, p1, p2, p3, p4] h = f68 (callZ Try.prog kp) loopZ p0 p1 p2 p3 p4 h :=
  (callZ_eqF _ _ _ _ _).trans (congrFun (congrFun (congrFun (congrFun (congrFun (congrFun (congrFun (congrFun (r68) _) _) p0) p1) p2) p3) p4) h)

/-- (zoetrope/intra.block).slant$3 -/
@[simp] def k69 : List Nat := [0, 1, 2, 3, 4, 5, 8, 9]
noncomputable def s69 (K : Oracle) (L : Looper) (e : E) (h : H) : Out :=
 sq (some ⟨.nm, ⟨[(e.s k69 0), (e.s k69 1), (e.s k69 2), (e.s k69 3), (e.s k69 4), (e.s k69 5), (.int .i64 0), (e.s k69 9)], 8, (.int .i64 0)⟩, h⟩) fun e h =>
 sq (sq (bd (binK 0 .mul (.int .i64 64) (e.s k69 0)) fun t11 =>
 bd (binK 0 .add (e.s k69 1) (.int .i64 1)) fun t13 =>
 bd (ld h (e.s k69 2)) fun t14 =>
 bd (binK 0 .mul t13 t14) fun t15 =>
 bd (binK 0 .sub t11 t15) fun t16 =>
 some ⟨.nm, ⟨[(e.s k69 0), (e.s k69 1), (e.s k69 2), (e.s k69 3), (e.s k69 4), (e.s k69 5), (e.s k69 8), t16], 9, t16⟩, h⟩) fun e h =>
 sq (bd (ld h (e.s k69 3)) fun t18 =>
 bd (binK 0 .sub (.int .i64 6) t18) fun t19 =>
 bd (binK 0 .shr (e.s k69 9) t19) fun t20 =>
 bd (ld h (e.s k69 3)) fun t21 =>
 bd (binK 0 .shl (.int .i64 (-1)) t21) fun t22 =>
 bd (binK 0 .geq t20 t22) fun t23 =>
 ck (ld h (e.s k69 3)) t18 (ck (ld h (e.s k69 3)) t21 (some ⟨.nm, ⟨[(e.s k69 0), (e.s k69 1), (e.s k69 2), (e.s k69 3), (e.s k69 4), (e.s k69 5), (e.s k69 8), (e.s k69 9)], 23, t23⟩, h⟩))) fun e h =>
 br (e.s k69 23) (sq (bd (ldn 4 h (e.s k69 4)) fun t24 =>
 bd (fa 1 (e.s k69 4)) fun t25 =>
 bd (ld h t25) fun t26 =>
 bd (ld h (e.s k69 3)) fun t28 =>
 bc k69 [24, 25, 26, 27, 28, 29, 8] e (K 67 [t24, t26, (e.s k69 9), (.int .i64 0), t28] h) fun t29 h1 =>
 some ⟨.nm, ⟨[(e.s k69 0), (e.s k69 1), (e.s k69 2), (e.s k69 3), (e.s k69 4), (e.s k69 5), t29, (e.s k69 9)], 8, t29⟩, h1⟩) fun e h =>
 some ⟨.rt, e, h⟩)
 (some ⟨.nm, e, h⟩)) fun e h =>
 sq (bd (ldn 4 h (e.s k69 4)) fun t30 =>
 bd (fa 2 (e.s k69 4)) fun t31 =>
 bd (ld h t31) fun t32 =>
 bd (binK 0 .mul (.int .i64 64) (e.s k69 1)) fun t34 =>
 bd (binK 0 .add (e.s k69 0) (.int .i64 1)) fun t36 =>
 bd (ld h (e.s k69 5)) fun t37 =>
 bd (binK 0 .mul t36 t37) fun t38 =>
 bd (binK 0 .sub t34 t38) fun t39 =>
 bd (ld h (e.s k69 3)) fun t40 =>
 bc k69 [30, 31, 32, 33, 34, 35, 36, 37, 38, 39, 40, 41, 8] e (K 67 [t30, t32, t39, (.int .i64 0), t40] h) fun t41 h1 =>
 some ⟨.nm, ⟨[(e.s k69 0), (e.s k69 1), (e.s k69 2), (e.s k69 3), (e.s k69 4), (e.s k69 5), t41, (e.s k69 9)], 8, t41⟩, h1⟩) fun e h =>
 some ⟨.rt, e, h⟩
noncomputable def f69 (K : Oracle) (L : Looper) (p0 p1 p2 p3 p4 p5 : V) (h : H) : Option (Rv × H) := fin Try.prog k69 [.tmp 8] (s69 K L ⟨[p0, p1, p2, p3, p4, p5, V.und, V.und], 0, p0⟩ h)
theorem r69 : (fun K L p0 p1 p2 p3 p4 p5 h => runFF Try.prog kp K L 69 [p0, p1, p2, p3, p4, p5] h) = f69 := by kernel_rfl
theorem c69 (p0 p1 p2 p3 p4 p5 : V) (h : H) : callZ Try.prog kp 69 [p0, p1, p2, p3, p4, p5] h = f69 (callZ Try.prog kp) loopZ p0 p1 p2 p3 p4 p5 h :=
  (callZ_eqF _ _ _ _ _).trans (congrFun (congrFun (congrFun (congrFun (congrFun (congrFun (congrFun (congrFun (congrFun (r69) _) _) p0) p1) p2) p3) p4) p5) h)

/-- zoetrope/zoetroperef12.steep -/
@[simp] def k70 : List Nat := [0, 2, 3]
noncomputable def s70 (K : Oracle) (L : Looper) (e : E) (h : H) : Out :=
 sq (some ⟨.nm, ⟨[(e.s k70 0), (.int .i64 0), (e.s k70 3)], 2, (.int .i64 0)⟩, h⟩) fun e h =>
 sq (sq (some ⟨.nm, ⟨[(e.s k70 0), (e.s k70 2), (e.s k70 0)], 3, (e.s k70 0)⟩, h⟩) fun e h =>
 blk 0 (sq (bd (binK 0 .eql (e.s k70 3) (.int .i64 48)) fun t5 =>
 some ⟨.nm, ⟨[(e.s k70 0), (e.s k70 2), (e.s k70 3)], 4, t5⟩, h⟩) fun e h =>
 br (e.s k70 4) (sq (some ⟨.nm, ⟨[(e.s k70 0), (.int .i64 57), (e.s k70 3)], 2, (.int .i64 57)⟩, h⟩) fun e h =>
 some ⟨.rt, e, h⟩)
 (sq (bd (binK 0 .eql (e.s k70 3) (.int .i64 51)) fun t7 =>
 some ⟨.nm, ⟨[(e.s k70 0), (e.s k70 2), (e.s k70 3)], 6, t7⟩, h⟩) fun e h =>
 br (e.s k70 6) (sq (some ⟨.nm, ⟨[(e.s k70 0), (.int .i64 51), (e.s k70 3)], 2, (.int .i64 51)⟩, h⟩) fun e h =>
 some ⟨.rt, e, h⟩)
 (sq (bd (binK 0 .eql (e.s k70 3) (.int .i64 54)) fun t9 =>
 some ⟨.nm, ⟨[(e.s k70 0), (e.s k70 2), (e.s k70 3)], 8, t9⟩, h⟩) fun e h =>
 br (e.s k70 8) (sq (some ⟨.nm, ⟨[(e.s k70 0), (.int .i64 45), (e.s k70 3)], 2, (.int .i64 45)⟩, h⟩) fun e h =>
 some ⟨.rt, e, h⟩)
 (sq (bd (binK 0 .eql (e.s k70 3) (.int .i64 58)) fun t11 =>
 some ⟨.nm, ⟨[(e.s k70 0), (e.s k70 2), (e.s k70 3)], 10, t11⟩, h⟩) fun e h =>
 br (e.s k70 10) (sq (some ⟨.nm, ⟨[(e.s k70 0), (.int .i64 40), (e.s k70 3)], 2, (.int .i64 40)⟩, h⟩) fun e h =>
 some ⟨.rt, e, h⟩)
 (sq (bd (binK 0 .eql (e.s k70 3) (.int .i64 61)) fun t13 =>
 some ⟨.nm, ⟨[(e.s k70 0), (e.s k70 2), (e.s k70 3)], 12, t13⟩, h⟩) fun e h =>
 br (e.s k70 12) (sq (some ⟨.nm, ⟨[(e.s k70 0), (.int .i64 35), (e.s k70 3)], 2, (.int .i64 35)⟩, h⟩) fun e h =>
 some ⟨.rt, e, h⟩)
 (sq (bd (binK 0 .eql (e.s k70 3) (.int .i64 64)) fun t15 =>
 some ⟨.nm, ⟨[(e.s k70 0), (e.s k70 2), (e.s k70 3)], 14, t15⟩, h⟩) fun e h =>
 br (e.s k70 14) (sq (some ⟨.nm, ⟨[(e.s k70 0), (.int .i64 31), (e.s k70 3)], 2, (.int .i64 31)⟩, h⟩) fun e h =>
 some ⟨.rt, e, h⟩)
 (sq (bd (binK 0 .eql (e.s k70 3) (.int .i64 67)) fun t17 =>
 some ⟨.nm, ⟨[(e.s k70 0), (e.s k70 2), (e.s k70 3)], 16, t17⟩, h⟩) fun e h =>
 br (e.s k70 16) (sq (some ⟨.nm, ⟨[(e.s k70 0), (.int .i64 27), (e.s k70 3)], 2, (.int .i64 27)⟩, h⟩) fun e h =>
 some ⟨.rt, e, h⟩)
 (sq (bd (binK 0 .eql (e.s k70 3) (.int .i64 70)) fun t19 =>
 some ⟨.nm, ⟨[(e.s k70 0), (e.s k70 2), (e.s k70 3)], 18, t19⟩, h⟩) fun e h =>
 br (e.s k70 18) (sq (some ⟨.nm, ⟨[(e.s k70 0), (.int .i64 23), (e.s k70 3)], 2, (.int .i64 23)⟩, h⟩) fun e h =>
 some ⟨.rt, e, h⟩)
 (sq (bd (binK 0 .eql (e.s k70 3) (.int .i64 73)) fun t21 =>
 some ⟨.nm, ⟨[(e.s k70 0), (e.s k70 2), (e.s k70 3)], 20, t21⟩, h⟩) fun e h =>
 br (e.s k70 20) (sq (some ⟨.nm, ⟨[(e.s k70 0), (.int .i64 19), (e.s k70 3)], 2, (.int .i64 19)⟩, h⟩) fun e h =>
 some ⟨.rt, e, h⟩)
 (sq (bd (binK 0 .eql (e.s k70 3) (.int .i64 76)) fun t23 =>
 some ⟨.nm, ⟨[(e.s k70 0), (e.s k70 2), (e.s k70 3)], 22, t23⟩, h⟩) fun e h =>
 br (e.s k70 22) (sq (some ⟨.nm, ⟨[(e.s k70 0), (.int .i64 15), (e.s k70 3)], 2, (.int .i64 15)⟩, h⟩) fun e h =>
 some ⟨.rt, e, h⟩)
 (sq (bd (binK 0 .eql (e.s k70 3) (.int .i64 81)) fun t25 =>
 some ⟨.nm, ⟨[(e.s k70 0), (e.s k70 2), (e.s k70 3)], 24, t25⟩, h⟩) fun e h =>
 br (e.s k70 24) (sq (some ⟨.nm, ⟨[(e.s k70 0), (.int .i64 11), (e.s k70 3)], 2, (.int .i64 11)⟩, h⟩) fun e h =>
 some ⟨.rt, e, h⟩)
 (sq (bd (binK 0 .eql (e.s k70 3) (.int .i64 84)) fun t27 =>
 some ⟨.nm, ⟨[(e.s k70 0), (e.s k70 2), (e.s k70 3)], 26, t27⟩, h⟩) fun e h =>
 br (e.s k70 26) (sq (some ⟨.nm, ⟨[(e.s k70 0), (.int .i64 7), (e.s k70 3)], 2, (.int .i64 7)⟩, h⟩) fun e h =>
 some ⟨.rt, e, h⟩)
 (some ⟨.nm, e, h⟩)))))))))))))) fun e h =>
 sq (some ⟨.nm, ⟨[(e.s k70 0), (.int .i64 3), (e.s k70 3)], 2, (.int .i64 3)⟩, h⟩) fun e h =>
 some ⟨.rt, e, h⟩
noncomputable def f70 (K : Oracle) (L : Looper) (p0 : V) (h : H) : Option (Rv × H) := fin Try.prog k70 [.tmp 2] (s70 K L ⟨[p0, V.und, V.und], 0, p0⟩ h)
theorem r70 : (fun K L p0 h => runFF Try.prog kp K L 70 [p0] h) = f70 := by kernel_rfl
theorem c70 (p0 : V) (h : H) : callZ Try.prog kp 70 [p0] h = f70 (callZ Try.prog kp) loopZ p0 h :=
  (callZ_eqF _ _ _ _ _).trans (congrFun (congrFun (congrFun (congrFun (r70) _) _) p0) h)

/-- zoetrope/intra.kept$1 -/
@[simp] def k71 : List Nat := [0, 1, 3]
noncomputable def s71 (K : Oracle) (L : Looper) (e : E) (h : H) : Out :=
 sq (some ⟨.nm, ⟨[(e.s k71 0), (e.s k71 1), (.int .i64 0)], 3, (.int .i64 0)⟩, h⟩) fun e h =>
 sq (bd (ld h (e.s k71 1)) fun t4 =>
 bd (binK 0 .add (e.s k71 0) (.int .i64 2)) fun t6 =>
 bd (maxV [t6, (.int .i64 0)]) fun t7 =>
 bd (ld h (e.s k71 1)) fun t8 =>
 bd (lnS t8) fun t9 =>
 bd (binK 0 .sub t9 (.int .i64 1)) fun t10 =>
 bd (minV [t7, t10]) fun t11 =>
 bd (iaS 1 t4 t11) fun t12 =>
 bd (ld h t12) fun t13 =>
 some ⟨.nm, ⟨[(e.s k71 0), (e.s k71 1), t13], 3, t13⟩, h⟩) fun e h =>
 some ⟨.rt, e, h⟩
noncomputable def f71 (K : Oracle) (L : Looper) (p0 p1 : V) (h : H) : Option (Rv × H) := fin Try.prog k71 [.tmp 3] (s71 K L ⟨[p0, p1, V.und], 0, p0⟩ h)
theorem r71 : (fun K L p0 p1 h => runFF Try.prog kp K L 71 [p0, p1] h) = f71 := by kernel_rfl
theorem c71 (p0 p1 : V) (h : H) : callZ Try.prog kp 71 [p0, p1] h = f71 (callZ Try.prog kp) loopZ p0 p1 h :=
  (callZ_eqF _ _ _ _ _).trans (congrFun (congrFun (congrFun (congrFun (congrFun (r71) _) _) p0) p1) h)


end Go.Proofs.Ytpjcmgmmolediaa
