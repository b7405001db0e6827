/- The functions of the cut, printed by a program of ours: each is shown to be the interpreter's run. -/
import Derived.Test.YtpjcmgmmolediaaKp
set_option linter.unusedVariables false
set_option linter.unusedSimpArgs false
namespace Go.Proofs.Ytpjcmgmmolediaa
open Go Go.Zf
/-- gosem.cut.init -/
@[simp] def k2 : List Nat := []
noncomputable def s2 (K : Oracle) (L : Looper) (e : E) (h : H) : Out :=
 bc k2 [0] e (K 1 [] h) fun t0 h1 =>
 some ⟨.nm, ⟨[], 0, t0⟩, h1⟩
noncomputable def f2 (K : Oracle) (L : Looper) (h : H) : Option (Rv × H) := fin Try.prog k2 [] (s2 K L ⟨[], 0, V.und⟩ h)
theorem r2 : (fun K L h => runFF Try.prog kp K L 2 [] h) = f2 := by kernel_rfl
theorem c2 (h : H) : callZ Try.prog kp 2 [] h = f2 (callZ Try.prog kp) loopZ h :=
  (callZ_eqF _ _ _ _ _).trans (congrFun (congrFun (congrFun (r2) _) _) h)

/-- zoetrope/zoetropelaw12.IntraPredicts -/
@[simp] def k3 : List Nat := [0, 1, 2, 4, 5, 6, 7, 8, 9, 10, 11, 12]
noncomputable def l3_0 (K : Oracle) (L : Looper) (e : E) (h : H) : Out :=
 sq (sq (bd (lnS (e.s k3 8)) fun t53 =>
 bd (binK 0 .lss (e.s k3 12) t53) fun t54 =>
 some ⟨.nm, ⟨[(e.s k3 0), (e.s k3 1), (e.s k3 2), (e.s k3 4), (e.s k3 5), (e.s k3 6), (e.s k3 7), (e.s k3 8), (e.s k3 9), (e.s k3 10), (e.s k3 11), (e.s k3 12)], 54, t54⟩, h⟩) fun e h =>
 br (e.s k3 54) (some ⟨.nm, e, h⟩)
 (some ⟨.ex 0, e, h⟩)) fun e h =>
 sq (blk 1 (bd (iaS 1 (e.s k3 8) (e.s k3 12)) fun t61 =>
 bd (ld h t61) fun t62 =>
 bd (binK 0 .xor t62 (.int .u8 255)) fun t63 =>
 bd (iaS 1 (e.s k3 8) (e.s k3 12)) fun t64 =>
 bf (stZ 1 h t64 t63) fun _ h1 =>
 some ⟨.nm, ⟨[(e.s k3 0), (e.s k3 1), (e.s k3 2), (e.s k3 4), (e.s k3 5), (e.s k3 6), (e.s k3 7), (e.s k3 8), (e.s k3 9), (e.s k3 10), (e.s k3 11), (e.s k3 12)], 0, (e.s k3 0)⟩, h1⟩)) fun e h =>
 bd (binK 0 .add (e.s k3 12) (.int .i64 1)) fun t56 =>
 some ⟨.nm, ⟨[(e.s k3 0), (e.s k3 1), (e.s k3 2), (e.s k3 4), (e.s k3 5), (e.s k3 6), (e.s k3 7), (e.s k3 8), (e.s k3 9), (e.s k3 10), (e.s k3 11), t56], 12, t56⟩, h⟩
noncomputable def s3 (K : Oracle) (L : Looper) (e : E) (h : H) : Out :=
 sq (bf (bx h 22 (e.s k3 1)) fun t4 h1 =>
 bf (bx h1 25 (e.s k3 2)) fun t5 h2 =>
 some ⟨.nm, ⟨[(e.s k3 0), (e.s k3 1), (e.s k3 2), t4, t5, (.bool false), (e.s k3 7), (e.s k3 8), (e.s k3 9), (e.s k3 10), (e.s k3 11), (e.s k3 12)], 6, (.bool false)⟩, h2⟩) fun e h =>
 sq (bd (ldn 5 h (e.s k3 5)) fun t13 =>
 bc k3 [13, 14, 7] e (K 11 [t13] h) fun t14 h1 =>
 bf (nw h1 25 [(.bool false), (.bool false), .nils, .nils, (.int .u8 0)]) fun t7 h2 =>
 bf (stZ 5 h2 t7 t14) fun _ h3 =>
 some ⟨.nm, ⟨[(e.s k3 0), (e.s k3 1), (e.s k3 2), (e.s k3 4), (e.s k3 5), (e.s k3 6), t7, (e.s k3 8), (e.s k3 9), (e.s k3 10), (e.s k3 11), (e.s k3 12)], 0, (e.s k3 0)⟩, h3⟩) fun e h =>
 sq (sq (bd (ldn 5 h (e.s k3 7)) fun t16 =>
 bn (K 12 [(e.s k3 0), t16] h) fun t17 h1 =>
 bd (ldn 5 h1 (e.s k3 5)) fun t19 =>
 bn (K 13 [(e.s k3 0), t19] h1) fun t20 h2 =>
 bd (binK 0 .neq t17 t20) fun t21 =>
 ck (ldn 5 h (e.s k3 7)) t16 (ck (ldn 5 h (e.s k3 5)) t19 (ck (ldn 5 h1 (e.s k3 5)) t19 (some ⟨.nm, ⟨[(e.s k3 0), (e.s k3 1), (e.s k3 2), (e.s k3 4), (e.s k3 5), (e.s k3 6), (e.s k3 7), (e.s k3 8), (e.s k3 9), (e.s k3 10), (e.s k3 11), (e.s k3 12)], 21, t21⟩, h2⟩)))) fun e h =>
 br (e.s k3 21) (sq (some ⟨.nm, ⟨[(e.s k3 0), (e.s k3 1), (e.s k3 2), (e.s k3 4), (e.s k3 5), (.bool false), (e.s k3 7), (e.s k3 8), (e.s k3 9), (e.s k3 10), (e.s k3 11), (e.s k3 12)], 6, (.bool false)⟩, h⟩) fun e h =>
 some ⟨.rt, e, h⟩)
 (some ⟨.nm, e, h⟩)) fun e h =>
 sq (bd (iaA 2 1 (e.s k3 4) (.int .i64 0)) fun t24 =>
 bd (ld h t24) fun t25 =>
 bd (iaA 2 1 (e.s k3 4) (.int .i64 1)) fun t26 =>
 bd (ld h t26) fun t27 =>
 bd (ldn 5 h (e.s k3 7)) fun t28 =>
 bc k3 [23, 24, 25, 26, 27, 28, 29, 22, 30, 31, 8, 9] e (K 14 [(e.s k3 0), t25, t27, t28] h) fun t29 h1 =>
 bd (exV t29 0) fun t30 =>
 bd (exV t29 1) fun t31 =>
 some ⟨.nm, ⟨[(e.s k3 0), (e.s k3 1), (e.s k3 2), (e.s k3 4), (e.s k3 5), (e.s k3 6), (e.s k3 7), t30, t31, (e.s k3 10), (e.s k3 11), (e.s k3 12)], 9, t31⟩, h1⟩) fun e h =>
 sq (bd (iaA 2 1 (e.s k3 4) (.int .i64 0)) fun t34 =>
 bd (ld h t34) fun t35 =>
 bd (iaA 2 1 (e.s k3 4) (.int .i64 1)) fun t36 =>
 bd (ld h t36) fun t37 =>
 bd (ldn 5 h (e.s k3 5)) fun t38 =>
 bc k3 [33, 34, 35, 36, 37, 38, 39, 32, 40, 41, 10, 11] e (K 15 [(e.s k3 0), t35, t37, t38] h) fun t39 h1 =>
 bd (exV t39 0) fun t40 =>
 bd (exV t39 1) fun t41 =>
 some ⟨.nm, ⟨[(e.s k3 0), (e.s k3 1), (e.s k3 2), (e.s k3 4), (e.s k3 5), (e.s k3 6), (e.s k3 7), (e.s k3 8), (e.s k3 9), t40, t41, (e.s k3 12)], 11, t41⟩, h1⟩) fun e h =>
 sq (sq (bd (binK 0 .neq (e.s k3 9) (e.s k3 11)) fun t44 =>
 bd (gl t44 false (some (e.s k3 8))) fun t46 =>
 bd (gl t44 false (some (e.s k3 10))) fun t47 =>
 bc k3 [42, 43, 44, 45, 46, 47, 48, 49, 50] e (gk t44 false h (K 16 [t46, t47] h)) fun t48 h1 =>
 bd (gl t44 false (unV .not t48)) fun t49 =>
 bd (pk t44 (.bool true) t49) fun t50 =>
 some ⟨.nm, ⟨[(e.s k3 0), (e.s k3 1), (e.s k3 2), (e.s k3 4), (e.s k3 5), (e.s k3 6), (e.s k3 7), (e.s k3 8), (e.s k3 9), (e.s k3 10), (e.s k3 11), (e.s k3 12)], 50, t50⟩, h1⟩) fun e h =>
 br (e.s k3 50) (sq (some ⟨.nm, ⟨[(e.s k3 0), (e.s k3 1), (e.s k3 2), (e.s k3 4), (e.s k3 5), (.bool false), (e.s k3 7), (e.s k3 8), (e.s k3 9), (e.s k3 10), (e.s k3 11), (e.s k3 12)], 6, (.bool false)⟩, h⟩) fun e h =>
 some ⟨.rt, e, h⟩)
 (some ⟨.nm, e, h⟩)) fun e h =>
 sq (sq (some ⟨.nm, ⟨[(e.s k3 0), (e.s k3 1), (e.s k3 2), (e.s k3 4), (e.s k3 5), (e.s k3 6), (e.s k3 7), (e.s k3 8), (e.s k3 9), (e.s k3 10), (e.s k3 11), (.int .i64 0)], 12, (.int .i64 0)⟩, h⟩) fun e h =>
 blk 0 (L (l3_0 K L) e h)) fun e h =>
 sq (bd (fa 2 (e.s k3 7)) fun t65 =>
 bd (ld h t65) fun t66 =>
 bd (fa 2 (e.s k3 5)) fun t67 =>
 bd (ld h t67) fun t68 =>
 bc k3 [65, 66, 67, 68, 69, 70, 71, 72, 73, 74, 75, 76, 77, 78, 79, 6] e (K 16 [t66, t68] h) fun t69 h1 =>
 bd (gl t69 true (fa 3 (e.s k3 7))) fun t71 =>
 bd (gl t69 true (ld h1 t71)) fun t72 =>
 bd (gl t69 true (fa 3 (e.s k3 5))) fun t73 =>
 bd (gl t69 true (ld h1 t73)) fun t74 =>
 bc k3 [65, 66, 67, 68, 69, 70, 71, 72, 73, 74, 75, 76, 77, 78, 79, 6] e (gk t69 true h1 (K 16 [t72, t74] h1)) fun t75 h2 =>
 bd (pk t69 t75 (.bool false)) fun t76 =>
 bc k3 [65, 66, 67, 68, 69, 70, 71, 72, 73, 74, 75, 76, 77, 78, 79, 6] e (gk t76 true h2 (K 17 [] h2)) fun t78 h3 =>
 bd (pk t76 t78 (.bool false)) fun t79 =>
 some ⟨.nm, ⟨[(e.s k3 0), (e.s k3 1), (e.s k3 2), (e.s k3 4), (e.s k3 5), t79, (e.s k3 7), (e.s k3 8), (e.s k3 9), (e.s k3 10), (e.s k3 11), (e.s k3 12)], 6, t79⟩, h3⟩) fun e h =>
 some ⟨.rt, e, h⟩
noncomputable def f3 (K : Oracle) (L : Looper) (p0 p1 p2 : V) (h : H) : Option (Rv × H) := fin Try.prog k3 [.tmp 6] (s3 K L ⟨[p0, p1, p2, V.und, V.und, V.und, V.und, V.und, V.und, V.und, V.und, V.und], 0, p0⟩ h)
theorem r3 : (fun K L p0 p1 p2 h => runFF Try.prog kp K L 3 [p0, p1, p2] h) = f3 := by kernel_rfl
theorem c3 (p0 p1 p2 : V) (h : H) : callZ Try.prog kp 3 [p0, p1, p2] h = f3 (callZ Try.prog kp) loopZ p0 p1 p2 h :=
  (callZ_eqF _ _ _ _ _).trans (congrFun (congrFun (congrFun (congrFun (congrFun (congrFun (r3) _) _) p0) p1) p2) h)

/-- zoetrope/zoetropelaw12.IntraAll -/
@[simp] def k4 : List Nat := [0, 1, 2, 4, 5, 6, 7, 8, 9, 10, 11]
noncomputable def l4_0 (K : Oracle) (L : Looper) (e : E) (h : H) : Out :=
 sq (sq (bd (binK 0 .lss (e.s k4 7) (.int .i64 5)) fun t25 =>
 some ⟨.nm, ⟨[(e.s k4 0), (e.s k4 1), (e.s k4 2), (e.s k4 4), (e.s k4 5), (e.s k4 6), (e.s k4 7), (e.s k4 8), (e.s k4 9), (e.s k4 10), (e.s k4 11)], 25, t25⟩, h⟩) fun e h =>
 br (e.s k4 25) (some ⟨.nm, e, h⟩)
 (some ⟨.ex 2, e, h⟩)) fun e h =>
 sq (blk 3 (sq (bd (ldn 5 h (e.s k4 2)) fun t32 =>
 bc k4 [29, 30, 31, 32, 33, 28, 34, 35, 8, 9] e (K 14 [(e.s k4 5), (e.s k4 6), (e.s k4 7), t32] h) fun t33 h1 =>
 bd (exV t33 0) fun t34 =>
 bd (exV t33 1) fun t35 =>
 some ⟨.nm, ⟨[(e.s k4 0), (e.s k4 1), (e.s k4 2), (e.s k4 4), (e.s k4 5), (e.s k4 6), (e.s k4 7), t34, t35, (e.s k4 10), (e.s k4 11)], 9, t35⟩, h1⟩) fun e h =>
 sq (bd (ldn 5 h (e.s k4 2)) fun t40 =>
 bc k4 [37, 38, 39, 40, 41, 36, 42, 43, 10, 11] e (K 15 [(e.s k4 5), (e.s k4 6), (e.s k4 7), t40] h) fun t41 h1 =>
 bd (exV t41 0) fun t42 =>
 bd (exV t41 1) fun t43 =>
 some ⟨.nm, ⟨[(e.s k4 0), (e.s k4 1), (e.s k4 2), (e.s k4 4), (e.s k4 5), (e.s k4 6), (e.s k4 7), (e.s k4 8), (e.s k4 9), t42, t43], 11, t43⟩, h1⟩) fun e h =>
 sq (bd (binK 0 .neq (e.s k4 9) (e.s k4 11)) fun t46 =>
 bd (gl t46 false (some (e.s k4 8))) fun t48 =>
 bd (gl t46 false (some (e.s k4 10))) fun t49 =>
 bc k4 [44, 45, 46, 47, 48, 49, 50, 51, 52] e (gk t46 false h (K 16 [t48, t49] h)) fun t50 h1 =>
 bd (gl t46 false (unV .not t50)) fun t51 =>
 bd (pk t46 (.bool true) t51) fun t52 =>
 some ⟨.nm, ⟨[(e.s k4 0), (e.s k4 1), (e.s k4 2), (e.s k4 4), (e.s k4 5), (e.s k4 6), (e.s k4 7), (e.s k4 8), (e.s k4 9), (e.s k4 10), (e.s k4 11)], 52, t52⟩, h1⟩) fun e h =>
 br (e.s k4 52) (sq (some ⟨.nm, ⟨[(e.s k4 0), (e.s k4 1), (e.s k4 2), (.bool false), (e.s k4 5), (e.s k4 6), (e.s k4 7), (e.s k4 8), (e.s k4 9), (e.s k4 10), (e.s k4 11)], 4, (.bool false)⟩, h⟩) fun e h =>
 some ⟨.rt, e, h⟩)
 (some ⟨.nm, e, h⟩))) fun e h =>
 bd (binK 0 .add (e.s k4 7) (.int .i64 1)) fun t27 =>
 some ⟨.nm, ⟨[(e.s k4 0), (e.s k4 1), (e.s k4 2), (e.s k4 4), (e.s k4 5), (e.s k4 6), t27, (e.s k4 8), (e.s k4 9), (e.s k4 10), (e.s k4 11)], 7, t27⟩, h⟩
noncomputable def l4_1 (K : Oracle) (L : Looper) (e : E) (h : H) : Out :=
 sq (sq (bd (binK 0 .lss (e.s k4 6) (.int .i64 15)) fun t21 =>
 some ⟨.nm, ⟨[(e.s k4 0), (e.s k4 1), (e.s k4 2), (e.s k4 4), (e.s k4 5), (e.s k4 6), (e.s k4 7), (e.s k4 8), (e.s k4 9), (e.s k4 10), (e.s k4 11)], 21, t21⟩, h⟩) fun e h =>
 br (e.s k4 21) (some ⟨.nm, e, h⟩)
 (some ⟨.ex 0, e, h⟩)) fun e h =>
 sq (blk 1 (sq (some ⟨.nm, ⟨[(e.s k4 0), (e.s k4 1), (e.s k4 2), (e.s k4 4), (e.s k4 5), (e.s k4 6), (.int .i64 (-4)), (e.s k4 8), (e.s k4 9), (e.s k4 10), (e.s k4 11)], 7, (.int .i64 (-4))⟩, h⟩) fun e h =>
 blk 2 (L (l4_0 K L) e h))) fun e h =>
 bd (binK 0 .add (e.s k4 6) (.int .i64 1)) fun t23 =>
 some ⟨.nm, ⟨[(e.s k4 0), (e.s k4 1), (e.s k4 2), (e.s k4 4), (e.s k4 5), t23, (e.s k4 7), (e.s k4 8), (e.s k4 9), (e.s k4 10), (e.s k4 11)], 6, t23⟩, h⟩
noncomputable def s4 (K : Oracle) (L : Looper) (e : E) (h : H) : Out :=
 sq (bf (bx h 25 (e.s k4 0)) fun t2 h1 =>
 some ⟨.nm, ⟨[(e.s k4 0), (e.s k4 1), t2, (.bool false), (e.s k4 5), (e.s k4 6), (e.s k4 7), (e.s k4 8), (e.s k4 9), (e.s k4 10), (e.s k4 11)], 4, (.bool false)⟩, h1⟩) fun e h =>
 sq (bf (bs h 3 3 [(.int .i64 0), (.int .i64 0), (.int .i64 0)] [(some (0, 1), (.int .i64 4)), (some (1, 1), (.int .i64 8)), (some (2, 1), (.int .i64 16))]) fun t12 h1 =>
 bc k4 [12, 13, 14, 15, 16, 5] e (K 18 [(e.s k4 1), (.int .i64 3)] h1) fun t14 h2 =>
 bd (iaS 1 t12 t14) fun t15 =>
 bd (ld h2 t15) fun t16 =>
 some ⟨.nm, ⟨[(e.s k4 0), (e.s k4 1), (e.s k4 2), (e.s k4 4), t16, (e.s k4 6), (e.s k4 7), (e.s k4 8), (e.s k4 9), (e.s k4 10), (e.s k4 11)], 5, t16⟩, h2⟩) fun e h =>
 sq (bd (ldn 5 h (e.s k4 2)) fun t17 =>
 bc k4 [17, 18, 19] e (K 19 [t17, (e.s k4 5)] h) fun t19 h1 =>
 bf (stZ 5 h1 (e.s k4 2) t19) fun _ h2 =>
 some ⟨.nm, ⟨[(e.s k4 0), (e.s k4 1), (e.s k4 2), (e.s k4 4), (e.s k4 5), (e.s k4 6), (e.s k4 7), (e.s k4 8), (e.s k4 9), (e.s k4 10), (e.s k4 11)], 0, (e.s k4 0)⟩, h2⟩) fun e h =>
 sq (sq (some ⟨.nm, ⟨[(e.s k4 0), (e.s k4 1), (e.s k4 2), (e.s k4 4), (e.s k4 5), (.int .i64 (-1)), (e.s k4 7), (e.s k4 8), (e.s k4 9), (e.s k4 10), (e.s k4 11)], 6, (.int .i64 (-1))⟩, h⟩) fun e h =>
 blk 0 (L (l4_1 K L) e h)) fun e h =>
 sq (bc k4 [53, 4] e (K 17 [] h) fun t53 h1 =>
 some ⟨.nm, ⟨[(e.s k4 0), (e.s k4 1), (e.s k4 2), t53, (e.s k4 5), (e.s k4 6), (e.s k4 7), (e.s k4 8), (e.s k4 9), (e.s k4 10), (e.s k4 11)], 4, t53⟩, h1⟩) fun e h =>
 some ⟨.rt, e, h⟩
noncomputable def f4 (K : Oracle) (L : Looper) (p0 p1 : V) (h : H) : Option (Rv × H) := fin Try.prog k4 [.tmp 4] (s4 K L ⟨[p0, p1, V.und, V.und, V.und, V.und, V.und, V.und, V.und, V.und, V.und], 0, p0⟩ h)
theorem r4 : (fun K L p0 p1 h => runFF Try.prog kp K L 4 [p0, p1] h) = f4 := by kernel_rfl
theorem c4 (p0 p1 : V) (h : H) : callZ Try.prog kp 4 [p0, p1] h = f4 (callZ Try.prog kp) loopZ p0 p1 h :=
  (callZ_eqF _ _ _ _ _).trans (congrFun (congrFun (congrFun (congrFun (congrFun (r4) _) _) p0) p1) h)

/-- zoetrope/zoetropelaw12.IntraAngles -/
@[simp] def k5 : List Nat := [0, 1, 4, 5, 6, 7, 8, 9, 10, 11, 12, 13, 14]
noncomputable def l5_0 (K : Oracle) (L : Looper) (e : E) (h : H) : Out :=
 sq (sq (bd (binK 0 .lss (e.s k5 6) (.int .i64 5)) fun t20 =>
 some ⟨.nm, ⟨[(e.s k5 0), (e.s k5 1), (e.s k5 4), (e.s k5 5), (e.s k5 6), (e.s k5 7), (e.s k5 8), (e.s k5 9), (e.s k5 10), (e.s k5 11), (e.s k5 12), (e.s k5 13), (e.s k5 14)], 20, t20⟩, h⟩) fun e h =>
 br (e.s k5 20) (some ⟨.nm, e, h⟩)
 (some ⟨.ex 2, e, h⟩)) fun e h =>
 sq (blk 3 (sq (bc k5 [24, 25, 26, 23, 27, 28, 7, 8] e (K 20 [(e.s k5 5), (e.s k5 6)] h) fun t26 h1 =>
 bd (exV t26 0) fun t27 =>
 bd (exV t26 1) fun t28 =>
 some ⟨.nm, ⟨[(e.s k5 0), (e.s k5 1), (e.s k5 4), (e.s k5 5), (e.s k5 6), t27, t28, (e.s k5 9), (e.s k5 10), (e.s k5 11), (e.s k5 12), (e.s k5 13), (e.s k5 14)], 8, t28⟩, h1⟩) fun e h =>
 sq (bc k5 [30, 31, 32, 29, 33, 34, 9, 10] e (K 21 [(e.s k5 5), (e.s k5 6)] h) fun t32 h1 =>
 bd (exV t32 0) fun t33 =>
 bd (exV t32 1) fun t34 =>
 some ⟨.nm, ⟨[(e.s k5 0), (e.s k5 1), (e.s k5 4), (e.s k5 5), (e.s k5 6), (e.s k5 7), (e.s k5 8), t33, t34, (e.s k5 11), (e.s k5 12), (e.s k5 13), (e.s k5 14)], 10, t34⟩, h1⟩) fun e h =>
 sq (bd (binK 0 .neq (e.s k5 7) (e.s k5 9)) fun t37 =>
 bd (gl t37 false (some (e.s k5 8))) fun t39 =>
 bd (gl t37 false (some (e.s k5 10))) fun t40 =>
 bd (gl t37 false (binK 1 .neq t39 t40)) fun t41 =>
 bd (pk t37 (.bool true) t41) fun t42 =>
 some ⟨.nm, ⟨[(e.s k5 0), (e.s k5 1), (e.s k5 4), (e.s k5 5), (e.s k5 6), (e.s k5 7), (e.s k5 8), (e.s k5 9), (e.s k5 10), (e.s k5 11), (e.s k5 12), (e.s k5 13), (e.s k5 14)], 42, t42⟩, h⟩) fun e h =>
 br (e.s k5 42) (sq (some ⟨.nm, ⟨[(e.s k5 0), (e.s k5 1), (.bool false), (e.s k5 5), (e.s k5 6), (e.s k5 7), (e.s k5 8), (e.s k5 9), (e.s k5 10), (e.s k5 11), (e.s k5 12), (e.s k5 13), (e.s k5 14)], 4, (.bool false)⟩, h⟩) fun e h =>
 some ⟨.rt, e, h⟩)
 (some ⟨.nm, e, h⟩))) fun e h =>
 bd (binK 0 .add (e.s k5 6) (.int .i64 1)) fun t22 =>
 some ⟨.nm, ⟨[(e.s k5 0), (e.s k5 1), (e.s k5 4), (e.s k5 5), t22, (e.s k5 7), (e.s k5 8), (e.s k5 9), (e.s k5 10), (e.s k5 11), (e.s k5 12), (e.s k5 13), (e.s k5 14)], 6, t22⟩, h⟩
noncomputable def l5_1 (K : Oracle) (L : Looper) (e : E) (h : H) : Out :=
 sq (sq (bd (binK 0 .lss (e.s k5 5) (.int .i64 15)) fun t16 =>
 some ⟨.nm, ⟨[(e.s k5 0), (e.s k5 1), (e.s k5 4), (e.s k5 5), (e.s k5 6), (e.s k5 7), (e.s k5 8), (e.s k5 9), (e.s k5 10), (e.s k5 11), (e.s k5 12), (e.s k5 13), (e.s k5 14)], 16, t16⟩, h⟩) fun e h =>
 br (e.s k5 16) (some ⟨.nm, e, h⟩)
 (some ⟨.ex 0, e, h⟩)) fun e h =>
 sq (blk 1 (sq (some ⟨.nm, ⟨[(e.s k5 0), (e.s k5 1), (e.s k5 4), (e.s k5 5), (.int .i64 (-4)), (e.s k5 7), (e.s k5 8), (e.s k5 9), (e.s k5 10), (e.s k5 11), (e.s k5 12), (e.s k5 13), (e.s k5 14)], 6, (.int .i64 (-4))⟩, h⟩) fun e h =>
 blk 2 (L (l5_0 K L) e h))) fun e h =>
 bd (binK 0 .add (e.s k5 5) (.int .i64 1)) fun t18 =>
 some ⟨.nm, ⟨[(e.s k5 0), (e.s k5 1), (e.s k5 4), t18, (e.s k5 6), (e.s k5 7), (e.s k5 8), (e.s k5 9), (e.s k5 10), (e.s k5 11), (e.s k5 12), (e.s k5 13), (e.s k5 14)], 5, t18⟩, h⟩
noncomputable def s5 (K : Oracle) (L : Looper) (e : E) (h : H) : Out :=
 sq (some ⟨.nm, ⟨[(e.s k5 0), (e.s k5 1), (.bool false), (e.s k5 5), (e.s k5 6), (e.s k5 7), (e.s k5 8), (e.s k5 9), (e.s k5 10), (e.s k5 11), (e.s k5 12), (e.s k5 13), (e.s k5 14)], 4, (.bool false)⟩, h⟩) fun e h =>
 sq (sq (some ⟨.nm, ⟨[(e.s k5 0), (e.s k5 1), (e.s k5 4), (.int .i64 (-1)), (e.s k5 6), (e.s k5 7), (e.s k5 8), (e.s k5 9), (e.s k5 10), (e.s k5 11), (e.s k5 12), (e.s k5 13), (e.s k5 14)], 5, (.int .i64 (-1))⟩, h⟩) fun e h =>
 blk 0 (L (l5_1 K L) e h)) fun e h =>
 sq (bc k5 [44, 45, 46, 43, 47, 48, 11, 12] e (K 20 [(e.s k5 0), (e.s k5 1)] h) fun t46 h1 =>
 bd (exV t46 0) fun t47 =>
 bd (exV t46 1) fun t48 =>
 some ⟨.nm, ⟨[(e.s k5 0), (e.s k5 1), (e.s k5 4), (e.s k5 5), (e.s k5 6), (e.s k5 7), (e.s k5 8), (e.s k5 9), (e.s k5 10), t47, t48, (e.s k5 13), (e.s k5 14)], 12, t48⟩, h1⟩) fun e h =>
 sq (bc k5 [50, 51, 52, 49, 53, 54, 13, 14] e (K 21 [(e.s k5 0), (e.s k5 1)] h) fun t52 h1 =>
 bd (exV t52 0) fun t53 =>
 bd (exV t52 1) fun t54 =>
 some ⟨.nm, ⟨[(e.s k5 0), (e.s k5 1), (e.s k5 4), (e.s k5 5), (e.s k5 6), (e.s k5 7), (e.s k5 8), (e.s k5 9), (e.s k5 10), (e.s k5 11), (e.s k5 12), t53, t54], 14, t54⟩, h1⟩) fun e h =>
 sq (bd (binK 0 .eql (e.s k5 11) (e.s k5 13)) fun t57 =>
 bd (gl t57 true (some (e.s k5 12))) fun t59 =>
 bd (gl t57 true (some (e.s k5 14))) fun t60 =>
 bd (gl t57 true (binK 1 .eql t59 t60)) fun t61 =>
 bd (pk t57 t61 (.bool false)) fun t62 =>
 bc k5 [55, 56, 57, 58, 59, 60, 61, 62, 63, 64, 65, 4] e (gk t62 true h (K 17 [] h)) fun t64 h1 =>
 bd (pk t62 t64 (.bool false)) fun t65 =>
 some ⟨.nm, ⟨[(e.s k5 0), (e.s k5 1), t65, (e.s k5 5), (e.s k5 6), (e.s k5 7), (e.s k5 8), (e.s k5 9), (e.s k5 10), (e.s k5 11), (e.s k5 12), (e.s k5 13), (e.s k5 14)], 4, t65⟩, h1⟩) fun e h =>
 some ⟨.rt, e, h⟩
noncomputable def f5 (K : Oracle) (L : Looper) (p0 p1 : V) (h : H) : Option (Rv × H) := fin Try.prog k5 [.tmp 4] (s5 K L ⟨[p0, p1, V.und, V.und, V.und, V.und, V.und, V.und, V.und, V.und, V.und, V.und, V.und], 0, p0⟩ h)
theorem r5 : (fun K L p0 p1 h => runFF Try.prog kp K L 5 [p0, p1] h) = f5 := by kernel_rfl
theorem c5 (p0 p1 : V) (h : H) : callZ Try.prog kp 5 [p0, p1] h = f5 (callZ Try.prog kp) loopZ p0 p1 h :=
  (callZ_eqF _ _ _ _ _).trans (congrFun (congrFun (congrFun (congrFun (congrFun (r5) _) _) p0) p1) h)

/-- zoetrope/zoetropelaw12.IntraFlat -/
@[simp] def k6 : List Nat := [0, 1, 2, 5, 6, 7, 8, 9, 10, 11, 12, 13]
noncomputable def l6_0 (K : Oracle) (L : Looper) (e : E) (h : H) : Out :=
 sq (sq (bd (binK 0 .mul (e.s k6 7) (e.s k6 7)) fun t80 =>
 bd (binK 0 .lss (e.s k6 13) t80) fun t81 =>
 some ⟨.nm, ⟨[(e.s k6 0), (e.s k6 1), (e.s k6 2), (e.s k6 5), (e.s k6 6), (e.s k6 7), (e.s k6 8), (e.s k6 9), (e.s k6 10), (e.s k6 11), (e.s k6 12), (e.s k6 13)], 81, t81⟩, h⟩) fun e h =>
 br (e.s k6 81) (some ⟨.nm, e, h⟩)
 (some ⟨.ex 4, e, h⟩)) fun e h =>
 sq (blk 5 (sq (bd (iaS 1 (e.s k6 11) (e.s k6 13)) fun t86 =>
 bd (ld h t86) fun t87 =>
 bd (binK 0 .neq t87 (e.s k6 0)) fun t89 =>
 some ⟨.nm, ⟨[(e.s k6 0), (e.s k6 1), (e.s k6 2), (e.s k6 5), (e.s k6 6), (e.s k6 7), (e.s k6 8), (e.s k6 9), (e.s k6 10), (e.s k6 11), (e.s k6 12), (e.s k6 13)], 89, t89⟩, h⟩) fun e h =>
 br (e.s k6 89) (sq (some ⟨.nm, ⟨[(e.s k6 0), (e.s k6 1), (e.s k6 2), (e.s k6 5), (.bool false), (e.s k6 7), (e.s k6 8), (e.s k6 9), (e.s k6 10), (e.s k6 11), (e.s k6 12), (e.s k6 13)], 6, (.bool false)⟩, h⟩) fun e h =>
 some ⟨.rt, e, h⟩)
 (some ⟨.nm, e, h⟩))) fun e h =>
 bd (binK 0 .add (e.s k6 13) (.int .i64 1)) fun t83 =>
 some ⟨.nm, ⟨[(e.s k6 0), (e.s k6 1), (e.s k6 2), (e.s k6 5), (e.s k6 6), (e.s k6 7), (e.s k6 8), (e.s k6 9), (e.s k6 10), (e.s k6 11), (e.s k6 12), t83], 13, t83⟩, h⟩
noncomputable def l6_1 (K : Oracle) (L : Looper) (e : E) (h : H) : Out :=
 sq (sq (bd (binK 0 .lss (e.s k6 10) (.int .i64 4)) fun t43 =>
 some ⟨.nm, ⟨[(e.s k6 0), (e.s k6 1), (e.s k6 2), (e.s k6 5), (e.s k6 6), (e.s k6 7), (e.s k6 8), (e.s k6 9), (e.s k6 10), (e.s k6 11), (e.s k6 12), (e.s k6 13)], 43, t43⟩, h⟩) fun e h =>
 br (e.s k6 43) (some ⟨.nm, e, h⟩)
 (some ⟨.ex 2, e, h⟩)) fun e h =>
 sq (blk 3 (sq (sq (bc k6 [46, 47, 48, 49, 50, 51, 52, 53, 54, 55, 56, 57, 58] e (K 22 [(e.s k6 9), (e.s k6 10)] h) fun t48 h1 =>
 bd (unV .not t48) fun t49 =>
 bd (gl t49 false (some (e.s k6 7))) fun t51 =>
 bd (gl t49 false (binK 0 .gtr t51 (.int .i64 16))) fun t52 =>
 bd (gl t49 false (some t52)) fun t53 =>
 bd (gl t53 true (some (e.s k6 10))) fun t54 =>
 bd (gl t53 true (binK 0 .rem t54 (.int .i64 3))) fun t55 =>
 bd (gl t53 true (binK 0 .neq t55 (.int .i64 0))) fun t56 =>
 bd (gl t49 false (pk t53 t56 (.bool false))) fun t57 =>
 bd (pk t49 (.bool true) t57) fun t58 =>
 some ⟨.nm, ⟨[(e.s k6 0), (e.s k6 1), (e.s k6 2), (e.s k6 5), (e.s k6 6), (e.s k6 7), (e.s k6 8), (e.s k6 9), (e.s k6 10), (e.s k6 11), (e.s k6 12), (e.s k6 13)], 58, t58⟩, h1⟩) fun e h =>
 br (e.s k6 58) (some ⟨.ex 3, e, h⟩)
 (some ⟨.nm, e, h⟩)) fun e h =>
 sq (bd (ldn 5 h (e.s k6 8)) fun t63 =>
 bc k6 [60, 61, 62, 63, 64, 59, 65, 66, 11, 12] e (K 14 [(e.s k6 7), (e.s k6 9), (e.s k6 10), t63] h) fun t64 h1 =>
 bd (exV t64 0) fun t65 =>
 bd (exV t64 1) fun t66 =>
 some ⟨.nm, ⟨[(e.s k6 0), (e.s k6 1), (e.s k6 2), (e.s k6 5), (e.s k6 6), (e.s k6 7), (e.s k6 8), (e.s k6 9), (e.s k6 10), t65, t66, (e.s k6 13)], 12, t66⟩, h1⟩) fun e h =>
 sq (sq (bd (binK 0 .neq (e.s k6 12) (.int .i64 0)) fun t68 =>
 bd (gl t68 false (some (e.s k6 11))) fun t70 =>
 bd (gl t68 false (lnS t70)) fun t71 =>
 bd (gl t68 false (some (e.s k6 7))) fun t72 =>
 bd (gl t68 false (some (e.s k6 7))) fun t73 =>
 bd (gl t68 false (binK 0 .mul t72 t73)) fun t74 =>
 bd (gl t68 false (binK 0 .neq t71 t74)) fun t75 =>
 bd (pk t68 (.bool true) t75) fun t76 =>
 some ⟨.nm, ⟨[(e.s k6 0), (e.s k6 1), (e.s k6 2), (e.s k6 5), (e.s k6 6), (e.s k6 7), (e.s k6 8), (e.s k6 9), (e.s k6 10), (e.s k6 11), (e.s k6 12), (e.s k6 13)], 76, t76⟩, h⟩) fun e h =>
 br (e.s k6 76) (sq (some ⟨.nm, ⟨[(e.s k6 0), (e.s k6 1), (e.s k6 2), (e.s k6 5), (.bool false), (e.s k6 7), (e.s k6 8), (e.s k6 9), (e.s k6 10), (e.s k6 11), (e.s k6 12), (e.s k6 13)], 6, (.bool false)⟩, h⟩) fun e h =>
 some ⟨.rt, e, h⟩)
 (some ⟨.nm, e, h⟩)) fun e h =>
 sq (some ⟨.nm, ⟨[(e.s k6 0), (e.s k6 1), (e.s k6 2), (e.s k6 5), (e.s k6 6), (e.s k6 7), (e.s k6 8), (e.s k6 9), (e.s k6 10), (e.s k6 11), (e.s k6 12), (.int .i64 0)], 13, (.int .i64 0)⟩, h⟩) fun e h =>
 blk 4 (L (l6_0 K L) e h))) fun e h =>
 bd (binK 0 .add (e.s k6 10) (.int .i64 1)) fun t45 =>
 some ⟨.nm, ⟨[(e.s k6 0), (e.s k6 1), (e.s k6 2), (e.s k6 5), (e.s k6 6), (e.s k6 7), (e.s k6 8), (e.s k6 9), t45, (e.s k6 11), (e.s k6 12), (e.s k6 13)], 10, t45⟩, h⟩
noncomputable def l6_2 (K : Oracle) (L : Looper) (e : E) (h : H) : Out :=
 sq (sq (bd (binK 0 .leq (e.s k6 9) (.int .i64 12)) fun t39 =>
 some ⟨.nm, ⟨[(e.s k6 0), (e.s k6 1), (e.s k6 2), (e.s k6 5), (e.s k6 6), (e.s k6 7), (e.s k6 8), (e.s k6 9), (e.s k6 10), (e.s k6 11), (e.s k6 12), (e.s k6 13)], 39, t39⟩, h⟩) fun e h =>
 br (e.s k6 39) (some ⟨.nm, e, h⟩)
 (some ⟨.ex 0, e, h⟩)) fun e h =>
 sq (blk 1 (sq (some ⟨.nm, ⟨[(e.s k6 0), (e.s k6 1), (e.s k6 2), (e.s k6 5), (e.s k6 6), (e.s k6 7), (e.s k6 8), (e.s k6 9), (.int .i64 (-3)), (e.s k6 11), (e.s k6 12), (e.s k6 13)], 10, (.int .i64 (-3))⟩, h⟩) fun e h =>
 blk 2 (L (l6_1 K L) e h))) fun e h =>
 bd (binK 0 .add (e.s k6 9) (.int .i64 1)) fun t41 =>
 some ⟨.nm, ⟨[(e.s k6 0), (e.s k6 1), (e.s k6 2), (e.s k6 5), (e.s k6 6), (e.s k6 7), (e.s k6 8), t41, (e.s k6 10), (e.s k6 11), (e.s k6 12), (e.s k6 13)], 9, t41⟩, h⟩
noncomputable def s6 (K : Oracle) (L : Looper) (e : E) (h : H) : Out :=
 sq (bf (bx h 41 (e.s k6 2)) fun t5 h1 =>
 some ⟨.nm, ⟨[(e.s k6 0), (e.s k6 1), (e.s k6 2), t5, (.bool false), (e.s k6 7), (e.s k6 8), (e.s k6 9), (e.s k6 10), (e.s k6 11), (e.s k6 12), (e.s k6 13)], 6, (.bool false)⟩, h1⟩) fun e h =>
 sq (sq (bc k6 [14, 15] e (K 17 [] h) fun t14 h1 =>
 bd (unV .not t14) fun t15 =>
 some ⟨.nm, ⟨[(e.s k6 0), (e.s k6 1), (e.s k6 2), (e.s k6 5), (e.s k6 6), (e.s k6 7), (e.s k6 8), (e.s k6 9), (e.s k6 10), (e.s k6 11), (e.s k6 12), (e.s k6 13)], 15, t15⟩, h1⟩) fun e h =>
 br (e.s k6 15) (sq (some ⟨.nm, ⟨[(e.s k6 0), (e.s k6 1), (e.s k6 2), (e.s k6 5), (.bool false), (e.s k6 7), (e.s k6 8), (e.s k6 9), (e.s k6 10), (e.s k6 11), (e.s k6 12), (e.s k6 13)], 6, (.bool false)⟩, h⟩) fun e h =>
 some ⟨.rt, e, h⟩)
 (some ⟨.nm, e, h⟩)) fun e h =>
 sq (bf (bs h 3 5 [(.int .i64 0), (.int .i64 0), (.int .i64 0), (.int .i64 0), (.int .i64 0)] [(some (0, 1), (.int .i64 4)), (some (1, 1), (.int .i64 8)), (some (2, 1), (.int .i64 16)), (some (3, 1), (.int .i64 32)), (some (4, 1), (.int .i64 64))]) fun t16 h1 =>
 bc k6 [16, 17, 18, 19, 20, 7] e (K 18 [(e.s k6 1), (.int .i64 5)] h1) fun t18 h2 =>
 bd (iaS 1 t16 t18) fun t19 =>
 bd (ld h2 t19) fun t20 =>
 some ⟨.nm, ⟨[(e.s k6 0), (e.s k6 1), (e.s k6 2), (e.s k6 5), (e.s k6 6), t20, (e.s k6 8), (e.s k6 9), (e.s k6 10), (e.s k6 11), (e.s k6 12), (e.s k6 13)], 7, t20⟩, h2⟩) fun e h =>
 sq (bd (iaA 2 1 (e.s k6 5) (.int .i64 0)) fun t21 =>
 bd (ld h t21) fun t22 =>
 bd (gl t22 false (iaA 2 1 (e.s k6 5) (.int .i64 1))) fun t24 =>
 bd (gl t22 false (ld h t24)) fun t25 =>
 bd (gl t22 false (unV .not t25)) fun t26 =>
 bd (pk t22 (.bool true) t26) fun t27 =>
 bd (iaA 2 1 (e.s k6 5) (.int .i64 1)) fun t28 =>
 bd (ld h t28) fun t29 =>
 bf (bs h 5 1 [(.int .u8 0)] [(some (0, 1), (e.s k6 0))]) fun t31 h1 =>
 bf (bs h1 5 1 [(.int .u8 0)] [(some (0, 1), (e.s k6 0))]) fun t33 h2 =>
 bd (bl [(.bool false), (.bool false), .nils, .nils, (.int .u8 0)] [(some (0, 1), t27), (some (1, 1), t29), (some (2, 1), t31), (some (3, 1), t33), (some (4, 1), (e.s k6 0))]) fun t35 =>
 bc k6 [21, 22, 23, 24, 25, 26, 27, 28, 29, 30, 31, 32, 33, 34, 35, 36, 37, 8] e (K 19 [t35, (e.s k6 7)] h2) fun t37 h3 =>
 bf (nw h3 25 [(.bool false), (.bool false), .nils, .nils, (.int .u8 0)]) fun t8 h4 =>
 bf (stZ 5 h4 t8 t37) fun _ h5 =>
 some ⟨.nm, ⟨[(e.s k6 0), (e.s k6 1), (e.s k6 2), (e.s k6 5), (e.s k6 6), (e.s k6 7), t8, (e.s k6 9), (e.s k6 10), (e.s k6 11), (e.s k6 12), (e.s k6 13)], 0, (e.s k6 0)⟩, h5⟩) fun e h =>
 sq (sq (some ⟨.nm, ⟨[(e.s k6 0), (e.s k6 1), (e.s k6 2), (e.s k6 5), (e.s k6 6), (e.s k6 7), (e.s k6 8), (.int .i64 0), (e.s k6 10), (e.s k6 11), (e.s k6 12), (e.s k6 13)], 9, (.int .i64 0)⟩, h⟩) fun e h =>
 blk 0 (L (l6_2 K L) e h)) fun e h =>
 sq (some ⟨.nm, ⟨[(e.s k6 0), (e.s k6 1), (e.s k6 2), (e.s k6 5), (.bool true), (e.s k6 7), (e.s k6 8), (e.s k6 9), (e.s k6 10), (e.s k6 11), (e.s k6 12), (e.s k6 13)], 6, (.bool true)⟩, h⟩) fun e h =>
 some ⟨.rt, e, h⟩
noncomputable def f6 (K : Oracle) (L : Looper) (p0 p1 p2 : V) (h : H) : Option (Rv × H) := fin Try.prog k6 [.tmp 6] (s6 K L ⟨[p0, p1, p2, V.und, V.und, V.und, V.und, V.und, V.und, V.und, V.und, V.und], 0, p0⟩ h)
theorem r6 : (fun K L p0 p1 p2 h => runFF Try.prog kp K L 6 [p0, p1, p2] h) = f6 := by kernel_rfl
theorem c6 (p0 p1 p2 : V) (h : H) : callZ Try.prog kp 6 [p0, p1, p2] h = f6 (callZ Try.prog kp) loopZ p0 p1 p2 h :=
  (callZ_eqF _ _ _ _ _).trans (congrFun (congrFun (congrFun (congrFun (congrFun (congrFun (r6) _) _) p0) p1) p2) h)

/-- zoetrope/zoetropelaw12.IntraBetween -/
@[simp] def k7 : List Nat := [0, 1, 2, 4, 5, 6, 7, 8, 9, 10, 11, 12]
noncomputable def l7_0 (K : Oracle) (L : Looper) (e : E) (h : H) : Out :=
 sq (sq (bd (binK 0 .mul (e.s k7 5) (e.s k7 5)) fun t70 =>
 bd (binK 0 .lss (e.s k7 12) t70) fun t71 =>
 some ⟨.nm, ⟨[(e.s k7 0), (e.s k7 1), (e.s k7 2), (e.s k7 4), (e.s k7 5), (e.s k7 6), (e.s k7 7), (e.s k7 8), (e.s k7 9), (e.s k7 10), (e.s k7 11), (e.s k7 12)], 71, t71⟩, h⟩) fun e h =>
 br (e.s k7 71) (some ⟨.nm, e, h⟩)
 (some ⟨.ex 4, e, h⟩)) fun e h =>
 sq (blk 5 (sq (bd (iaS 1 (e.s k7 10) (e.s k7 12)) fun t76 =>
 bd (ld h t76) fun t77 =>
 bd (cv .i64 t77) fun t78 =>
 bd (binK 0 .lss t78 (e.s k7 7)) fun t80 =>
 bd (gl t80 false (some (e.s k7 10))) fun t82 =>
 bd (gl t80 false (some (e.s k7 12))) fun t83 =>
 bd (gl t80 false (iaS 1 t82 t83)) fun t84 =>
 bd (gl t80 false (ld h t84)) fun t85 =>
 bd (gl t80 false (cv .i64 t85)) fun t86 =>
 bd (gl t80 false (some (e.s k7 8))) fun t87 =>
 bd (gl t80 false (binK 0 .gtr t86 t87)) fun t88 =>
 bd (pk t80 (.bool true) t88) fun t89 =>
 some ⟨.nm, ⟨[(e.s k7 0), (e.s k7 1), (e.s k7 2), (e.s k7 4), (e.s k7 5), (e.s k7 6), (e.s k7 7), (e.s k7 8), (e.s k7 9), (e.s k7 10), (e.s k7 11), (e.s k7 12)], 89, t89⟩, h⟩) fun e h =>
 br (e.s k7 89) (sq (some ⟨.nm, ⟨[(e.s k7 0), (e.s k7 1), (e.s k7 2), (.bool false), (e.s k7 5), (e.s k7 6), (e.s k7 7), (e.s k7 8), (e.s k7 9), (e.s k7 10), (e.s k7 11), (e.s k7 12)], 4, (.bool false)⟩, h⟩) fun e h =>
 some ⟨.rt, e, h⟩)
 (some ⟨.nm, e, h⟩))) fun e h =>
 bd (binK 0 .add (e.s k7 12) (.int .i64 1)) fun t73 =>
 some ⟨.nm, ⟨[(e.s k7 0), (e.s k7 1), (e.s k7 2), (e.s k7 4), (e.s k7 5), (e.s k7 6), (e.s k7 7), (e.s k7 8), (e.s k7 9), (e.s k7 10), (e.s k7 11), t73], 12, t73⟩, h⟩
noncomputable def l7_1 (K : Oracle) (L : Looper) (e : E) (h : H) : Out :=
 sq (sq (bd (binK 0 .lss (e.s k7 9) (.int .i64 4)) fun t34 =>
 some ⟨.nm, ⟨[(e.s k7 0), (e.s k7 1), (e.s k7 2), (e.s k7 4), (e.s k7 5), (e.s k7 6), (e.s k7 7), (e.s k7 8), (e.s k7 9), (e.s k7 10), (e.s k7 11), (e.s k7 12)], 34, t34⟩, h⟩) fun e h =>
 br (e.s k7 34) (some ⟨.nm, e, h⟩)
 (some ⟨.ex 2, e, h⟩)) fun e h =>
 sq (blk 3 (sq (sq (bc k7 [37, 38, 39, 40, 41, 42, 43, 44, 45, 46, 47, 48] e (K 22 [(e.s k7 6), (e.s k7 9)] h) fun t39 h1 =>
 bd (unV .not t39) fun t40 =>
 bd (gl t40 false (some (e.s k7 5))) fun t42 =>
 bd (gl t40 false (binK 0 .eql t42 (.int .i64 4))) fun t43 =>
 bd (gl t40 false (some t43)) fun t44 =>
 bd (gl t44 true (some (e.s k7 9))) fun t45 =>
 bd (gl t44 true (binK 0 .neq t45 (.int .i64 0))) fun t46 =>
 bd (gl t40 false (pk t44 t46 (.bool false))) fun t47 =>
 bd (pk t40 (.bool true) t47) fun t48 =>
 some ⟨.nm, ⟨[(e.s k7 0), (e.s k7 1), (e.s k7 2), (e.s k7 4), (e.s k7 5), (e.s k7 6), (e.s k7 7), (e.s k7 8), (e.s k7 9), (e.s k7 10), (e.s k7 11), (e.s k7 12)], 48, t48⟩, h1⟩) fun e h =>
 br (e.s k7 48) (some ⟨.ex 3, e, h⟩)
 (some ⟨.nm, e, h⟩)) fun e h =>
 sq (bd (ldn 5 h (e.s k7 2)) fun t53 =>
 bc k7 [50, 51, 52, 53, 54, 49, 55, 56, 10, 11] e (K 14 [(e.s k7 5), (e.s k7 6), (e.s k7 9), t53] h) fun t54 h1 =>
 bd (exV t54 0) fun t55 =>
 bd (exV t54 1) fun t56 =>
 some ⟨.nm, ⟨[(e.s k7 0), (e.s k7 1), (e.s k7 2), (e.s k7 4), (e.s k7 5), (e.s k7 6), (e.s k7 7), (e.s k7 8), (e.s k7 9), t55, t56, (e.s k7 12)], 11, t56⟩, h1⟩) fun e h =>
 sq (sq (bd (binK 0 .neq (e.s k7 11) (.int .i64 0)) fun t58 =>
 bd (gl t58 false (some (e.s k7 10))) fun t60 =>
 bd (gl t58 false (lnS t60)) fun t61 =>
 bd (gl t58 false (some (e.s k7 5))) fun t62 =>
 bd (gl t58 false (some (e.s k7 5))) fun t63 =>
 bd (gl t58 false (binK 0 .mul t62 t63)) fun t64 =>
 bd (gl t58 false (binK 0 .neq t61 t64)) fun t65 =>
 bd (pk t58 (.bool true) t65) fun t66 =>
 some ⟨.nm, ⟨[(e.s k7 0), (e.s k7 1), (e.s k7 2), (e.s k7 4), (e.s k7 5), (e.s k7 6), (e.s k7 7), (e.s k7 8), (e.s k7 9), (e.s k7 10), (e.s k7 11), (e.s k7 12)], 66, t66⟩, h⟩) fun e h =>
 br (e.s k7 66) (sq (some ⟨.nm, ⟨[(e.s k7 0), (e.s k7 1), (e.s k7 2), (.bool false), (e.s k7 5), (e.s k7 6), (e.s k7 7), (e.s k7 8), (e.s k7 9), (e.s k7 10), (e.s k7 11), (e.s k7 12)], 4, (.bool false)⟩, h⟩) fun e h =>
 some ⟨.rt, e, h⟩)
 (some ⟨.nm, e, h⟩)) fun e h =>
 sq (some ⟨.nm, ⟨[(e.s k7 0), (e.s k7 1), (e.s k7 2), (e.s k7 4), (e.s k7 5), (e.s k7 6), (e.s k7 7), (e.s k7 8), (e.s k7 9), (e.s k7 10), (e.s k7 11), (.int .i64 0)], 12, (.int .i64 0)⟩, h⟩) fun e h =>
 blk 4 (L (l7_0 K L) e h))) fun e h =>
 bd (binK 0 .add (e.s k7 9) (.int .i64 1)) fun t36 =>
 some ⟨.nm, ⟨[(e.s k7 0), (e.s k7 1), (e.s k7 2), (e.s k7 4), (e.s k7 5), (e.s k7 6), (e.s k7 7), (e.s k7 8), t36, (e.s k7 10), (e.s k7 11), (e.s k7 12)], 9, t36⟩, h⟩
noncomputable def l7_2 (K : Oracle) (L : Looper) (e : E) (h : H) : Out :=
 sq (sq (bd (binK 0 .leq (e.s k7 6) (.int .i64 12)) fun t24 =>
 some ⟨.nm, ⟨[(e.s k7 0), (e.s k7 1), (e.s k7 2), (e.s k7 4), (e.s k7 5), (e.s k7 6), (e.s k7 7), (e.s k7 8), (e.s k7 9), (e.s k7 10), (e.s k7 11), (e.s k7 12)], 24, t24⟩, h⟩) fun e h =>
 br (e.s k7 24) (some ⟨.nm, e, h⟩)
 (some ⟨.ex 0, e, h⟩)) fun e h =>
 sq (blk 1 (sq (bd (ldn 5 h (e.s k7 2)) fun t28 =>
 bc k7 [28, 29, 30, 27, 31, 32, 7, 8] e (K 23 [t28, (e.s k7 6)] h) fun t30 h1 =>
 bd (exV t30 0) fun t31 =>
 bd (exV t30 1) fun t32 =>
 some ⟨.nm, ⟨[(e.s k7 0), (e.s k7 1), (e.s k7 2), (e.s k7 4), (e.s k7 5), (e.s k7 6), t31, t32, (e.s k7 9), (e.s k7 10), (e.s k7 11), (e.s k7 12)], 8, t32⟩, h1⟩) fun e h =>
 sq (some ⟨.nm, ⟨[(e.s k7 0), (e.s k7 1), (e.s k7 2), (e.s k7 4), (e.s k7 5), (e.s k7 6), (e.s k7 7), (e.s k7 8), (.int .i64 (-3)), (e.s k7 10), (e.s k7 11), (e.s k7 12)], 9, (.int .i64 (-3))⟩, h⟩) fun e h =>
 blk 2 (L (l7_1 K L) e h))) fun e h =>
 bd (binK 0 .add (e.s k7 6) (.int .i64 1)) fun t26 =>
 some ⟨.nm, ⟨[(e.s k7 0), (e.s k7 1), (e.s k7 2), (e.s k7 4), (e.s k7 5), t26, (e.s k7 7), (e.s k7 8), (e.s k7 9), (e.s k7 10), (e.s k7 11), (e.s k7 12)], 6, t26⟩, h⟩
noncomputable def s7 (K : Oracle) (L : Looper) (e : E) (h : H) : Out :=
 sq (bf (bx h 25 (e.s k7 0)) fun t2 h1 =>
 some ⟨.nm, ⟨[(e.s k7 0), (e.s k7 1), t2, (.bool false), (e.s k7 5), (e.s k7 6), (e.s k7 7), (e.s k7 8), (e.s k7 9), (e.s k7 10), (e.s k7 11), (e.s k7 12)], 4, (.bool false)⟩, h1⟩) fun e h =>
 sq (sq (bc k7 [13, 14] e (K 17 [] h) fun t13 h1 =>
 bd (unV .not t13) fun t14 =>
 some ⟨.nm, ⟨[(e.s k7 0), (e.s k7 1), (e.s k7 2), (e.s k7 4), (e.s k7 5), (e.s k7 6), (e.s k7 7), (e.s k7 8), (e.s k7 9), (e.s k7 10), (e.s k7 11), (e.s k7 12)], 14, t14⟩, h1⟩) fun e h =>
 br (e.s k7 14) (sq (some ⟨.nm, ⟨[(e.s k7 0), (e.s k7 1), (e.s k7 2), (.bool false), (e.s k7 5), (e.s k7 6), (e.s k7 7), (e.s k7 8), (e.s k7 9), (e.s k7 10), (e.s k7 11), (e.s k7 12)], 4, (.bool false)⟩, h⟩) fun e h =>
 some ⟨.rt, e, h⟩)
 (some ⟨.nm, e, h⟩)) fun e h =>
 sq (bf (bs h 3 3 [(.int .i64 0), (.int .i64 0), (.int .i64 0)] [(some (0, 1), (.int .i64 4)), (some (1, 1), (.int .i64 8)), (some (2, 1), (.int .i64 16))]) fun t15 h1 =>
 bc k7 [15, 16, 17, 18, 19, 5] e (K 18 [(e.s k7 1), (.int .i64 3)] h1) fun t17 h2 =>
 bd (iaS 1 t15 t17) fun t18 =>
 bd (ld h2 t18) fun t19 =>
 some ⟨.nm, ⟨[(e.s k7 0), (e.s k7 1), (e.s k7 2), (e.s k7 4), t19, (e.s k7 6), (e.s k7 7), (e.s k7 8), (e.s k7 9), (e.s k7 10), (e.s k7 11), (e.s k7 12)], 5, t19⟩, h2⟩) fun e h =>
 sq (bd (ldn 5 h (e.s k7 2)) fun t20 =>
 bc k7 [20, 21, 22] e (K 19 [t20, (e.s k7 5)] h) fun t22 h1 =>
 bf (stZ 5 h1 (e.s k7 2) t22) fun _ h2 =>
 some ⟨.nm, ⟨[(e.s k7 0), (e.s k7 1), (e.s k7 2), (e.s k7 4), (e.s k7 5), (e.s k7 6), (e.s k7 7), (e.s k7 8), (e.s k7 9), (e.s k7 10), (e.s k7 11), (e.s k7 12)], 0, (e.s k7 0)⟩, h2⟩) fun e h =>
 sq (sq (some ⟨.nm, ⟨[(e.s k7 0), (e.s k7 1), (e.s k7 2), (e.s k7 4), (e.s k7 5), (.int .i64 0), (e.s k7 7), (e.s k7 8), (e.s k7 9), (e.s k7 10), (e.s k7 11), (e.s k7 12)], 6, (.int .i64 0)⟩, h⟩) fun e h =>
 blk 0 (L (l7_2 K L) e h)) fun e h =>
 sq (some ⟨.nm, ⟨[(e.s k7 0), (e.s k7 1), (e.s k7 2), (.bool true), (e.s k7 5), (e.s k7 6), (e.s k7 7), (e.s k7 8), (e.s k7 9), (e.s k7 10), (e.s k7 11), (e.s k7 12)], 4, (.bool true)⟩, h⟩) fun e h =>
 some ⟨.rt, e, h⟩
noncomputable def f7 (K : Oracle) (L : Looper) (p0 p1 : V) (h : H) : Option (Rv × H) := fin Try.prog k7 [.tmp 4] (s7 K L ⟨[p0, p1, V.und, V.und, V.und, V.und, V.und, V.und, V.und, V.und, V.und, V.und], 0, p0⟩ h)
theorem r7 : (fun K L p0 p1 h => runFF Try.prog kp K L 7 [p0, p1] h) = f7 := by kernel_rfl
theorem c7 (p0 p1 : V) (h : H) : callZ Try.prog kp 7 [p0, p1] h = f7 (callZ Try.prog kp) loopZ p0 p1 h :=
  (callZ_eqF _ _ _ _ _).trans (congrFun (congrFun (congrFun (congrFun (congrFun (r7) _) _) p0) p1) h)

/-- zoetrope/zoetropelaw12.IntraTurned -/
@[simp] def k8 : List Nat := [0, 1, 2, 4, 5, 6]
noncomputable def l8_0 (K : Oracle) (L : Looper) (e : E) (h : H) : Out :=
 sq (sq (bd (binK 0 .lss (e.s k8 6) (.int .i64 4)) fun t27 =>
 some ⟨.nm, ⟨[(e.s k8 0), (e.s k8 1), (e.s k8 2), (e.s k8 4), (e.s k8 5), (e.s k8 6)], 27, t27⟩, h⟩) fun e h =>
 br (e.s k8 27) (some ⟨.nm, e, h⟩)
 (some ⟨.ex 0, e, h⟩)) fun e h =>
 sq (blk 1 (sq (bd (ldn 5 h (e.s k8 2)) fun t30 =>
 bc k8 [30, 31, 32, 33, 34, 35, 36, 37, 38, 39, 40, 41, 42, 43, 44, 45] e (K 24 [t30, (e.s k8 5), (.int .i64 8), (e.s k8 6), (.int .i64 7)] h) fun t33 h1 =>
 bd (unV .not t33) fun t34 =>
 bd (gl t34 false (some (e.s k8 6))) fun t36 =>
 bd (gl t34 false (binK 0 .leq t36 (.int .i64 0))) fun t37 =>
 bd (gl t34 false (some t37)) fun t38 =>
 bd (gl t38 true (ldn 5 h1 (e.s k8 2))) fun t39 =>
 bd (gl t38 true (some (e.s k8 5))) fun t40 =>
 bd (gl t38 true (some (e.s k8 6))) fun t41 =>
 bc k8 [30, 31, 32, 33, 34, 35, 36, 37, 38, 39, 40, 41, 42, 43, 44, 45] e (gk t38 true h1 (K 24 [t39, t40, (.int .i64 1), t41, (.int .i64 2)] h1)) fun t42 h2 =>
 bd (gl t38 true (unV .not t42)) fun t43 =>
 bd (gl t34 false (pk t38 t43 (.bool false))) fun t44 =>
 bd (pk t34 (.bool true) t44) fun t45 =>
 some ⟨.nm, ⟨[(e.s k8 0), (e.s k8 1), (e.s k8 2), (e.s k8 4), (e.s k8 5), (e.s k8 6)], 45, t45⟩, h2⟩) fun e h =>
 br (e.s k8 45) (sq (some ⟨.nm, ⟨[(e.s k8 0), (e.s k8 1), (e.s k8 2), (.bool false), (e.s k8 5), (e.s k8 6)], 4, (.bool false)⟩, h⟩) fun e h =>
 some ⟨.rt, e, h⟩)
 (some ⟨.nm, e, h⟩))) fun e h =>
 bd (binK 0 .add (e.s k8 6) (.int .i64 1)) fun t29 =>
 some ⟨.nm, ⟨[(e.s k8 0), (e.s k8 1), (e.s k8 2), (e.s k8 4), (e.s k8 5), t29], 6, t29⟩, h⟩
noncomputable def s8 (K : Oracle) (L : Looper) (e : E) (h : H) : Out :=
 sq (bf (bx h 25 (e.s k8 0)) fun t2 h1 =>
 some ⟨.nm, ⟨[(e.s k8 0), (e.s k8 1), t2, (.bool false), (e.s k8 5), (e.s k8 6)], 4, (.bool false)⟩, h1⟩) fun e h =>
 sq (sq (bc k8 [7, 8] e (K 17 [] h) fun t7 h1 =>
 bd (unV .not t7) fun t8 =>
 some ⟨.nm, ⟨[(e.s k8 0), (e.s k8 1), (e.s k8 2), (e.s k8 4), (e.s k8 5), (e.s k8 6)], 8, t8⟩, h1⟩) fun e h =>
 br (e.s k8 8) (sq (some ⟨.nm, ⟨[(e.s k8 0), (e.s k8 1), (e.s k8 2), (.bool false), (e.s k8 5), (e.s k8 6)], 4, (.bool false)⟩, h⟩) fun e h =>
 some ⟨.rt, e, h⟩)
 (some ⟨.nm, e, h⟩)) fun e h =>
 sq (bf (bs h 3 4 [(.int .i64 0), (.int .i64 0), (.int .i64 0), (.int .i64 0)] [(some (0, 1), (.int .i64 4)), (some (1, 1), (.int .i64 8)), (some (2, 1), (.int .i64 16)), (some (3, 1), (.int .i64 32))]) fun t9 h1 =>
 bc k8 [9, 10, 11, 12, 13, 5] e (K 18 [(e.s k8 1), (.int .i64 4)] h1) fun t11 h2 =>
 bd (iaS 1 t9 t11) fun t12 =>
 bd (ld h2 t12) fun t13 =>
 some ⟨.nm, ⟨[(e.s k8 0), (e.s k8 1), (e.s k8 2), (e.s k8 4), t13, (e.s k8 6)], 5, t13⟩, h2⟩) fun e h =>
 sq (sq (bd (fa 0 (e.s k8 2)) fun t14 =>
 bd (ld h t14) fun t15 =>
 bd (unV .not t15) fun t16 =>
 bd (gl t16 true (fa 1 (e.s k8 2))) fun t18 =>
 bd (gl t16 true (ld h t18)) fun t19 =>
 bd (gl t16 true (unV .not t19)) fun t20 =>
 bd (pk t16 t20 (.bool false)) fun t21 =>
 some ⟨.nm, ⟨[(e.s k8 0), (e.s k8 1), (e.s k8 2), (e.s k8 4), (e.s k8 5), (e.s k8 6)], 21, t21⟩, h⟩) fun e h =>
 br (e.s k8 21) (bd (fa 1 (e.s k8 2)) fun t22 =>
 bf (stZ 1 h t22 (.bool true)) fun _ h1 =>
 some ⟨.nm, ⟨[(e.s k8 0), (e.s k8 1), (e.s k8 2), (e.s k8 4), (e.s k8 5), (e.s k8 6)], 0, (e.s k8 0)⟩, h1⟩)
 (some ⟨.nm, e, h⟩)) fun e h =>
 sq (bd (ldn 5 h (e.s k8 2)) fun t23 =>
 bc k8 [23, 24, 25] e (K 19 [t23, (e.s k8 5)] h) fun t25 h1 =>
 bf (stZ 5 h1 (e.s k8 2) t25) fun _ h2 =>
 some ⟨.nm, ⟨[(e.s k8 0), (e.s k8 1), (e.s k8 2), (e.s k8 4), (e.s k8 5), (e.s k8 6)], 0, (e.s k8 0)⟩, h2⟩) fun e h =>
 sq (sq (some ⟨.nm, ⟨[(e.s k8 0), (e.s k8 1), (e.s k8 2), (e.s k8 4), (e.s k8 5), (.int .i64 (-3))], 6, (.int .i64 (-3))⟩, h⟩) fun e h =>
 blk 0 (L (l8_0 K L) e h)) fun e h =>
 sq (bd (ldn 5 h (e.s k8 2)) fun t46 =>
 bc k8 [46, 47, 48, 49, 50, 51, 52, 53, 54, 55, 56, 57, 58, 59, 60, 61, 62, 63, 4] e (K 24 [t46, (e.s k8 5), (.int .i64 10), (.int .i64 0), (.int .i64 11)] h) fun t48 h1 =>
 bd (gl t48 true (ldn 5 h1 (e.s k8 2))) fun t50 =>
 bd (gl t48 true (some (e.s k8 5))) fun t51 =>
 bc k8 [46, 47, 48, 49, 50, 51, 52, 53, 54, 55, 56, 57, 58, 59, 60, 61, 62, 63, 4] e (gk t48 true h1 (K 24 [t50, t51, (.int .i64 0), (.int .i64 0), (.int .i64 0)] h1)) fun t52 h2 =>
 bd (pk t48 t52 (.bool false)) fun t53 =>
 bd (gl t53 true (ldn 5 h2 (e.s k8 2))) fun t55 =>
 bd (gl t53 true (some (e.s k8 5))) fun t56 =>
 bc k8 [46, 47, 48, 49, 50, 51, 52, 53, 54, 55, 56, 57, 58, 59, 60, 61, 62, 63, 4] e (gk t53 true h2 (K 24 [t55, t56, (.int .i64 9), (.int .i64 0), (.int .i64 9)] h2)) fun t57 h3 =>
 bd (pk t53 t57 (.bool false)) fun t58 =>
 bd (gl t58 true (ldn 5 h3 (e.s k8 2))) fun t60 =>
 bd (gl t58 true (some (e.s k8 5))) fun t61 =>
 bc k8 [46, 47, 48, 49, 50, 51, 52, 53, 54, 55, 56, 57, 58, 59, 60, 61, 62, 63, 4] e (gk t58 true h3 (K 24 [t60, t61, (.int .i64 4), (.int .i64 0), (.int .i64 4)] h3)) fun t62 h4 =>
 bd (pk t58 t62 (.bool false)) fun t63 =>
 some ⟨.nm, ⟨[(e.s k8 0), (e.s k8 1), (e.s k8 2), t63, (e.s k8 5), (e.s k8 6)], 4, t63⟩, h4⟩) fun e h =>
 some ⟨.rt, e, h⟩
noncomputable def f8 (K : Oracle) (L : Looper) (p0 p1 : V) (h : H) : Option (Rv × H) := fin Try.prog k8 [.tmp 4] (s8 K L ⟨[p0, p1, V.und, V.und, V.und, V.und], 0, p0⟩ h)
theorem r8 : (fun K L p0 p1 h => runFF Try.prog kp K L 8 [p0, p1] h) = f8 := by kernel_rfl
theorem c8 (p0 p1 : V) (h : H) : callZ Try.prog kp 8 [p0, p1] h = f8 (callZ Try.prog kp) loopZ p0 p1 h :=
  (callZ_eqF _ _ _ _ _).trans (congrFun (congrFun (congrFun (congrFun (congrFun (r8) _) _) p0) p1) h)

/-- zoetrope/zoetropelaw12.IntraReads -/
@[simp] def k9 : List Nat := [0, 1, 2, 3, 6, 7, 8, 9, 10, 11, 12, 13, 14, 15, 16, 17, 18, 19, 20]
noncomputable def l9_0 (K : Oracle) (L : Looper) (e : E) (h : H) : Out :=
 sq (sq (bd (binK 0 .leq (e.s k9 9) (.int .i64 12)) fun t39 =>
 some ⟨.nm, ⟨[(e.s k9 0), (e.s k9 1), (e.s k9 2), (e.s k9 3), (e.s k9 6), (e.s k9 7), (e.s k9 8), (e.s k9 9), (e.s k9 10), (e.s k9 11), (e.s k9 12), (e.s k9 13), (e.s k9 14), (e.s k9 15), (e.s k9 16), (e.s k9 17), (e.s k9 18), (e.s k9 19), (e.s k9 20)], 39, t39⟩, h⟩) fun e h =>
 br (e.s k9 39) (some ⟨.nm, e, h⟩)
 (some ⟨.ex 0, e, h⟩)) fun e h =>
 sq (blk 1 (sq (bd (ldn 5 h (e.s k9 3)) fun t45 =>
 bc k9 [43, 44, 45, 46, 42, 47, 48, 10, 11] e (K 14 [(e.s k9 7), (e.s k9 9), (.int .i64 0), t45] h) fun t46 h1 =>
 bd (exV t46 0) fun t47 =>
 bd (exV t46 1) fun t48 =>
 some ⟨.nm, ⟨[(e.s k9 0), (e.s k9 1), (e.s k9 2), (e.s k9 3), (e.s k9 6), (e.s k9 7), (e.s k9 8), (e.s k9 9), t47, t48, (e.s k9 12), (e.s k9 13), (e.s k9 14), (e.s k9 15), (e.s k9 16), (e.s k9 17), (e.s k9 18), (e.s k9 19), (e.s k9 20)], 11, t48⟩, h1⟩) fun e h =>
 sq (bd (ldn 5 h (e.s k9 8)) fun t52 =>
 bc k9 [50, 51, 52, 53, 49, 54, 55, 12, 13] e (K 14 [(e.s k9 7), (e.s k9 9), (.int .i64 0), t52] h) fun t53 h1 =>
 bd (exV t53 0) fun t54 =>
 bd (exV t53 1) fun t55 =>
 some ⟨.nm, ⟨[(e.s k9 0), (e.s k9 1), (e.s k9 2), (e.s k9 3), (e.s k9 6), (e.s k9 7), (e.s k9 8), (e.s k9 9), (e.s k9 10), (e.s k9 11), t54, t55, (e.s k9 14), (e.s k9 15), (e.s k9 16), (e.s k9 17), (e.s k9 18), (e.s k9 19), (e.s k9 20)], 13, t55⟩, h1⟩) fun e h =>
 sq (bd (fa 0 (e.s k9 3)) fun t56 =>
 bd (ld h t56) fun t57 =>
 bd (gl t57 true (fa 1 (e.s k9 3))) fun t59 =>
 bd (gl t57 true (ld h t59)) fun t60 =>
 bd (pk t57 t60 (.bool false)) fun t61 =>
 bd (unV .not t61) fun t62 =>
 some ⟨.nm, ⟨[(e.s k9 0), (e.s k9 1), (e.s k9 2), (e.s k9 3), (e.s k9 6), (e.s k9 7), (e.s k9 8), (e.s k9 9), (e.s k9 10), (e.s k9 11), (e.s k9 12), (e.s k9 13), t62, (e.s k9 15), (e.s k9 16), (e.s k9 17), (e.s k9 18), (e.s k9 19), (e.s k9 20)], 14, t62⟩, h⟩) fun e h =>
 sq (bd (binK 0 .neq (e.s k9 11) (.int .i64 0)) fun t64 =>
 bd (gl t64 false (some (e.s k9 13))) fun t66 =>
 bd (gl t64 false (binK 0 .neq t66 (.int .i64 0))) fun t67 =>
 bd (pk t64 (.bool true) t67) fun t68 =>
 bd (gl t68 false (some (e.s k9 14))) fun t70 =>
 bd (gl t68 false (some t70)) fun t71 =>
 bd (gl t71 false (some (e.s k9 9))) fun t72 =>
 bd (gl t71 false (binK 0 .eql t72 (.int .i64 0))) fun t73 =>
 bd (gl t68 false (pk t71 (.bool true) t73)) fun t74 =>
 bd (gl t68 false (some t74)) fun t75 =>
 bd (gl t75 false (some (e.s k9 9))) fun t76 =>
 bd (gl t75 false (binK 0 .eql t76 (.int .i64 1))) fun t77 =>
 bd (gl t68 false (pk t75 (.bool true) t77)) fun t78 =>
 bd (gl t68 false (some t78)) fun t79 =>
 bd (gl t79 false (some (e.s k9 9))) fun t80 =>
 bd (gl t79 false (binK 0 .eql t80 (.int .i64 2))) fun t81 =>
 bd (gl t68 false (pk t79 (.bool true) t81)) fun t82 =>
 bd (gl t68 false (some t82)) fun t83 =>
 bd (gl t83 false (some (e.s k9 9))) fun t84 =>
 bd (gl t83 false (binK 0 .geq t84 (.int .i64 9))) fun t85 =>
 bd (gl t83 false (some t85)) fun t86 =>
 bd (gl t86 true (some (e.s k9 9))) fun t87 =>
 bd (gl t86 true (binK 0 .leq t87 (.int .i64 11))) fun t88 =>
 bd (gl t83 false (pk t86 t88 (.bool false))) fun t89 =>
 bd (gl t68 false (pk t83 (.bool true) t89)) fun t90 =>
 bd (gl t68 false (some t90)) fun t91 =>
 bd (gl t91 true (some (e.s k9 10))) fun t92 =>
 bd (gl t91 true (some (e.s k9 12))) fun t93 =>
 bc k9 [63, 64, 65, 66, 67, 68, 69, 70, 71, 72, 73, 74, 75, 76, 77, 78, 79, 80, 81, 82, 83, 84, 85, 86, 87, 88, 89, 90, 91, 92, 93, 94, 95, 96, 97] e (gk t91 true h (K 16 [t92, t93] h)) fun t94 h1 =>
 bd (gl t91 true (unV .not t94)) fun t95 =>
 bd (gl t68 false (pk t91 t95 (.bool false))) fun t96 =>
 bd (pk t68 (.bool true) t96) fun t97 =>
 some ⟨.nm, ⟨[(e.s k9 0), (e.s k9 1), (e.s k9 2), (e.s k9 3), (e.s k9 6), (e.s k9 7), (e.s k9 8), (e.s k9 9), (e.s k9 10), (e.s k9 11), (e.s k9 12), (e.s k9 13), (e.s k9 14), (e.s k9 15), (e.s k9 16), (e.s k9 17), (e.s k9 18), (e.s k9 19), (e.s k9 20)], 97, t97⟩, h1⟩) fun e h =>
 br (e.s k9 97) (sq (some ⟨.nm, ⟨[(e.s k9 0), (e.s k9 1), (e.s k9 2), (e.s k9 3), (.bool false), (e.s k9 7), (e.s k9 8), (e.s k9 9), (e.s k9 10), (e.s k9 11), (e.s k9 12), (e.s k9 13), (e.s k9 14), (e.s k9 15), (e.s k9 16), (e.s k9 17), (e.s k9 18), (e.s k9 19), (e.s k9 20)], 6, (.bool false)⟩, h⟩) fun e h =>
 some ⟨.rt, e, h⟩)
 (some ⟨.nm, e, h⟩))) fun e h =>
 bd (binK 0 .add (e.s k9 9) (.int .i64 1)) fun t41 =>
 some ⟨.nm, ⟨[(e.s k9 0), (e.s k9 1), (e.s k9 2), (e.s k9 3), (e.s k9 6), (e.s k9 7), (e.s k9 8), t41, (e.s k9 10), (e.s k9 11), (e.s k9 12), (e.s k9 13), (e.s k9 14), (e.s k9 15), (e.s k9 16), (e.s k9 17), (e.s k9 18), (e.s k9 19), (e.s k9 20)], 9, t41⟩, h⟩
noncomputable def l9_1 (K : Oracle) (L : Looper) (e : E) (h : H) : Out :=
 sq (sq (bd (fa 3 (e.s k9 8)) fun t99 =>
 bd (ld h t99) fun t100 =>
 bd (lnS t100) fun t101 =>
 bd (binK 0 .lss (e.s k9 15) t101) fun t102 =>
 some ⟨.nm, ⟨[(e.s k9 0), (e.s k9 1), (e.s k9 2), (e.s k9 3), (e.s k9 6), (e.s k9 7), (e.s k9 8), (e.s k9 9), (e.s k9 10), (e.s k9 11), (e.s k9 12), (e.s k9 13), (e.s k9 14), (e.s k9 15), (e.s k9 16), (e.s k9 17), (e.s k9 18), (e.s k9 19), (e.s k9 20)], 102, t102⟩, h⟩) fun e h =>
 br (e.s k9 102) (some ⟨.nm, e, h⟩)
 (some ⟨.ex 2, e, h⟩)) fun e h =>
 sq (blk 3 (bd (fa 3 (e.s k9 8)) fun t105 =>
 bd (ld h t105) fun t106 =>
 bd (fa 3 (e.s k9 8)) fun t108 =>
 bd (ld h t108) fun t109 =>
 bd (iaS 1 t109 (e.s k9 15)) fun t111 =>
 bd (ld h t111) fun t112 =>
 bd (binK 0 .add t112 (e.s k9 2)) fun t114 =>
 bd (iaS 1 t106 (e.s k9 15)) fun t115 =>
 bf (stZ 1 h t115 t114) fun _ h1 =>
 ck (ld h t105) t106 (ck (ld h t108) t109 (ck (ld h t111) t112 (some ⟨.nm, ⟨[(e.s k9 0), (e.s k9 1), (e.s k9 2), (e.s k9 3), (e.s k9 6), (e.s k9 7), (e.s k9 8), (e.s k9 9), (e.s k9 10), (e.s k9 11), (e.s k9 12), (e.s k9 13), (e.s k9 14), (e.s k9 15), (e.s k9 16), (e.s k9 17), (e.s k9 18), (e.s k9 19), (e.s k9 20)], 0, (e.s k9 0)⟩, h1⟩))))) fun e h =>
 bd (binK 0 .add (e.s k9 15) (.int .i64 1)) fun t104 =>
 some ⟨.nm, ⟨[(e.s k9 0), (e.s k9 1), (e.s k9 2), (e.s k9 3), (e.s k9 6), (e.s k9 7), (e.s k9 8), (e.s k9 9), (e.s k9 10), (e.s k9 11), (e.s k9 12), (e.s k9 13), (e.s k9 14), t104, (e.s k9 16), (e.s k9 17), (e.s k9 18), (e.s k9 19), (e.s k9 20)], 15, t104⟩, h⟩
noncomputable def l9_2 (K : Oracle) (L : Looper) (e : E) (h : H) : Out :=
 sq (sq (bd (fa 2 (e.s k9 8)) fun t145 =>
 bd (ld h t145) fun t146 =>
 bd (lnS t146) fun t147 =>
 bd (binK 0 .lss (e.s k9 20) t147) fun t148 =>
 some ⟨.nm, ⟨[(e.s k9 0), (e.s k9 1), (e.s k9 2), (e.s k9 3), (e.s k9 6), (e.s k9 7), (e.s k9 8), (e.s k9 9), (e.s k9 10), (e.s k9 11), (e.s k9 12), (e.s k9 13), (e.s k9 14), (e.s k9 15), (e.s k9 16), (e.s k9 17), (e.s k9 18), (e.s k9 19), (e.s k9 20)], 148, t148⟩, h⟩) fun e h =>
 br (e.s k9 148) (some ⟨.nm, e, h⟩)
 (some ⟨.ex 4, e, h⟩)) fun e h =>
 sq (blk 5 (bd (fa 2 (e.s k9 8)) fun t151 =>
 bd (ld h t151) fun t152 =>
 bd (fa 2 (e.s k9 8)) fun t154 =>
 bd (ld h t154) fun t155 =>
 bd (iaS 1 t155 (e.s k9 20)) fun t157 =>
 bd (ld h t157) fun t158 =>
 bd (binK 0 .xor t158 (e.s k9 2)) fun t160 =>
 bd (iaS 1 t152 (e.s k9 20)) fun t161 =>
 bf (stZ 1 h t161 t160) fun _ h1 =>
 ck (ld h t151) t152 (ck (ld h t154) t155 (ck (ld h t157) t158 (some ⟨.nm, ⟨[(e.s k9 0), (e.s k9 1), (e.s k9 2), (e.s k9 3), (e.s k9 6), (e.s k9 7), (e.s k9 8), (e.s k9 9), (e.s k9 10), (e.s k9 11), (e.s k9 12), (e.s k9 13), (e.s k9 14), (e.s k9 15), (e.s k9 16), (e.s k9 17), (e.s k9 18), (e.s k9 19), (e.s k9 20)], 0, (e.s k9 0)⟩, h1⟩))))) fun e h =>
 bd (binK 0 .add (e.s k9 20) (.int .i64 1)) fun t150 =>
 some ⟨.nm, ⟨[(e.s k9 0), (e.s k9 1), (e.s k9 2), (e.s k9 3), (e.s k9 6), (e.s k9 7), (e.s k9 8), (e.s k9 9), (e.s k9 10), (e.s k9 11), (e.s k9 12), (e.s k9 13), (e.s k9 14), (e.s k9 15), (e.s k9 16), (e.s k9 17), (e.s k9 18), (e.s k9 19), t150], 20, t150⟩, h⟩
noncomputable def s9 (K : Oracle) (L : Looper) (e : E) (h : H) : Out :=
 sq (bf (bx h 25 (e.s k9 0)) fun t3 h1 =>
 some ⟨.nm, ⟨[(e.s k9 0), (e.s k9 1), (e.s k9 2), t3, (.bool false), (e.s k9 7), (e.s k9 8), (e.s k9 9), (e.s k9 10), (e.s k9 11), (e.s k9 12), (e.s k9 13), (e.s k9 14), (e.s k9 15), (e.s k9 16), (e.s k9 17), (e.s k9 18), (e.s k9 19), (e.s k9 20)], 6, (.bool false)⟩, h1⟩) fun e h =>
 sq (sq (bc k9 [21, 22] e (K 17 [] h) fun t21 h1 =>
 bd (unV .not t21) fun t22 =>
 some ⟨.nm, ⟨[(e.s k9 0), (e.s k9 1), (e.s k9 2), (e.s k9 3), (e.s k9 6), (e.s k9 7), (e.s k9 8), (e.s k9 9), (e.s k9 10), (e.s k9 11), (e.s k9 12), (e.s k9 13), (e.s k9 14), (e.s k9 15), (e.s k9 16), (e.s k9 17), (e.s k9 18), (e.s k9 19), (e.s k9 20)], 22, t22⟩, h1⟩) fun e h =>
 br (e.s k9 22) (sq (some ⟨.nm, ⟨[(e.s k9 0), (e.s k9 1), (e.s k9 2), (e.s k9 3), (.bool false), (e.s k9 7), (e.s k9 8), (e.s k9 9), (e.s k9 10), (e.s k9 11), (e.s k9 12), (e.s k9 13), (e.s k9 14), (e.s k9 15), (e.s k9 16), (e.s k9 17), (e.s k9 18), (e.s k9 19), (e.s k9 20)], 6, (.bool false)⟩, h⟩) fun e h =>
 some ⟨.rt, e, h⟩)
 (some ⟨.nm, e, h⟩)) fun e h =>
 sq (bf (bs h 3 3 [(.int .i64 0), (.int .i64 0), (.int .i64 0)] [(some (0, 1), (.int .i64 4)), (some (1, 1), (.int .i64 8)), (some (2, 1), (.int .i64 16))]) fun t23 h1 =>
 bc k9 [23, 24, 25, 26, 27, 7] e (K 18 [(e.s k9 1), (.int .i64 3)] h1) fun t25 h2 =>
 bd (iaS 1 t23 t25) fun t26 =>
 bd (ld h2 t26) fun t27 =>
 some ⟨.nm, ⟨[(e.s k9 0), (e.s k9 1), (e.s k9 2), (e.s k9 3), (e.s k9 6), t27, (e.s k9 8), (e.s k9 9), (e.s k9 10), (e.s k9 11), (e.s k9 12), (e.s k9 13), (e.s k9 14), (e.s k9 15), (e.s k9 16), (e.s k9 17), (e.s k9 18), (e.s k9 19), (e.s k9 20)], 7, t27⟩, h2⟩) fun e h =>
 sq (bd (ldn 5 h (e.s k9 3)) fun t28 =>
 bc k9 [28, 29, 30] e (K 19 [t28, (e.s k9 7)] h) fun t30 h1 =>
 bf (stZ 5 h1 (e.s k9 3) t30) fun _ h2 =>
 some ⟨.nm, ⟨[(e.s k9 0), (e.s k9 1), (e.s k9 2), (e.s k9 3), (e.s k9 6), (e.s k9 7), (e.s k9 8), (e.s k9 9), (e.s k9 10), (e.s k9 11), (e.s k9 12), (e.s k9 13), (e.s k9 14), (e.s k9 15), (e.s k9 16), (e.s k9 17), (e.s k9 18), (e.s k9 19), (e.s k9 20)], 0, (e.s k9 0)⟩, h2⟩) fun e h =>
 sq (bd (ldn 5 h (e.s k9 3)) fun t31 =>
 bc k9 [31, 32, 8] e (K 11 [t31] h) fun t32 h1 =>
 bf (nw h1 25 [(.bool false), (.bool false), .nils, .nils, (.int .u8 0)]) fun t8 h2 =>
 bf (stZ 5 h2 t8 t32) fun _ h3 =>
 some ⟨.nm, ⟨[(e.s k9 0), (e.s k9 1), (e.s k9 2), (e.s k9 3), (e.s k9 6), (e.s k9 7), t8, (e.s k9 9), (e.s k9 10), (e.s k9 11), (e.s k9 12), (e.s k9 13), (e.s k9 14), (e.s k9 15), (e.s k9 16), (e.s k9 17), (e.s k9 18), (e.s k9 19), (e.s k9 20)], 0, (e.s k9 0)⟩, h3⟩) fun e h =>
 sq (bd (fa 4 (e.s k9 3)) fun t33 =>
 bd (ld h t33) fun t34 =>
 bd (binK 0 .add t34 (e.s k9 2)) fun t36 =>
 bd (fa 4 (e.s k9 8)) fun t37 =>
 bf (stZ 1 h t37 t36) fun _ h1 =>
 some ⟨.nm, ⟨[(e.s k9 0), (e.s k9 1), (e.s k9 2), (e.s k9 3), (e.s k9 6), (e.s k9 7), (e.s k9 8), (e.s k9 9), (e.s k9 10), (e.s k9 11), (e.s k9 12), (e.s k9 13), (e.s k9 14), (e.s k9 15), (e.s k9 16), (e.s k9 17), (e.s k9 18), (e.s k9 19), (e.s k9 20)], 0, (e.s k9 0)⟩, h1⟩) fun e h =>
 sq (sq (some ⟨.nm, ⟨[(e.s k9 0), (e.s k9 1), (e.s k9 2), (e.s k9 3), (e.s k9 6), (e.s k9 7), (e.s k9 8), (.int .i64 0), (e.s k9 10), (e.s k9 11), (e.s k9 12), (e.s k9 13), (e.s k9 14), (e.s k9 15), (e.s k9 16), (e.s k9 17), (e.s k9 18), (e.s k9 19), (e.s k9 20)], 9, (.int .i64 0)⟩, h⟩) fun e h =>
 blk 0 (L (l9_0 K L) e h)) fun e h =>
 sq (sq (some ⟨.nm, ⟨[(e.s k9 0), (e.s k9 1), (e.s k9 2), (e.s k9 3), (e.s k9 6), (e.s k9 7), (e.s k9 8), (e.s k9 9), (e.s k9 10), (e.s k9 11), (e.s k9 12), (e.s k9 13), (e.s k9 14), (.int .i64 0), (e.s k9 16), (e.s k9 17), (e.s k9 18), (e.s k9 19), (e.s k9 20)], 15, (.int .i64 0)⟩, h⟩) fun e h =>
 blk 2 (L (l9_1 K L) e h)) fun e h =>
 sq (bd (ldn 5 h (e.s k9 3)) fun t118 =>
 bc k9 [117, 118, 119, 116, 120, 121, 16, 17] e (K 14 [(e.s k9 7), (.int .i64 1), (.int .i64 0), t118] h) fun t119 h1 =>
 bd (exV t119 0) fun t120 =>
 bd (exV t119 1) fun t121 =>
 some ⟨.nm, ⟨[(e.s k9 0), (e.s k9 1), (e.s k9 2), (e.s k9 3), (e.s k9 6), (e.s k9 7), (e.s k9 8), (e.s k9 9), (e.s k9 10), (e.s k9 11), (e.s k9 12), (e.s k9 13), (e.s k9 14), (e.s k9 15), t120, t121, (e.s k9 18), (e.s k9 19), (e.s k9 20)], 17, t121⟩, h1⟩) fun e h =>
 sq (bd (ldn 5 h (e.s k9 8)) fun t124 =>
 bc k9 [123, 124, 125, 122, 126, 127, 18, 19] e (K 14 [(e.s k9 7), (.int .i64 1), (.int .i64 0), t124] h) fun t125 h1 =>
 bd (exV t125 0) fun t126 =>
 bd (exV t125 1) fun t127 =>
 some ⟨.nm, ⟨[(e.s k9 0), (e.s k9 1), (e.s k9 2), (e.s k9 3), (e.s k9 6), (e.s k9 7), (e.s k9 8), (e.s k9 9), (e.s k9 10), (e.s k9 11), (e.s k9 12), (e.s k9 13), (e.s k9 14), (e.s k9 15), (e.s k9 16), (e.s k9 17), t126, t127, (e.s k9 20)], 19, t127⟩, h1⟩) fun e h =>
 sq (sq (bd (binK 0 .neq (e.s k9 17) (.int .i64 0)) fun t129 =>
 bd (gl t129 false (some (e.s k9 19))) fun t131 =>
 bd (gl t129 false (binK 0 .neq t131 (.int .i64 0))) fun t132 =>
 bd (pk t129 (.bool true) t132) fun t133 =>
 bd (gl t133 false (fa 0 (e.s k9 3))) fun t135 =>
 bd (gl t133 false (ld h t135)) fun t136 =>
 bd (gl t133 false (some t136)) fun t137 =>
 bd (gl t137 true (some (e.s k9 16))) fun t138 =>
 bd (gl t137 true (some (e.s k9 18))) fun t139 =>
 bc k9 [128, 129, 130, 131, 132, 133, 134, 135, 136, 137, 138, 139, 140, 141, 142, 143] e (gk t137 true h (K 16 [t138, t139] h)) fun t140 h1 =>
 bd (gl t137 true (unV .not t140)) fun t141 =>
 bd (gl t133 false (pk t137 t141 (.bool false))) fun t142 =>
 bd (pk t133 (.bool true) t142) fun t143 =>
 some ⟨.nm, ⟨[(e.s k9 0), (e.s k9 1), (e.s k9 2), (e.s k9 3), (e.s k9 6), (e.s k9 7), (e.s k9 8), (e.s k9 9), (e.s k9 10), (e.s k9 11), (e.s k9 12), (e.s k9 13), (e.s k9 14), (e.s k9 15), (e.s k9 16), (e.s k9 17), (e.s k9 18), (e.s k9 19), (e.s k9 20)], 143, t143⟩, h1⟩) fun e h =>
 br (e.s k9 143) (sq (some ⟨.nm, ⟨[(e.s k9 0), (e.s k9 1), (e.s k9 2), (e.s k9 3), (.bool false), (e.s k9 7), (e.s k9 8), (e.s k9 9), (e.s k9 10), (e.s k9 11), (e.s k9 12), (e.s k9 13), (e.s k9 14), (e.s k9 15), (e.s k9 16), (e.s k9 17), (e.s k9 18), (e.s k9 19), (e.s k9 20)], 6, (.bool false)⟩, h⟩) fun e h =>
 some ⟨.rt, e, h⟩)
 (some ⟨.nm, e, h⟩)) fun e h =>
 sq (sq (some ⟨.nm, ⟨[(e.s k9 0), (e.s k9 1), (e.s k9 2), (e.s k9 3), (e.s k9 6), (e.s k9 7), (e.s k9 8), (e.s k9 9), (e.s k9 10), (e.s k9 11), (e.s k9 12), (e.s k9 13), (e.s k9 14), (e.s k9 15), (e.s k9 16), (e.s k9 17), (e.s k9 18), (e.s k9 19), (.int .i64 0)], 20, (.int .i64 0)⟩, h⟩) fun e h =>
 blk 4 (L (l9_2 K L) e h)) fun e h =>
 sq (bd (fa 3 (e.s k9 3)) fun t162 =>
 bd (ld h t162) fun t163 =>
 bc k9 [162, 163, 164, 165] e (K 25 [t163] h) fun t164 h1 =>
 bd (fa 3 (e.s k9 8)) fun t165 =>
 bf (stZ 1 h1 t165 t164) fun _ h2 =>
 some ⟨.nm, ⟨[(e.s k9 0), (e.s k9 1), (e.s k9 2), (e.s k9 3), (e.s k9 6), (e.s k9 7), (e.s k9 8), (e.s k9 9), (e.s k9 10), (e.s k9 11), (e.s k9 12), (e.s k9 13), (e.s k9 14), (e.s k9 15), (e.s k9 16), (e.s k9 17), (e.s k9 18), (e.s k9 19), (e.s k9 20)], 0, (e.s k9 0)⟩, h2⟩) fun e h =>
 sq (bd (ldn 5 h (e.s k9 3)) fun t168 =>
 bc k9 [167, 168, 169, 166, 170, 171, 16, 17] e (K 14 [(e.s k9 7), (.int .i64 2), (.int .i64 0), t168] h) fun t169 h1 =>
 bd (exV t169 0) fun t170 =>
 bd (exV t169 1) fun t171 =>
 some ⟨.nm, ⟨[(e.s k9 0), (e.s k9 1), (e.s k9 2), (e.s k9 3), (e.s k9 6), (e.s k9 7), (e.s k9 8), (e.s k9 9), (e.s k9 10), (e.s k9 11), (e.s k9 12), (e.s k9 13), (e.s k9 14), (e.s k9 15), t170, t171, (e.s k9 18), (e.s k9 19), (e.s k9 20)], 17, t171⟩, h1⟩) fun e h =>
 sq (bd (ldn 5 h (e.s k9 8)) fun t174 =>
 bc k9 [173, 174, 175, 172, 176, 177, 18, 19] e (K 14 [(e.s k9 7), (.int .i64 2), (.int .i64 0), t174] h) fun t175 h1 =>
 bd (exV t175 0) fun t176 =>
 bd (exV t175 1) fun t177 =>
 some ⟨.nm, ⟨[(e.s k9 0), (e.s k9 1), (e.s k9 2), (e.s k9 3), (e.s k9 6), (e.s k9 7), (e.s k9 8), (e.s k9 9), (e.s k9 10), (e.s k9 11), (e.s k9 12), (e.s k9 13), (e.s k9 14), (e.s k9 15), (e.s k9 16), (e.s k9 17), t176, t177, (e.s k9 20)], 19, t177⟩, h1⟩) fun e h =>
 sq (bd (binK 0 .eql (e.s k9 17) (.int .i64 0)) fun t179 =>
 bd (gl t179 true (some (e.s k9 19))) fun t181 =>
 bd (gl t179 true (binK 0 .eql t181 (.int .i64 0))) fun t182 =>
 bd (pk t179 t182 (.bool false)) fun t183 =>
 bd (gl t183 true (fa 1 (e.s k9 3))) fun t185 =>
 bd (gl t183 true (ld h t185)) fun t186 =>
 bd (gl t183 true (unV .not t186)) fun t187 =>
 bd (gl t183 true (some t187)) fun t188 =>
 bd (gl t188 false (some (e.s k9 16))) fun t189 =>
 bd (gl t188 false (some (e.s k9 18))) fun t190 =>
 bc k9 [178, 179, 180, 181, 182, 183, 184, 185, 186, 187, 188, 189, 190, 191, 192, 193, 6] e (gk t188 false h (K 16 [t189, t190] h)) fun t191 h1 =>
 bd (gl t183 true (pk t188 (.bool true) t191)) fun t192 =>
 bd (pk t183 t192 (.bool false)) fun t193 =>
 some ⟨.nm, ⟨[(e.s k9 0), (e.s k9 1), (e.s k9 2), (e.s k9 3), t193, (e.s k9 7), (e.s k9 8), (e.s k9 9), (e.s k9 10), (e.s k9 11), (e.s k9 12), (e.s k9 13), (e.s k9 14), (e.s k9 15), (e.s k9 16), (e.s k9 17), (e.s k9 18), (e.s k9 19), (e.s k9 20)], 6, t193⟩, h1⟩) fun e h =>
 some ⟨.rt, e, h⟩
noncomputable def f9 (K : Oracle) (L : Looper) (p0 p1 p2 : V) (h : H) : Option (Rv × H) := fin Try.prog k9 [.tmp 6] (s9 K L ⟨[p0, p1, p2, V.und, V.und, V.und, V.und, V.und, V.und, V.und, V.und, V.und, V.und, V.und, V.und, V.und, V.und, V.und, V.und], 0, p0⟩ h)
theorem r9 : (fun K L p0 p1 p2 h => runFF Try.prog kp K L 9 [p0, p1, p2] h) = f9 := by kernel_rfl
theorem c9 (p0 p1 p2 : V) (h : H) : callZ Try.prog kp 9 [p0, p1, p2] h = f9 (callZ Try.prog kp) loopZ p0 p1 p2 h :=
  (callZ_eqF _ _ _ _ _).trans (congrFun (congrFun (congrFun (congrFun (congrFun (congrFun (r9) _) _) p0) p1) p2) h)

/-- zoetrope/zoetropelaw12.IntraKnown -/
@[simp] def k10 : List Nat := [0, 1, 2, 4, 5, 6, 8, 10, 12, 14, 16, 17, 18, 20, 21, 22, 23, 24, 26, 28, 29, 64, 65, 66, 110, 111, 112]
noncomputable def l10_0 (K : Oracle) (L : Looper) (e : E) (h : H) : Out :=
 sq (bd (binK 0 .lss (e.s k10 66) (e.s k10 65)) fun t67 =>
 some ⟨.nm, ⟨[(e.s k10 0), (e.s k10 1), (e.s k10 2), (e.s k10 4), (e.s k10 5), (e.s k10 6), (e.s k10 8), (e.s k10 10), (e.s k10 12), (e.s k10 14), (e.s k10 16), (e.s k10 17), (e.s k10 18), (e.s k10 20), (e.s k10 21), (e.s k10 22), (e.s k10 23), (e.s k10 24), (e.s k10 26), (e.s k10 28), (e.s k10 29), (e.s k10 64), (e.s k10 65), (e.s k10 66), (e.s k10 110), (e.s k10 111), (e.s k10 112)], 67, t67⟩, h⟩) fun e h =>
 sq (br (e.s k10 67) (some ⟨.nm, e, h⟩)
 (some ⟨.ex 0, e, h⟩)) fun e h =>
 sq (blk 1 (sq (bd (iaS 2 (e.s k10 64) (e.s k10 66)) fun t68 =>
 bd (ldn 2 h t68) fun t69 =>
 bf (nw h 22 [(.int .i64 0), (.int .i64 0)]) fun t4 h1 =>
 bf (stZ 2 h1 t4 t69) fun _ h2 =>
 some ⟨.nm, ⟨[(e.s k10 0), (e.s k10 1), (e.s k10 2), t4, (e.s k10 5), (e.s k10 6), (e.s k10 8), (e.s k10 10), (e.s k10 12), (e.s k10 14), (e.s k10 16), (e.s k10 17), (e.s k10 18), (e.s k10 20), (e.s k10 21), (e.s k10 22), (e.s k10 23), (e.s k10 24), (e.s k10 26), (e.s k10 28), (e.s k10 29), (e.s k10 64), (e.s k10 65), (e.s k10 66), (e.s k10 110), (e.s k10 111), (e.s k10 112)], 0, (e.s k10 0)⟩, h2⟩) fun e h =>
 sq (bd (iaA 2 1 (e.s k10 4) (.int .i64 0)) fun t71 =>
 bd (ld h t71) fun t72 =>
 bd (bl [(.bool false), (.bool false), .nils, .nils, (.int .u8 0)] [(some (4, 1), (.int .u8 7))]) fun t73 =>
 bc k10 [71, 72, 73, 74, 70, 75, 76, 5, 6] e (K 14 [(.int .i64 4), t72, (.int .i64 0), t73] h) fun t74 h1 =>
 bd (exV t74 0) fun t75 =>
 bd (exV t74 1) fun t76 =>
 some ⟨.nm, ⟨[(e.s k10 0), (e.s k10 1), (e.s k10 2), (e.s k10 4), t75, t76, (e.s k10 8), (e.s k10 10), (e.s k10 12), (e.s k10 14), (e.s k10 16), (e.s k10 17), (e.s k10 18), (e.s k10 20), (e.s k10 21), (e.s k10 22), (e.s k10 23), (e.s k10 24), (e.s k10 26), (e.s k10 28), (e.s k10 29), (e.s k10 64), (e.s k10 65), (e.s k10 66), (e.s k10 110), (e.s k10 111), (e.s k10 112)], 6, t76⟩, h1⟩) fun e h =>
 sq (bd (binK 0 .neq (e.s k10 6) (.int .i64 0)) fun t78 =>
 bd (gl t78 false (some (e.s k10 5))) fun t80 =>
 bd (gl t78 false (lnS t80)) fun t81 =>
 bd (gl t78 false (binK 0 .neq t81 (.int .i64 16))) fun t82 =>
 bd (pk t78 (.bool true) t82) fun t83 =>
 bd (gl t83 false (some (e.s k10 5))) fun t85 =>
 bd (gl t83 false (iaS 1 t85 (.int .i64 0))) fun t86 =>
 bd (gl t83 false (ld h t86)) fun t87 =>
 bd (gl t83 false (cv .i64 t87)) fun t88 =>
 bd (gl t83 false (iaA 2 1 (e.s k10 4) (.int .i64 1))) fun t89 =>
 bd (gl t83 false (ld h t89)) fun t90 =>
 bd (gl t83 false (binK 0 .neq t88 t90)) fun t91 =>
 bd (pk t83 (.bool true) t91) fun t92 =>
 bd (gl t92 false (some (e.s k10 5))) fun t94 =>
 bd (gl t92 false (iaS 1 t94 (.int .i64 15))) fun t95 =>
 bd (gl t92 false (ld h t95)) fun t96 =>
 bd (gl t92 false (cv .i64 t96)) fun t97 =>
 bd (gl t92 false (iaA 2 1 (e.s k10 4) (.int .i64 1))) fun t98 =>
 bd (gl t92 false (ld h t98)) fun t99 =>
 bd (gl t92 false (binK 0 .neq t97 t99)) fun t100 =>
 bd (pk t92 (.bool true) t100) fun t101 =>
 ck (gl t83 false (ld h t86)) t87 (ck (gl t83 false (ld h t89)) t90 (ck (gl t92 false (ld h t95)) t96 (ck (gl t92 false (ld h t98)) t99 (some ⟨.nm, ⟨[(e.s k10 0), (e.s k10 1), (e.s k10 2), (e.s k10 4), (e.s k10 5), (e.s k10 6), (e.s k10 8), (e.s k10 10), (e.s k10 12), (e.s k10 14), (e.s k10 16), (e.s k10 17), (e.s k10 18), (e.s k10 20), (e.s k10 21), (e.s k10 22), (e.s k10 23), (e.s k10 24), (e.s k10 26), (e.s k10 28), (e.s k10 29), (e.s k10 64), (e.s k10 65), (e.s k10 66), (e.s k10 110), (e.s k10 111), (e.s k10 112)], 101, t101⟩, h⟩))))) fun e h =>
 br (e.s k10 101) (sq (some ⟨.nm, ⟨[(.bool false), (e.s k10 1), (e.s k10 2), (e.s k10 4), (e.s k10 5), (e.s k10 6), (e.s k10 8), (e.s k10 10), (e.s k10 12), (e.s k10 14), (e.s k10 16), (e.s k10 17), (e.s k10 18), (e.s k10 20), (e.s k10 21), (e.s k10 22), (e.s k10 23), (e.s k10 24), (e.s k10 26), (e.s k10 28), (e.s k10 29), (e.s k10 64), (e.s k10 65), (e.s k10 66), (e.s k10 110), (e.s k10 111), (e.s k10 112)], 0, (.bool false)⟩, h⟩) fun e h =>
 some ⟨.rt, e, h⟩)
 (some ⟨.nm, e, h⟩))) fun e h =>
 bd (binK 0 .add (e.s k10 66) (.int .i64 1)) fun t102 =>
 some ⟨.nm, ⟨[(e.s k10 0), (e.s k10 1), (e.s k10 2), (e.s k10 4), (e.s k10 5), (e.s k10 6), (e.s k10 8), (e.s k10 10), (e.s k10 12), (e.s k10 14), (e.s k10 16), (e.s k10 17), (e.s k10 18), (e.s k10 20), (e.s k10 21), (e.s k10 22), (e.s k10 23), (e.s k10 24), (e.s k10 26), (e.s k10 28), (e.s k10 29), (e.s k10 64), (e.s k10 65), t102, (e.s k10 110), (e.s k10 111), (e.s k10 112)], 66, t102⟩, h⟩
noncomputable def l10_1 (K : Oracle) (L : Looper) (e : E) (h : H) : Out :=
 sq (bd (binK 0 .lss (e.s k10 112) (e.s k10 111)) fun t113 =>
 some ⟨.nm, ⟨[(e.s k10 0), (e.s k10 1), (e.s k10 2), (e.s k10 4), (e.s k10 5), (e.s k10 6), (e.s k10 8), (e.s k10 10), (e.s k10 12), (e.s k10 14), (e.s k10 16), (e.s k10 17), (e.s k10 18), (e.s k10 20), (e.s k10 21), (e.s k10 22), (e.s k10 23), (e.s k10 24), (e.s k10 26), (e.s k10 28), (e.s k10 29), (e.s k10 64), (e.s k10 65), (e.s k10 66), (e.s k10 110), (e.s k10 111), (e.s k10 112)], 113, t113⟩, h⟩) fun e h =>
 sq (br (e.s k10 113) (some ⟨.nm, e, h⟩)
 (some ⟨.ex 2, e, h⟩)) fun e h =>
 sq (blk 3 (sq (bd (iaS 3 (e.s k10 110) (e.s k10 112)) fun t114 =>
 bd (ldn 3 h t114) fun t115 =>
 bf (nw h 50 [(.int .i64 0), (.int .i64 0), (.int .i64 0)]) fun t8 h1 =>
 bf (stZ 3 h1 t8 t115) fun _ h2 =>
 some ⟨.nm, ⟨[(e.s k10 0), (e.s k10 1), (e.s k10 2), (e.s k10 4), (e.s k10 5), (e.s k10 6), t8, (e.s k10 10), (e.s k10 12), (e.s k10 14), (e.s k10 16), (e.s k10 17), (e.s k10 18), (e.s k10 20), (e.s k10 21), (e.s k10 22), (e.s k10 23), (e.s k10 24), (e.s k10 26), (e.s k10 28), (e.s k10 29), (e.s k10 64), (e.s k10 65), (e.s k10 66), (e.s k10 110), (e.s k10 111), (e.s k10 112)], 0, (e.s k10 0)⟩, h2⟩) fun e h =>
 sq (bn (K 27 [] h) fun t121 h1 =>
 bd (iaA 3 1 (e.s k10 8) (.int .i64 0)) fun t117 =>
 bd (ld h1 t117) fun t118 =>
 bd (iaA 3 1 (e.s k10 8) (.int .i64 1)) fun t119 =>
 bd (ld h1 t119) fun t120 =>
 bn (K 14 [(.int .i64 4), t118, t120, t121] h1) fun t122 h2 =>
 bd (exV t122 0) fun t123 =>
 bd (exV t122 1) fun t124 =>
 ck (ld h t117) t118 (ck (ld h1 t117) t118 (ck (ld h t119) t120 (ck (ld h1 t119) t120 (some ⟨.nm, ⟨[(e.s k10 0), (e.s k10 1), (e.s k10 2), (e.s k10 4), (e.s k10 5), (e.s k10 6), (e.s k10 8), t124, (e.s k10 12), (e.s k10 14), (e.s k10 16), (e.s k10 17), (e.s k10 18), (e.s k10 20), (e.s k10 21), (e.s k10 22), (e.s k10 23), (e.s k10 24), (e.s k10 26), (e.s k10 28), (e.s k10 29), (e.s k10 64), (e.s k10 65), (e.s k10 66), (e.s k10 110), (e.s k10 111), (e.s k10 112)], 10, t124⟩, h2⟩))))) fun e h =>
 sq (bd (iaA 3 1 (e.s k10 8) (.int .i64 2)) fun t126 =>
 bd (ld h t126) fun t127 =>
 bd (binK 0 .neq (e.s k10 10) t127) fun t128 =>
 some ⟨.nm, ⟨[(e.s k10 0), (e.s k10 1), (e.s k10 2), (e.s k10 4), (e.s k10 5), (e.s k10 6), (e.s k10 8), (e.s k10 10), (e.s k10 12), (e.s k10 14), (e.s k10 16), (e.s k10 17), (e.s k10 18), (e.s k10 20), (e.s k10 21), (e.s k10 22), (e.s k10 23), (e.s k10 24), (e.s k10 26), (e.s k10 28), (e.s k10 29), (e.s k10 64), (e.s k10 65), (e.s k10 66), (e.s k10 110), (e.s k10 111), (e.s k10 112)], 128, t128⟩, h⟩) fun e h =>
 br (e.s k10 128) (sq (some ⟨.nm, ⟨[(.bool false), (e.s k10 1), (e.s k10 2), (e.s k10 4), (e.s k10 5), (e.s k10 6), (e.s k10 8), (e.s k10 10), (e.s k10 12), (e.s k10 14), (e.s k10 16), (e.s k10 17), (e.s k10 18), (e.s k10 20), (e.s k10 21), (e.s k10 22), (e.s k10 23), (e.s k10 24), (e.s k10 26), (e.s k10 28), (e.s k10 29), (e.s k10 64), (e.s k10 65), (e.s k10 66), (e.s k10 110), (e.s k10 111), (e.s k10 112)], 0, (.bool false)⟩, h⟩) fun e h =>
 some ⟨.rt, e, h⟩)
 (some ⟨.nm, e, h⟩))) fun e h =>
 bd (binK 0 .add (e.s k10 112) (.int .i64 1)) fun t129 =>
 some ⟨.nm, ⟨[(e.s k10 0), (e.s k10 1), (e.s k10 2), (e.s k10 4), (e.s k10 5), (e.s k10 6), (e.s k10 8), (e.s k10 10), (e.s k10 12), (e.s k10 14), (e.s k10 16), (e.s k10 17), (e.s k10 18), (e.s k10 20), (e.s k10 21), (e.s k10 22), (e.s k10 23), (e.s k10 24), (e.s k10 26), (e.s k10 28), (e.s k10 29), (e.s k10 64), (e.s k10 65), (e.s k10 66), (e.s k10 110), (e.s k10 111), t129], 112, t129⟩, h⟩
noncomputable def l10_2 (K : Oracle) (L : Looper) (e : E) (h : H) : Out :=
 sq (sq (bd (lnS (e.s k10 17)) fun t155 =>
 bd (binK 0 .lss (e.s k10 18) t155) fun t156 =>
 some ⟨.nm, ⟨[(e.s k10 0), (e.s k10 1), (e.s k10 2), (e.s k10 4), (e.s k10 5), (e.s k10 6), (e.s k10 8), (e.s k10 10), (e.s k10 12), (e.s k10 14), (e.s k10 16), (e.s k10 17), (e.s k10 18), (e.s k10 20), (e.s k10 21), (e.s k10 22), (e.s k10 23), (e.s k10 24), (e.s k10 26), (e.s k10 28), (e.s k10 29), (e.s k10 64), (e.s k10 65), (e.s k10 66), (e.s k10 110), (e.s k10 111), (e.s k10 112)], 156, t156⟩, h⟩) fun e h =>
 br (e.s k10 156) (some ⟨.nm, e, h⟩)
 (some ⟨.ex 4, e, h⟩)) fun e h =>
 sq (blk 5 (sq (bd (iaS 5 (e.s k10 17) (e.s k10 18)) fun t162 =>
 bd (ldn 5 h t162) fun t163 =>
 bc k10 [160, 161, 162, 163, 164, 159, 165, 166, 19, 20] e (K 14 [(.int .i64 4), (.int .i64 0), (.int .i64 0), t163] h) fun t164 h1 =>
 bd (exV t164 0) fun t165 =>
 bd (exV t164 1) fun t166 =>
 some ⟨.nm, ⟨[(e.s k10 0), (e.s k10 1), (e.s k10 2), (e.s k10 4), (e.s k10 5), (e.s k10 6), (e.s k10 8), (e.s k10 10), (e.s k10 12), (e.s k10 14), (e.s k10 16), (e.s k10 17), (e.s k10 18), t166, (e.s k10 21), (e.s k10 22), (e.s k10 23), (e.s k10 24), (e.s k10 26), (e.s k10 28), (e.s k10 29), (e.s k10 64), (e.s k10 65), (e.s k10 66), (e.s k10 110), (e.s k10 111), (e.s k10 112)], 20, t166⟩, h1⟩) fun e h =>
 sq (bd (iaS 5 (e.s k10 17) (e.s k10 18)) fun t169 =>
 bd (ldn 5 h t169) fun t170 =>
 bc k10 [167, 168, 169, 170, 171, 172, 173, 174, 175, 176] e (K 12 [(.int .i64 4), t170] h) fun t171 h1 =>
 bd (binK 0 .neq t171 (.int .i64 2)) fun t172 =>
 bd (gl t172 false (some (e.s k10 20))) fun t174 =>
 bd (gl t172 false (binK 0 .neq t174 (.int .i64 2))) fun t175 =>
 bd (pk t172 (.bool true) t175) fun t176 =>
 some ⟨.nm, ⟨[(e.s k10 0), (e.s k10 1), (e.s k10 2), (e.s k10 4), (e.s k10 5), (e.s k10 6), (e.s k10 8), (e.s k10 10), (e.s k10 12), (e.s k10 14), (e.s k10 16), (e.s k10 17), (e.s k10 18), (e.s k10 20), (e.s k10 21), (e.s k10 22), (e.s k10 23), (e.s k10 24), (e.s k10 26), (e.s k10 28), (e.s k10 29), (e.s k10 64), (e.s k10 65), (e.s k10 66), (e.s k10 110), (e.s k10 111), (e.s k10 112)], 176, t176⟩, h1⟩) fun e h =>
 br (e.s k10 176) (sq (some ⟨.nm, ⟨[(.bool false), (e.s k10 1), (e.s k10 2), (e.s k10 4), (e.s k10 5), (e.s k10 6), (e.s k10 8), (e.s k10 10), (e.s k10 12), (e.s k10 14), (e.s k10 16), (e.s k10 17), (e.s k10 18), (e.s k10 20), (e.s k10 21), (e.s k10 22), (e.s k10 23), (e.s k10 24), (e.s k10 26), (e.s k10 28), (e.s k10 29), (e.s k10 64), (e.s k10 65), (e.s k10 66), (e.s k10 110), (e.s k10 111), (e.s k10 112)], 0, (.bool false)⟩, h⟩) fun e h =>
 some ⟨.rt, e, h⟩)
 (some ⟨.nm, e, h⟩))) fun e h =>
 bd (binK 0 .add (e.s k10 18) (.int .i64 1)) fun t158 =>
 some ⟨.nm, ⟨[(e.s k10 0), (e.s k10 1), (e.s k10 2), (e.s k10 4), (e.s k10 5), (e.s k10 6), (e.s k10 8), (e.s k10 10), (e.s k10 12), (e.s k10 14), (e.s k10 16), (e.s k10 17), t158, (e.s k10 20), (e.s k10 21), (e.s k10 22), (e.s k10 23), (e.s k10 24), (e.s k10 26), (e.s k10 28), (e.s k10 29), (e.s k10 64), (e.s k10 65), (e.s k10 66), (e.s k10 110), (e.s k10 111), (e.s k10 112)], 18, t158⟩, h⟩
noncomputable def s10 (K : Oracle) (L : Looper) (e : E) (h : H) : Out :=
 sq (some ⟨.nm, ⟨[(.bool false), (e.s k10 1), (e.s k10 2), (e.s k10 4), (e.s k10 5), (e.s k10 6), (e.s k10 8), (e.s k10 10), (e.s k10 12), (e.s k10 14), (e.s k10 16), (e.s k10 17), (e.s k10 18), (e.s k10 20), (e.s k10 21), (e.s k10 22), (e.s k10 23), (e.s k10 24), (e.s k10 26), (e.s k10 28), (e.s k10 29), (e.s k10 64), (e.s k10 65), (e.s k10 66), (e.s k10 110), (e.s k10 111), (e.s k10 112)], 0, (.bool false)⟩, h⟩) fun e h =>
 sq (bc k10 [30, 31, 32, 33, 34, 35, 36, 37, 38, 39, 40, 41, 42, 1] e (K 26 [(.int .i64 1), (.int .i64 0)] h) fun t30 h1 =>
 bf (bs h1 5 16 (List.replicate 16 (.int .u8 0)) [(some (0, 1), (.int .u8 10)), (some (1, 1), (.int .u8 20)), (some (2, 1), (.int .u8 30)), (some (3, 1), (.int .u8 40)), (some (4, 1), (.int .u8 10)), (some (5, 1), (.int .u8 20)), (some (6, 1), (.int .u8 30)), (some (7, 1), (.int .u8 40)), (some (8, 1), (.int .u8 10)), (some (9, 1), (.int .u8 20)), (some (10, 1), (.int .u8 30)), (some (11, 1), (.int .u8 40)), (some (12, 1), (.int .u8 10)), (some (13, 1), (.int .u8 20)), (some (14, 1), (.int .u8 30)), (some (15, 1), (.int .u8 40))]) fun t31 h2 =>
 bc k10 [30, 31, 32, 33, 34, 35, 36, 37, 38, 39, 40, 41, 42, 1] e (K 16 [t30, t31] h2) fun t32 h3 =>
 bc k10 [30, 31, 32, 33, 34, 35, 36, 37, 38, 39, 40, 41, 42, 1] e (gk t32 true h3 (K 26 [(.int .i64 2), (.int .i64 0)] h3)) fun t34 h4 =>
 bf (gf t32 true h4 (bs h4 5 16 (List.replicate 16 (.int .u8 0)) [(some (0, 1), (.int .u8 50)), (some (1, 1), (.int .u8 50)), (some (2, 1), (.int .u8 50)), (some (3, 1), (.int .u8 50)), (some (4, 1), (.int .u8 60)), (some (5, 1), (.int .u8 60)), (some (6, 1), (.int .u8 60)), (some (7, 1), (.int .u8 60)), (some (8, 1), (.int .u8 70)), (some (9, 1), (.int .u8 70)), (some (10, 1), (.int .u8 70)), (some (11, 1), (.int .u8 70)), (some (12, 1), (.int .u8 80)), (some (13, 1), (.int .u8 80)), (some (14, 1), (.int .u8 80)), (some (15, 1), (.int .u8 80))])) fun t35 h5 =>
 bc k10 [30, 31, 32, 33, 34, 35, 36, 37, 38, 39, 40, 41, 42, 1] e (gk t32 true h5 (K 16 [t34, t35] h5)) fun t36 h6 =>
 bd (pk t32 t36 (.bool false)) fun t37 =>
 bc k10 [30, 31, 32, 33, 34, 35, 36, 37, 38, 39, 40, 41, 42, 1] e (gk t37 true h6 (K 26 [(.int .i64 3), (.int .i64 0)] h6)) fun t39 h7 =>
 bf (gf t37 true h7 (bs h7 5 16 (List.replicate 16 (.int .u8 0)) [(some (0, 1), (.int .u8 20)), (some (1, 1), (.int .u8 30)), (some (2, 1), (.int .u8 40)), (some (3, 1), (.int .u8 40)), (some (4, 1), (.int .u8 30)), (some (5, 1), (.int .u8 40)), (some (6, 1), (.int .u8 40)), (some (7, 1), (.int .u8 40)), (some (8, 1), (.int .u8 40)), (some (9, 1), (.int .u8 40)), (some (10, 1), (.int .u8 40)), (some (11, 1), (.int .u8 40)), (some (12, 1), (.int .u8 40)), (some (13, 1), (.int .u8 40)), (some (14, 1), (.int .u8 40)), (some (15, 1), (.int .u8 40))])) fun t40 h8 =>
 bc k10 [30, 31, 32, 33, 34, 35, 36, 37, 38, 39, 40, 41, 42, 1] e (gk t37 true h8 (K 16 [t39, t40] h8)) fun t41 h9 =>
 bd (pk t37 t41 (.bool false)) fun t42 =>
 some ⟨.nm, ⟨[(e.s k10 0), t42, (e.s k10 2), (e.s k10 4), (e.s k10 5), (e.s k10 6), (e.s k10 8), (e.s k10 10), (e.s k10 12), (e.s k10 14), (e.s k10 16), (e.s k10 17), (e.s k10 18), (e.s k10 20), (e.s k10 21), (e.s k10 22), (e.s k10 23), (e.s k10 24), (e.s k10 26), (e.s k10 28), (e.s k10 29), (e.s k10 64), (e.s k10 65), (e.s k10 66), (e.s k10 110), (e.s k10 111), (e.s k10 112)], 1, t42⟩, h9⟩) fun e h =>
 sq (bc k10 [43, 44, 45, 46, 47, 48, 49, 50, 51, 52, 53, 54, 55, 56, 57, 58, 59, 60, 2] e (K 26 [(.int .i64 5), (.int .i64 1)] h) fun t43 h1 =>
 bf (bs h1 5 16 (List.replicate 16 (.int .u8 0)) [(some (0, 1), (.int .u8 7)), (some (1, 1), (.int .u8 15)), (some (2, 1), (.int .u8 25)), (some (3, 1), (.int .u8 36)), (some (4, 1), (.int .u8 5)), (some (5, 1), (.int .u8 10)), (some (6, 1), (.int .u8 20)), (some (7, 1), (.int .u8 30)), (some (8, 1), (.int .u8 47)), (some (9, 1), (.int .u8 7)), (some (10, 1), (.int .u8 15)), (some (11, 1), (.int .u8 25)), (some (12, 1), (.int .u8 60)), (some (13, 1), (.int .u8 5)), (some (14, 1), (.int .u8 11)), (some (15, 1), (.int .u8 21))]) fun t44 h2 =>
 bc k10 [43, 44, 45, 46, 47, 48, 49, 50, 51, 52, 53, 54, 55, 56, 57, 58, 59, 60, 2] e (K 16 [t43, t44] h2) fun t45 h3 =>
 bc k10 [43, 44, 45, 46, 47, 48, 49, 50, 51, 52, 53, 54, 55, 56, 57, 58, 59, 60, 2] e (gk t45 true h3 (K 26 [(.int .i64 7), (.int .i64 3)] h3)) fun t47 h4 =>
 bf (gf t45 true h4 (bs h4 5 16 (List.replicate 16 (.int .u8 0)) [(some (0, 1), (.int .u8 58)), (some (1, 1), (.int .u8 63)), (some (2, 1), (.int .u8 69)), (some (3, 1), (.int .u8 76)), (some (4, 1), (.int .u8 66)), (some (5, 1), (.int .u8 73)), (some (6, 1), (.int .u8 79)), (some (7, 1), (.int .u8 81)), (some (8, 1), (.int .u8 77)), (some (9, 1), (.int .u8 81)), (some (10, 1), (.int .u8 80)), (some (11, 1), (.int .u8 80)), (some (12, 1), (.int .u8 81)), (some (13, 1), (.int .u8 80)), (some (14, 1), (.int .u8 80)), (some (15, 1), (.int .u8 80))])) fun t48 h5 =>
 bc k10 [43, 44, 45, 46, 47, 48, 49, 50, 51, 52, 53, 54, 55, 56, 57, 58, 59, 60, 2] e (gk t45 true h5 (K 16 [t47, t48] h5)) fun t49 h6 =>
 bd (pk t45 t49 (.bool false)) fun t50 =>
 bc k10 [43, 44, 45, 46, 47, 48, 49, 50, 51, 52, 53, 54, 55, 56, 57, 58, 59, 60, 2] e (gk t50 true h6 (K 26 [(.int .i64 11), (.int .i64 0)] h6)) fun t52 h7 =>
 bf (gf t50 true h7 (bs h7 5 16 (List.replicate 16 (.int .u8 0)) [(some (0, 1), (.int .u8 50)), (some (1, 1), (.int .u8 47)), (some (2, 1), (.int .u8 44)), (some (3, 1), (.int .u8 41)), (some (4, 1), (.int .u8 60)), (some (5, 1), (.int .u8 54)), (some (6, 1), (.int .u8 48)), (some (7, 1), (.int .u8 42)), (some (8, 1), (.int .u8 70)), (some (9, 1), (.int .u8 61)), (some (10, 1), (.int .u8 52)), (some (11, 1), (.int .u8 44)), (some (12, 1), (.int .u8 80)), (some (13, 1), (.int .u8 68)), (some (14, 1), (.int .u8 57)), (some (15, 1), (.int .u8 45))])) fun t53 h8 =>
 bc k10 [43, 44, 45, 46, 47, 48, 49, 50, 51, 52, 53, 54, 55, 56, 57, 58, 59, 60, 2] e (gk t50 true h8 (K 16 [t52, t53] h8)) fun t54 h9 =>
 bd (pk t50 t54 (.bool false)) fun t55 =>
 bc k10 [43, 44, 45, 46, 47, 48, 49, 50, 51, 52, 53, 54, 55, 56, 57, 58, 59, 60, 2] e (gk t55 true h9 (K 26 [(.int .i64 12), (.int .i64 0)] h9)) fun t57 h10 =>
 bc k10 [43, 44, 45, 46, 47, 48, 49, 50, 51, 52, 53, 54, 55, 56, 57, 58, 59, 60, 2] e (gk t55 true h10 (K 26 [(.int .i64 2), (.int .i64 0)] h10)) fun t58 h11 =>
 bc k10 [43, 44, 45, 46, 47, 48, 49, 50, 51, 52, 53, 54, 55, 56, 57, 58, 59, 60, 2] e (gk t55 true h11 (K 16 [t57, t58] h11)) fun t59 h12 =>
 bd (pk t55 t59 (.bool false)) fun t60 =>
 some ⟨.nm, ⟨[(e.s k10 0), (e.s k10 1), t60, (e.s k10 4), (e.s k10 5), (e.s k10 6), (e.s k10 8), (e.s k10 10), (e.s k10 12), (e.s k10 14), (e.s k10 16), (e.s k10 17), (e.s k10 18), (e.s k10 20), (e.s k10 21), (e.s k10 22), (e.s k10 23), (e.s k10 24), (e.s k10 26), (e.s k10 28), (e.s k10 29), (e.s k10 64), (e.s k10 65), (e.s k10 66), (e.s k10 110), (e.s k10 111), (e.s k10 112)], 2, t60⟩, h12⟩) fun e h =>
 sq (sq (bd (bl [(.int .i64 0), (.int .i64 0)] [(some (0, 1), (.int .i64 0)), (some (1, 1), (.int .i64 128))]) fun t61 =>
 bd (bl [(.int .i64 0), (.int .i64 0)] [(some (0, 1), (.int .i64 1)), (some (1, 1), (.int .i64 127))]) fun t62 =>
 bd (bl [(.int .i64 0), (.int .i64 0)] [(some (0, 1), (.int .i64 2)), (some (1, 1), (.int .i64 129))]) fun t63 =>
 bf (bs h 22 3 [(.int .i64 0), (.int .i64 0), (.int .i64 0), (.int .i64 0), (.int .i64 0), (.int .i64 0)] [(some (0, 2), t61), (some (2, 2), t62), (some (4, 2), t63)]) fun t64 h1 =>
 bd (lnS t64) fun t65 =>
 some ⟨.nm, ⟨[(e.s k10 0), (e.s k10 1), (e.s k10 2), (e.s k10 4), (e.s k10 5), (e.s k10 6), (e.s k10 8), (e.s k10 10), (e.s k10 12), (e.s k10 14), (e.s k10 16), (e.s k10 17), (e.s k10 18), (e.s k10 20), (e.s k10 21), (e.s k10 22), (e.s k10 23), (e.s k10 24), (e.s k10 26), (e.s k10 28), (e.s k10 29), t64, t65, (.int .i64 0), (e.s k10 110), (e.s k10 111), (e.s k10 112)], 66, (.int .i64 0)⟩, h1⟩) fun e h =>
 blk 0 (L (l10_0 K L) e h)) fun e h =>
 sq (sq (bd (bl [(.int .i64 0), (.int .i64 0), (.int .i64 0)] [(some (0, 1), (.int .i64 12)), (some (1, 1), (.int .i64 1)), (some (2, 1), (.int .i64 120))]) fun t103 =>
 bd (bl [(.int .i64 0), (.int .i64 0), (.int .i64 0)] [(some (0, 1), (.int .i64 13)), (some (1, 1), (.int .i64 0)), (some (2, 1), (.int .i64 120))]) fun t104 =>
 bd (bl [(.int .i64 0), (.int .i64 0), (.int .i64 0)] [(some (0, 1), (.int .i64 (-1))), (some (1, 1), (.int .i64 0)), (some (2, 1), (.int .i64 120))]) fun t105 =>
 bd (bl [(.int .i64 0), (.int .i64 0), (.int .i64 0)] [(some (0, 1), (.int .i64 1)), (some (1, 1), (.int .i64 4)), (some (2, 1), (.int .i64 120))]) fun t106 =>
 bd (bl [(.int .i64 0), (.int .i64 0), (.int .i64 0)] [(some (0, 1), (.int .i64 1)), (some (1, 1), (.int .i64 (-4))), (some (2, 1), (.int .i64 120))]) fun t107 =>
 bd (bl [(.int .i64 0), (.int .i64 0), (.int .i64 0)] [(some (0, 1), (.int .i64 0)), (some (1, 1), (.int .i64 1)), (some (2, 1), (.int .i64 120))]) fun t108 =>
 bd (bl [(.int .i64 0), (.int .i64 0), (.int .i64 0)] [(some (0, 1), (.int .i64 8)), (some (1, 1), (.int .i64 3)), (some (2, 1), (.int .i64 0))]) fun t109 =>
 bf (bs h 50 7 (List.replicate 21 (.int .i64 0)) [(some (0, 3), t103), (some (3, 3), t104), (some (6, 3), t105), (some (9, 3), t106), (some (12, 3), t107), (some (15, 3), t108), (some (18, 3), t109)]) fun t110 h1 =>
 bd (lnS t110) fun t111 =>
 some ⟨.nm, ⟨[(e.s k10 0), (e.s k10 1), (e.s k10 2), (e.s k10 4), (e.s k10 5), (e.s k10 6), (e.s k10 8), (e.s k10 10), (e.s k10 12), (e.s k10 14), (e.s k10 16), (e.s k10 17), (e.s k10 18), (e.s k10 20), (e.s k10 21), (e.s k10 22), (e.s k10 23), (e.s k10 24), (e.s k10 26), (e.s k10 28), (e.s k10 29), (e.s k10 64), (e.s k10 65), (e.s k10 66), t110, t111, (.int .i64 0)], 112, (.int .i64 0)⟩, h1⟩) fun e h =>
 blk 2 (L (l10_1 K L) e h)) fun e h =>
 sq (bc k10 [131, 132, 130, 133, 134, 11, 12] e (K 27 [] h) fun t131 h1 =>
 bc k10 [131, 132, 130, 133, 134, 11, 12] e (K 14 [(.int .i64 5), (.int .i64 99), (.int .i64 9), t131] h1) fun t132 h2 =>
 bd (exV t132 0) fun t133 =>
 bd (exV t132 1) fun t134 =>
 some ⟨.nm, ⟨[(e.s k10 0), (e.s k10 1), (e.s k10 2), (e.s k10 4), (e.s k10 5), (e.s k10 6), (e.s k10 8), (e.s k10 10), t134, (e.s k10 14), (e.s k10 16), (e.s k10 17), (e.s k10 18), (e.s k10 20), (e.s k10 21), (e.s k10 22), (e.s k10 23), (e.s k10 24), (e.s k10 26), (e.s k10 28), (e.s k10 29), (e.s k10 64), (e.s k10 65), (e.s k10 66), (e.s k10 110), (e.s k10 111), (e.s k10 112)], 12, t134⟩, h2⟩) fun e h =>
 sq (bc k10 [136, 137, 135, 138, 139, 13, 14] e (K 27 [] h) fun t136 h1 =>
 bc k10 [136, 137, 135, 138, 139, 13, 14] e (K 14 [(.int .i64 8), (.int .i64 0), (.int .i64 0), t136] h1) fun t137 h2 =>
 bd (exV t137 0) fun t138 =>
 bd (exV t137 1) fun t139 =>
 some ⟨.nm, ⟨[(e.s k10 0), (e.s k10 1), (e.s k10 2), (e.s k10 4), (e.s k10 5), (e.s k10 6), (e.s k10 8), (e.s k10 10), (e.s k10 12), t139, (e.s k10 16), (e.s k10 17), (e.s k10 18), (e.s k10 20), (e.s k10 21), (e.s k10 22), (e.s k10 23), (e.s k10 24), (e.s k10 26), (e.s k10 28), (e.s k10 29), (e.s k10 64), (e.s k10 65), (e.s k10 66), (e.s k10 110), (e.s k10 111), (e.s k10 112)], 14, t139⟩, h2⟩) fun e h =>
 sq (bc k10 [141, 142, 140, 143, 144, 15, 16] e (K 27 [] h) fun t141 h1 =>
 bc k10 [141, 142, 140, 143, 144, 15, 16] e (K 14 [(.int .i64 8), (.int .i64 99), (.int .i64 0), t141] h1) fun t142 h2 =>
 bd (exV t142 0) fun t143 =>
 bd (exV t142 1) fun t144 =>
 some ⟨.nm, ⟨[(e.s k10 0), (e.s k10 1), (e.s k10 2), (e.s k10 4), (e.s k10 5), (e.s k10 6), (e.s k10 8), (e.s k10 10), (e.s k10 12), (e.s k10 14), t144, (e.s k10 17), (e.s k10 18), (e.s k10 20), (e.s k10 21), (e.s k10 22), (e.s k10 23), (e.s k10 24), (e.s k10 26), (e.s k10 28), (e.s k10 29), (e.s k10 64), (e.s k10 65), (e.s k10 66), (e.s k10 110), (e.s k10 111), (e.s k10 112)], 16, t144⟩, h2⟩) fun e h =>
 sq (bd (bl [(.bool false), (.bool false), .nils, .nils, (.int .u8 0)] [(some (0, 1), (.bool true))]) fun t145 =>
 bf (bs h 5 4 [(.int .u8 0), (.int .u8 0), (.int .u8 0), (.int .u8 0)] [(some (0, 1), (.int .u8 1)), (some (1, 1), (.int .u8 2)), (some (2, 1), (.int .u8 3)), (some (3, 1), (.int .u8 4))]) fun t146 h1 =>
 bd (bl [(.bool false), (.bool false), .nils, .nils, (.int .u8 0)] [(some (2, 1), t146)]) fun t147 =>
 bf (bs h1 5 3 [(.int .u8 0), (.int .u8 0), (.int .u8 0)] [(some (0, 1), (.int .u8 1)), (some (1, 1), (.int .u8 2)), (some (2, 1), (.int .u8 3))]) fun t148 h2 =>
 bd (bl [(.bool false), (.bool false), .nils, .nils, (.int .u8 0)] [(some (1, 1), (.bool true)), (some (3, 1), t148)]) fun t149 =>
 bf (bs h2 5 1 [(.int .u8 0)] [(some (0, 1), (.int .u8 1))]) fun t150 h3 =>
 bd (bl [(.bool false), (.bool false), .nils, .nils, (.int .u8 0)] [(some (3, 1), t150)]) fun t151 =>
 bf (bs h3 25 4 [(.bool false), (.bool false), .nils, .nils, (.int .u8 0), (.bool false), (.bool false), .nils, .nils, (.int .u8 0), (.bool false), (.bool false), .nils, .nils, (.int .u8 0), (.bool false), (.bool false), .nils, .nils, (.int .u8 0)] [(some (0, 5), t145), (some (5, 5), t147), (some (10, 5), t149), (some (15, 5), t151)]) fun t152 h4 =>
 some ⟨.nm, ⟨[(e.s k10 0), (e.s k10 1), (e.s k10 2), (e.s k10 4), (e.s k10 5), (e.s k10 6), (e.s k10 8), (e.s k10 10), (e.s k10 12), (e.s k10 14), (e.s k10 16), t152, (e.s k10 18), (e.s k10 20), (e.s k10 21), (e.s k10 22), (e.s k10 23), (e.s k10 24), (e.s k10 26), (e.s k10 28), (e.s k10 29), (e.s k10 64), (e.s k10 65), (e.s k10 66), (e.s k10 110), (e.s k10 111), (e.s k10 112)], 17, t152⟩, h4⟩) fun e h =>
 sq (sq (some ⟨.nm, ⟨[(e.s k10 0), (e.s k10 1), (e.s k10 2), (e.s k10 4), (e.s k10 5), (e.s k10 6), (e.s k10 8), (e.s k10 10), (e.s k10 12), (e.s k10 14), (e.s k10 16), (e.s k10 17), (.int .i64 0), (e.s k10 20), (e.s k10 21), (e.s k10 22), (e.s k10 23), (e.s k10 24), (e.s k10 26), (e.s k10 28), (e.s k10 29), (e.s k10 64), (e.s k10 65), (e.s k10 66), (e.s k10 110), (e.s k10 111), (e.s k10 112)], 18, (.int .i64 0)⟩, h⟩) fun e h =>
 blk 4 (L (l10_2 K L) e h)) fun e h =>
 sq (bc k10 [178, 177, 179, 180, 21, 22] e (K 20 [(.int .i64 7), (.int .i64 3)] h) fun t178 h1 =>
 bd (exV t178 0) fun t179 =>
 bd (exV t178 1) fun t180 =>
 some ⟨.nm, ⟨[(e.s k10 0), (e.s k10 1), (e.s k10 2), (e.s k10 4), (e.s k10 5), (e.s k10 6), (e.s k10 8), (e.s k10 10), (e.s k10 12), (e.s k10 14), (e.s k10 16), (e.s k10 17), (e.s k10 18), (e.s k10 20), t179, t180, (e.s k10 23), (e.s k10 24), (e.s k10 26), (e.s k10 28), (e.s k10 29), (e.s k10 64), (e.s k10 65), (e.s k10 66), (e.s k10 110), (e.s k10 111), (e.s k10 112)], 22, t180⟩, h1⟩) fun e h =>
 sq (bc k10 [182, 181, 183, 184, 23, 24] e (K 20 [(.int .i64 1), (.int .i64 (-3))] h) fun t182 h1 =>
 bd (exV t182 0) fun t183 =>
 bd (exV t182 1) fun t184 =>
 some ⟨.nm, ⟨[(e.s k10 0), (e.s k10 1), (e.s k10 2), (e.s k10 4), (e.s k10 5), (e.s k10 6), (e.s k10 8), (e.s k10 10), (e.s k10 12), (e.s k10 14), (e.s k10 16), (e.s k10 17), (e.s k10 18), (e.s k10 20), (e.s k10 21), (e.s k10 22), t183, t184, (e.s k10 26), (e.s k10 28), (e.s k10 29), (e.s k10 64), (e.s k10 65), (e.s k10 66), (e.s k10 110), (e.s k10 111), (e.s k10 112)], 24, t184⟩, h1⟩) fun e h =>
 sq (bc k10 [186, 185, 187, 188, 25, 26] e (K 20 [(.int .i64 0), (.int .i64 0)] h) fun t186 h1 =>
 bd (exV t186 0) fun t187 =>
 bd (exV t186 1) fun t188 =>
 some ⟨.nm, ⟨[(e.s k10 0), (e.s k10 1), (e.s k10 2), (e.s k10 4), (e.s k10 5), (e.s k10 6), (e.s k10 8), (e.s k10 10), (e.s k10 12), (e.s k10 14), (e.s k10 16), (e.s k10 17), (e.s k10 18), (e.s k10 20), (e.s k10 21), (e.s k10 22), (e.s k10 23), (e.s k10 24), t188, (e.s k10 28), (e.s k10 29), (e.s k10 64), (e.s k10 65), (e.s k10 66), (e.s k10 110), (e.s k10 111), (e.s k10 112)], 26, t188⟩, h1⟩) fun e h =>
 sq (bc k10 [190, 189, 191, 192, 27, 28] e (K 20 [(.int .i64 1), (.int .i64 4)] h) fun t190 h1 =>
 bd (exV t190 0) fun t191 =>
 bd (exV t190 1) fun t192 =>
 some ⟨.nm, ⟨[(e.s k10 0), (e.s k10 1), (e.s k10 2), (e.s k10 4), (e.s k10 5), (e.s k10 6), (e.s k10 8), (e.s k10 10), (e.s k10 12), (e.s k10 14), (e.s k10 16), (e.s k10 17), (e.s k10 18), (e.s k10 20), (e.s k10 21), (e.s k10 22), (e.s k10 23), (e.s k10 24), (e.s k10 26), t192, (e.s k10 29), (e.s k10 64), (e.s k10 65), (e.s k10 66), (e.s k10 110), (e.s k10 111), (e.s k10 112)], 28, t192⟩, h1⟩) fun e h =>
 sq (bd (bl [(.bool false), (.bool false), .nils, .nils, (.int .u8 0)] []) fun t193 =>
 bc k10 [193, 194, 195, 196, 197, 198, 199, 200, 201, 202, 203, 204, 205, 206, 207, 208, 209, 210, 29] e (K 12 [(.int .i64 64), t193] h) fun t194 h1 =>
 bd (binK 0 .eql t194 (.int .i64 0)) fun t195 =>
 bd (gl t195 true (bl [(.bool false), (.bool false), .nils, .nils, (.int .u8 0)] [])) fun t197 =>
 bc k10 [193, 194, 195, 196, 197, 198, 199, 200, 201, 202, 203, 204, 205, 206, 207, 208, 209, 210, 29] e (gk t195 true h1 (K 12 [(.int .i64 0), t197] h1)) fun t198 h2 =>
 bd (gl t195 true (binK 0 .eql t198 (.int .i64 2))) fun t199 =>
 bd (pk t195 t199 (.bool false)) fun t200 =>
 bd (gl t200 true (bl [(.bool false), (.bool false), .nils, .nils, (.int .u8 0)] [])) fun t202 =>
 bc k10 [193, 194, 195, 196, 197, 198, 199, 200, 201, 202, 203, 204, 205, 206, 207, 208, 209, 210, 29] e (gk t200 true h2 (K 12 [(.int .i64 128), t202] h2)) fun t203 h3 =>
 bd (gl t200 true (binK 0 .eql t203 (.int .i64 2))) fun t204 =>
 bd (pk t200 t204 (.bool false)) fun t205 =>
 bc k10 [193, 194, 195, 196, 197, 198, 199, 200, 201, 202, 203, 204, 205, 206, 207, 208, 209, 210, 29] e (gk t205 true h3 (K 27 [] h3)) fun t207 h4 =>
 bc k10 [193, 194, 195, 196, 197, 198, 199, 200, 201, 202, 203, 204, 205, 206, 207, 208, 209, 210, 29] e (gk t205 true h4 (K 12 [(.int .i64 4), t207] h4)) fun t208 h5 =>
 bd (gl t205 true (binK 0 .eql t208 (.int .i64 0))) fun t209 =>
 bd (pk t205 t209 (.bool false)) fun t210 =>
 some ⟨.nm, ⟨[(e.s k10 0), (e.s k10 1), (e.s k10 2), (e.s k10 4), (e.s k10 5), (e.s k10 6), (e.s k10 8), (e.s k10 10), (e.s k10 12), (e.s k10 14), (e.s k10 16), (e.s k10 17), (e.s k10 18), (e.s k10 20), (e.s k10 21), (e.s k10 22), (e.s k10 23), (e.s k10 24), (e.s k10 26), (e.s k10 28), t210, (e.s k10 64), (e.s k10 65), (e.s k10 66), (e.s k10 110), (e.s k10 111), (e.s k10 112)], 29, t210⟩, h5⟩) fun e h =>
 sq (bc k10 [211, 212, 213, 214, 215, 216, 217, 218, 219, 220, 221, 222, 223, 224, 225, 226, 227, 228, 229, 230, 231, 232, 233, 234, 235, 236, 237, 238, 239, 240, 241, 242, 243, 244, 245, 246, 247, 248, 249, 250, 251, 252, 253, 254, 255, 256, 257, 258, 259, 260, 261, 262, 263, 264, 265, 266, 267, 0] e (gk (.bool true) true h (K 17 [] h)) fun t212 h1 =>
 bd (pk (.bool true) t212 (.bool false)) fun t213 =>
 bd (gl t213 true (some (e.s k10 1))) fun t215 =>
 bd (pk t213 t215 (.bool false)) fun t216 =>
 bd (gl t216 true (some (e.s k10 2))) fun t218 =>
 bd (pk t216 t218 (.bool false)) fun t219 =>
 bd (gl t219 true (some (e.s k10 12))) fun t221 =>
 bd (gl t219 true (binK 0 .eql t221 (.int .i64 2))) fun t222 =>
 bd (pk t219 t222 (.bool false)) fun t223 =>
 bd (gl t223 true (some (e.s k10 14))) fun t225 =>
 bd (gl t223 true (binK 0 .eql t225 (.int .i64 2))) fun t226 =>
 bd (pk t223 t226 (.bool false)) fun t227 =>
 bd (gl t227 true (some (e.s k10 16))) fun t229 =>
 bd (gl t227 true (binK 0 .eql t229 (.int .i64 120))) fun t230 =>
 bd (pk t227 t230 (.bool false)) fun t231 =>
 bd (gl t231 true (some (e.s k10 21))) fun t233 =>
 bd (gl t231 true (binK 0 .eql t233 (.int .i64 212))) fun t234 =>
 bd (pk t231 t234 (.bool false)) fun t235 =>
 bd (gl t235 true (some (e.s k10 22))) fun t237 =>
 bd (pk t235 t237 (.bool false)) fun t238 =>
 bd (gl t238 true (some (e.s k10 23))) fun t240 =>
 bd (gl t238 true (binK 0 .eql t240 (.int .i64 81))) fun t241 =>
 bd (pk t238 t241 (.bool false)) fun t242 =>
 bd (gl t242 true (some (e.s k10 24))) fun t244 =>
 bd (pk t242 t244 (.bool false)) fun t245 =>
 bd (gl t245 true (some (e.s k10 26))) fun t247 =>
 bd (gl t245 true (unV .not t247)) fun t248 =>
 bd (pk t245 t248 (.bool false)) fun t249 =>
 bd (gl t249 true (some (e.s k10 28))) fun t251 =>
 bd (gl t249 true (unV .not t251)) fun t252 =>
 bd (pk t249 t252 (.bool false)) fun t253 =>
 bd (gl t253 true (some (e.s k10 29))) fun t255 =>
 bd (pk t253 t255 (.bool false)) fun t256 =>
 bc k10 [211, 212, 213, 214, 215, 216, 217, 218, 219, 220, 221, 222, 223, 224, 225, 226, 227, 228, 229, 230, 231, 232, 233, 234, 235, 236, 237, 238, 239, 240, 241, 242, 243, 244, 245, 246, 247, 248, 249, 250, 251, 252, 253, 254, 255, 256, 257, 258, 259, 260, 261, 262, 263, 264, 265, 266, 267, 0] e (gk t256 true h1 (K 26 [(.int .i64 0), (.int .i64 0)] h1)) fun t258 h2 =>
 bd (gl t256 true (lnS t258)) fun t259 =>
 bd (gl t256 true (binK 0 .eql t259 (.int .i64 16))) fun t260 =>
 bd (pk t256 t260 (.bool false)) fun t261 =>
 bc k10 [211, 212, 213, 214, 215, 216, 217, 218, 219, 220, 221, 222, 223, 224, 225, 226, 227, 228, 229, 230, 231, 232, 233, 234, 235, 236, 237, 238, 239, 240, 241, 242, 243, 244, 245, 246, 247, 248, 249, 250, 251, 252, 253, 254, 255, 256, 257, 258, 259, 260, 261, 262, 263, 264, 265, 266, 267, 0] e (gk t261 true h2 (K 26 [(.int .i64 0), (.int .i64 0)] h2)) fun t263 h3 =>
 bd (gl t261 true (iaS 1 t263 (.int .i64 9))) fun t264 =>
 bd (gl t261 true (ld h3 t264)) fun t265 =>
 bd (gl t261 true (binK 0 .eql t265 (.int .u8 45))) fun t266 =>
 bd (pk t261 t266 (.bool false)) fun t267 =>
 some ⟨.nm, ⟨[t267, (e.s k10 1), (e.s k10 2), (e.s k10 4), (e.s k10 5), (e.s k10 6), (e.s k10 8), (e.s k10 10), (e.s k10 12), (e.s k10 14), (e.s k10 16), (e.s k10 17), (e.s k10 18), (e.s k10 20), (e.s k10 21), (e.s k10 22), (e.s k10 23), (e.s k10 24), (e.s k10 26), (e.s k10 28), (e.s k10 29), (e.s k10 64), (e.s k10 65), (e.s k10 66), (e.s k10 110), (e.s k10 111), (e.s k10 112)], 0, t267⟩, h3⟩) fun e h =>
 some ⟨.rt, e, h⟩
noncomputable def f10 (K : Oracle) (L : Looper) (h : H) : Option (Rv × H) := fin Try.prog k10 [.tmp 0] (s10 K L ⟨[V.und, V.und, V.und, V.und, V.und, V.und, V.und, V.und, V.und, V.und, V.und, V.und, V.und, V.und, V.und, V.und, V.und, V.und, V.und, V.und, V.und, V.und, V.und, V.und, V.und, V.und, V.und], 0, V.und⟩ h)
theorem r10 : (fun K L h => runFF Try.prog kp K L 10 [] h) = f10 := by kernel_rfl
theorem c10 (h : H) : callZ Try.prog kp 10 [] h = f10 (callZ Try.prog kp) loopZ h :=
  (callZ_eqF _ _ _ _ _).trans (congrFun (congrFun (congrFun (r10) _) _) h)

/-- zoetrope/zoetropelaw12.copied -/
@[simp] def k11 : List Nat := [0, 1, 2]
noncomputable def s11 (K : Oracle) (L : Looper) (e : E) (h : H) : Out :=
 sq (bf (bx h 25 (e.s k11 0)) fun t1 h1 =>
 bf (nw h1 25 [(.bool false), (.bool false), .nils, .nils, (.int .u8 0)]) fun t2 h2 =>
 some ⟨.nm, ⟨[(e.s k11 0), t1, t2], 2, t2⟩, h2⟩) fun e h =>
 sq (bd (fa 2 (e.s k11 1)) fun t3 =>
 bd (ld h t3) fun t4 =>
 bc k11 [3, 4, 5, 6] e (K 25 [t4] h) fun t5 h1 =>
 bd (fa 2 (e.s k11 1)) fun t6 =>
 bf (stZ 1 h1 t6 t5) fun _ h2 =>
 some ⟨.nm, ⟨[(e.s k11 0), (e.s k11 1), (e.s k11 2)], 0, (e.s k11 0)⟩, h2⟩) fun e h =>
 sq (bd (fa 3 (e.s k11 1)) fun t7 =>
 bd (ld h t7) fun t8 =>
 bc k11 [7, 8, 9, 10] e (K 25 [t8] h) fun t9 h1 =>
 bd (fa 3 (e.s k11 1)) fun t10 =>
 bf (stZ 1 h1 t10 t9) fun _ h2 =>
 some ⟨.nm, ⟨[(e.s k11 0), (e.s k11 1), (e.s k11 2)], 0, (e.s k11 0)⟩, h2⟩) fun e h =>
 sq (bd (ldn 5 h (e.s k11 1)) fun t11 =>
 bf (stZ 5 h (e.s k11 2) t11) fun _ h1 =>
 some ⟨.nm, ⟨[(e.s k11 0), (e.s k11 1), (e.s k11 2)], 0, (e.s k11 0)⟩, h1⟩) fun e h =>
 some ⟨.rt, e, h⟩
noncomputable def f11 (K : Oracle) (L : Looper) (p0 : V) (h : H) : Option (Rv × H) := fin Try.prog k11 [.cell 2 25] (s11 K L ⟨[p0, V.und, V.und], 0, p0⟩ h)
theorem r11 : (fun K L p0 h => runFF Try.prog kp K L 11 [p0] h) = f11 := by kernel_rfl
theorem c11 (p0 : V) (h : H) : callZ Try.prog kp 11 [p0] h = f11 (callZ Try.prog kp) loopZ p0 h :=
  (callZ_eqF _ _ _ _ _).trans (congrFun (congrFun (congrFun (congrFun (r11) _) _) p0) h)

/-- zoetrope/intra.Check -/
@[simp] def k12 : List Nat := [0, 1, 3, 4]
noncomputable def s12 (K : Oracle) (L : Looper) (e : E) (h : H) : Out :=
 sq (bf (bx h 25 (e.s k12 1)) fun t3 h1 =>
 some ⟨.nm, ⟨[(e.s k12 0), (e.s k12 1), t3, (.int .i64 0)], 4, (.int .i64 0)⟩, h1⟩) fun e h =>
 sq (sq (bd (binK 0 .lss (e.s k12 0) (.int .i64 4)) fun t6 =>
 bd (gl t6 false (some (e.s k12 0))) fun t8 =>
 bd (gl t6 false (binK 0 .gtr t8 (.int .i64 64))) fun t9 =>
 bd (pk t6 (.bool true) t9) fun t10 =>
 bd (gl t10 false (some (e.s k12 0))) fun t12 =>
 bd (gl t10 false (some (e.s k12 0))) fun t13 =>
 bd (gl t10 false (binK 0 .sub t13 (.int .i64 1))) fun t14 =>
 bd (gl t10 false (binK 0 .and t12 t14)) fun t15 =>
 bd (gl t10 false (binK 0 .neq t15 (.int .i64 0))) fun t16 =>
 bd (pk t10 (.bool true) t16) fun t17 =>
 bd (gl t17 false (fa 0 (e.s k12 3))) fun t19 =>
 bd (gl t17 false (ld h t19)) fun t20 =>
 bd (gl t17 false (fa 2 (e.s k12 3))) fun t21 =>
 bd (gl t17 false (ld h t21)) fun t22 =>
 bd (gl t17 false (some (e.s k12 0))) fun t23 =>
 bc k12 [5, 6, 7, 8, 9, 10, 11, 12, 13, 14, 15, 16, 17, 18, 19, 20, 21, 22, 23, 24, 25, 26, 27, 28, 29, 30, 31, 32, 33, 34, 35] e (gk t17 false h (K 28 [t20, t22, t23] h)) fun t24 h1 =>
 bd (gl t17 false (unV .not t24)) fun t25 =>
 bd (pk t17 (.bool true) t25) fun t26 =>
 bd (gl t26 false (fa 1 (e.s k12 3))) fun t28 =>
 bd (gl t26 false (ld h1 t28)) fun t29 =>
 bd (gl t26 false (fa 3 (e.s k12 3))) fun t30 =>
 bd (gl t26 false (ld h1 t30)) fun t31 =>
 bd (gl t26 false (some (e.s k12 0))) fun t32 =>
 bc k12 [5, 6, 7, 8, 9, 10, 11, 12, 13, 14, 15, 16, 17, 18, 19, 20, 21, 22, 23, 24, 25, 26, 27, 28, 29, 30, 31, 32, 33, 34, 35] e (gk t26 false h1 (K 28 [t29, t31, t32] h1)) fun t33 h2 =>
 bd (gl t26 false (unV .not t33)) fun t34 =>
 bd (pk t26 (.bool true) t34) fun t35 =>
 some ⟨.nm, ⟨[(e.s k12 0), (e.s k12 1), (e.s k12 3), (e.s k12 4)], 35, t35⟩, h2⟩) fun e h =>
 br (e.s k12 35) (sq (some ⟨.nm, ⟨[(e.s k12 0), (e.s k12 1), (e.s k12 3), (.int .i64 2)], 4, (.int .i64 2)⟩, h⟩) fun e h =>
 some ⟨.rt, e, h⟩)
 (some ⟨.nm, e, h⟩)) fun e h =>
 sq (some ⟨.nm, ⟨[(e.s k12 0), (e.s k12 1), (e.s k12 3), (.int .i64 0)], 4, (.int .i64 0)⟩, h⟩) fun e h =>
 some ⟨.rt, e, h⟩
noncomputable def f12 (K : Oracle) (L : Looper) (p0 p1 : V) (h : H) : Option (Rv × H) := fin Try.prog k12 [.tmp 4] (s12 K L ⟨[p0, p1, V.und, V.und], 0, p0⟩ h)
theorem r12 : (fun K L p0 p1 h => runFF Try.prog kp K L 12 [p0, p1] h) = f12 := by kernel_rfl
theorem c12 (p0 p1 : V) (h : H) : callZ Try.prog kp 12 [p0, p1] h = f12 (callZ Try.prog kp) loopZ p0 p1 h :=
  (callZ_eqF _ _ _ _ _).trans (congrFun (congrFun (congrFun (congrFun (congrFun (r12) _) _) p0) p1) h)

/-- zoetrope/zoetroperef12.Check -/
@[simp] def k13 : List Nat := [0, 1, 3, 4]
noncomputable def s13 (K : Oracle) (L : Looper) (e : E) (h : H) : Out :=
 sq (bf (bx h 25 (e.s k13 1)) fun t3 h1 =>
 some ⟨.nm, ⟨[(e.s k13 0), (e.s k13 1), t3, (.int .i64 0)], 4, (.int .i64 0)⟩, h1⟩) fun e h =>
 sq (sq (bc k13 [5, 6, 7, 8, 9, 10, 11, 12, 13, 14, 15, 16, 17, 18, 19, 20, 21, 22, 23, 24, 25, 26, 27, 28, 29, 30, 31, 32, 33, 34, 35, 36, 37, 38, 39, 40, 41, 42, 43, 44, 45, 46, 47, 48, 49, 50, 51] e (K 29 [(e.s k13 0)] h) fun t6 h1 =>
 bd (unV .not t6) fun t7 =>
 bd (gl t7 false (fa 0 (e.s k13 3))) fun t9 =>
 bd (gl t7 false (ld h1 t9)) fun t10 =>
 bd (gl t7 false (some t10)) fun t11 =>
 bd (gl t11 true (fa 2 (e.s k13 3))) fun t12 =>
 bd (gl t11 true (ld h1 t12)) fun t13 =>
 bd (gl t11 true (lnS t13)) fun t14 =>
 bd (gl t11 true (some (e.s k13 0))) fun t15 =>
 bd (gl t11 true (binK 0 .neq t14 t15)) fun t16 =>
 bd (gl t7 false (pk t11 t16 (.bool false))) fun t17 =>
 bd (pk t7 (.bool true) t17) fun t18 =>
 bd (gl t18 false (fa 0 (e.s k13 3))) fun t20 =>
 bd (gl t18 false (ld h1 t20)) fun t21 =>
 bd (gl t18 false (unV .not t21)) fun t22 =>
 bd (gl t18 false (some t22)) fun t23 =>
 bd (gl t23 true (fa 2 (e.s k13 3))) fun t24 =>
 bd (gl t23 true (ld h1 t24)) fun t25 =>
 bd (gl t23 true (lnS t25)) fun t26 =>
 bd (gl t23 true (binK 0 .neq t26 (.int .i64 0))) fun t27 =>
 bd (gl t18 false (pk t23 t27 (.bool false))) fun t28 =>
 bd (pk t18 (.bool true) t28) fun t29 =>
 bd (gl t29 false (fa 1 (e.s k13 3))) fun t31 =>
 bd (gl t29 false (ld h1 t31)) fun t32 =>
 bd (gl t29 false (some t32)) fun t33 =>
 bd (gl t33 true (fa 3 (e.s k13 3))) fun t34 =>
 bd (gl t33 true (ld h1 t34)) fun t35 =>
 bd (gl t33 true (lnS t35)) fun t36 =>
 bd (gl t33 true (some (e.s k13 0))) fun t37 =>
 bd (gl t33 true (binK 0 .neq t36 t37)) fun t38 =>
 bd (gl t29 false (pk t33 t38 (.bool false))) fun t39 =>
 bd (pk t29 (.bool true) t39) fun t40 =>
 bd (gl t40 false (fa 1 (e.s k13 3))) fun t42 =>
 bd (gl t40 false (ld h1 t42)) fun t43 =>
 bd (gl t40 false (unV .not t43)) fun t44 =>
 bd (gl t40 false (some t44)) fun t45 =>
 bd (gl t45 true (fa 3 (e.s k13 3))) fun t46 =>
 bd (gl t45 true (ld h1 t46)) fun t47 =>
 bd (gl t45 true (lnS t47)) fun t48 =>
 bd (gl t45 true (binK 0 .neq t48 (.int .i64 0))) fun t49 =>
 bd (gl t40 false (pk t45 t49 (.bool false))) fun t50 =>
 bd (pk t40 (.bool true) t50) fun t51 =>
 some ⟨.nm, ⟨[(e.s k13 0), (e.s k13 1), (e.s k13 3), (e.s k13 4)], 51, t51⟩, h1⟩) fun e h =>
 br (e.s k13 51) (sq (some ⟨.nm, ⟨[(e.s k13 0), (e.s k13 1), (e.s k13 3), (.int .i64 2)], 4, (.int .i64 2)⟩, h⟩) fun e h =>
 some ⟨.rt, e, h⟩)
 (some ⟨.nm, e, h⟩)) fun e h =>
 sq (some ⟨.nm, ⟨[(e.s k13 0), (e.s k13 1), (e.s k13 3), (.int .i64 0)], 4, (.int .i64 0)⟩, h⟩) fun e h =>
 some ⟨.rt, e, h⟩
noncomputable def f13 (K : Oracle) (L : Looper) (p0 p1 : V) (h : H) : Option (Rv × H) := fin Try.prog k13 [.tmp 4] (s13 K L ⟨[p0, p1, V.und, V.und], 0, p0⟩ h)
theorem r13 : (fun K L p0 p1 h => runFF Try.prog kp K L 13 [p0, p1] h) = f13 := by kernel_rfl
theorem c13 (p0 p1 : V) (h : H) : callZ Try.prog kp 13 [p0, p1] h = f13 (callZ Try.prog kp) loopZ p0 p1 h :=
  (callZ_eqF _ _ _ _ _).trans (congrFun (congrFun (congrFun (congrFun (congrFun (r13) _) _) p0) p1) h)

/-- zoetrope/intra.Predict -/
@[simp] def k14 : List Nat := [0, 1, 2, 3, 7, 8, 9, 10, 11, 12, 13, 14, 15, 16, 81, 82]
noncomputable def l14_0 (K : Oracle) (L : Looper) (e : E) (h : H) : Out :=
 sq (bd (binK 0 .lss (e.s k14 82) (e.s k14 81)) fun t83 =>
 some ⟨.nm, ⟨[(e.s k14 0), (e.s k14 1), (e.s k14 2), (e.s k14 3), (e.s k14 7), (e.s k14 8), (e.s k14 9), (e.s k14 10), (e.s k14 11), (e.s k14 12), (e.s k14 13), (e.s k14 14), (e.s k14 15), (e.s k14 16), (e.s k14 81), (e.s k14 82)], 83, t83⟩, h⟩) fun e h =>
 sq (br (e.s k14 83) (some ⟨.nm, e, h⟩)
 (some ⟨.ex 1, e, h⟩)) fun e h =>
 sq (blk 2 (sq (some ⟨.nm, ⟨[(e.s k14 0), (e.s k14 1), (e.s k14 2), (e.s k14 3), (e.s k14 7), (e.s k14 8), (e.s k14 9), (e.s k14 10), (e.s k14 11), (e.s k14 12), (e.s k14 13), (e.s k14 14), (e.s k14 15), (e.s k14 82), (e.s k14 81), (e.s k14 82)], 16, (e.s k14 82)⟩, h⟩) fun e h =>
 bd (binK 0 .rem (e.s k14 16) (e.s k14 0)) fun t90 =>
 bd (binK 0 .quo (e.s k14 16) (e.s k14 0)) fun t93 =>
 bn (cdy K (e.s k14 13) [t90, t93] h) fun t94 h1 =>
 bd (cv .u8 t94) fun t95 =>
 bd (iaS 1 (e.s k14 15) (e.s k14 16)) fun t96 =>
 bf (stZ 1 h1 t96 t95) fun _ h2 =>
 some ⟨.nm, ⟨[(e.s k14 0), (e.s k14 1), (e.s k14 2), (e.s k14 3), (e.s k14 7), (e.s k14 8), (e.s k14 9), (e.s k14 10), (e.s k14 11), (e.s k14 12), (e.s k14 13), (e.s k14 14), (e.s k14 15), (e.s k14 16), (e.s k14 81), (e.s k14 82)], 0, (e.s k14 0)⟩, h2⟩)) fun e h =>
 bd (binK 0 .add (e.s k14 82) (.int .i64 1)) fun t97 =>
 some ⟨.nm, ⟨[(e.s k14 0), (e.s k14 1), (e.s k14 2), (e.s k14 3), (e.s k14 7), (e.s k14 8), (e.s k14 9), (e.s k14 10), (e.s k14 11), (e.s k14 12), (e.s k14 13), (e.s k14 14), (e.s k14 15), (e.s k14 16), (e.s k14 81), t97], 82, t97⟩, h⟩
noncomputable def s14 (K : Oracle) (L : Looper) (e : E) (h : H) : Out :=
 sq (bf (bx h 25 (e.s k14 3)) fun t7 h1 =>
 some ⟨.nm, ⟨[(e.s k14 0), (e.s k14 1), (e.s k14 2), (e.s k14 3), t7, .nils, (.int .i64 0), (e.s k14 10), (e.s k14 11), (e.s k14 12), (e.s k14 13), (e.s k14 14), (e.s k14 15), (e.s k14 16), (e.s k14 81), (e.s k14 82)], 9, (.int .i64 0)⟩, h1⟩) fun e h =>
 sq (sq (bd (bl [(.bool false), (.bool false), .nils, .nils, (.int .u8 0)] []) fun t18 =>
 bc k14 [17, 18, 19, 20] e (K 12 [(e.s k14 0), t18] h) fun t19 h1 =>
 bd (binK 0 .neq t19 (.int .i64 0)) fun t20 =>
 some ⟨.nm, ⟨[(e.s k14 0), (e.s k14 1), (e.s k14 2), (e.s k14 3), (e.s k14 7), (e.s k14 8), (e.s k14 9), (e.s k14 10), (e.s k14 11), (e.s k14 12), (e.s k14 13), (e.s k14 14), (e.s k14 15), (e.s k14 16), (e.s k14 81), (e.s k14 82)], 20, t20⟩, h1⟩) fun e h =>
 br (e.s k14 20) (sq (some ⟨.nm, ⟨[(e.s k14 0), (e.s k14 1), (e.s k14 2), (e.s k14 3), (e.s k14 7), .nils, (.int .i64 2), (e.s k14 10), (e.s k14 11), (e.s k14 12), (e.s k14 13), (e.s k14 14), (e.s k14 15), (e.s k14 16), (e.s k14 81), (e.s k14 82)], 9, (.int .i64 2)⟩, h⟩) fun e h =>
 some ⟨.rt, e, h⟩)
 (some ⟨.nm, e, h⟩)) fun e h =>
 sq (bc k14 [22, 23, 24, 21, 25, 26, 10, 11] e (K 20 [(e.s k14 1), (e.s k14 2)] h) fun t24 h1 =>
 bd (exV t24 0) fun t25 =>
 bd (exV t24 1) fun t26 =>
 some ⟨.nm, ⟨[(e.s k14 0), (e.s k14 1), (e.s k14 2), (e.s k14 3), (e.s k14 7), (e.s k14 8), (e.s k14 9), t25, t26, (e.s k14 12), (e.s k14 13), (e.s k14 14), (e.s k14 15), (e.s k14 16), (e.s k14 81), (e.s k14 82)], 11, t26⟩, h1⟩) fun e h =>
 sq (sq (bd (binK 0 .lss (e.s k14 1) (.int .i64 0)) fun t28 =>
 bd (gl t28 false (some (e.s k14 1))) fun t30 =>
 bd (gl t28 false (binK 0 .gtr t30 (.int .i64 12))) fun t31 =>
 bd (pk t28 (.bool true) t31) fun t32 =>
 bd (gl t32 false (some (e.s k14 11))) fun t34 =>
 bd (gl t32 false (unV .not t34)) fun t35 =>
 bd (gl t32 false (some t35)) fun t36 =>
 bd (gl t36 true (some (e.s k14 2))) fun t37 =>
 bd (gl t36 true (binK 0 .neq t37 (.int .i64 0))) fun t38 =>
 bd (gl t36 true (some t38)) fun t39 =>
 bd (gl t39 false (some (e.s k14 1))) fun t40 =>
 bd (gl t39 false (binK 0 .geq t40 (.int .i64 1))) fun t41 =>
 bd (gl t39 false (some t41)) fun t42 =>
 bd (gl t42 true (some (e.s k14 1))) fun t43 =>
 bd (gl t42 true (binK 0 .leq t43 (.int .i64 8))) fun t44 =>
 bd (gl t39 false (pk t42 t44 (.bool false))) fun t45 =>
 bd (gl t36 true (pk t39 (.bool true) t45)) fun t46 =>
 bd (gl t32 false (pk t36 t46 (.bool false))) fun t47 =>
 bd (pk t32 (.bool true) t47) fun t48 =>
 some ⟨.nm, ⟨[(e.s k14 0), (e.s k14 1), (e.s k14 2), (e.s k14 3), (e.s k14 7), (e.s k14 8), (e.s k14 9), (e.s k14 10), (e.s k14 11), (e.s k14 12), (e.s k14 13), (e.s k14 14), (e.s k14 15), (e.s k14 16), (e.s k14 81), (e.s k14 82)], 48, t48⟩, h⟩) fun e h =>
 br (e.s k14 48) (sq (some ⟨.nm, ⟨[(e.s k14 0), (e.s k14 1), (e.s k14 2), (e.s k14 3), (e.s k14 7), .nils, (.int .i64 120), (e.s k14 10), (e.s k14 11), (e.s k14 12), (e.s k14 13), (e.s k14 14), (e.s k14 15), (e.s k14 16), (e.s k14 81), (e.s k14 82)], 9, (.int .i64 120)⟩, h⟩) fun e h =>
 some ⟨.rt, e, h⟩)
 (some ⟨.nm, e, h⟩)) fun e h =>
 sq (sq (bd (ldn 5 h (e.s k14 7)) fun t50 =>
 bc k14 [49, 50, 51, 52] e (K 12 [(e.s k14 0), t50] h) fun t51 h1 =>
 bd (binK 0 .neq t51 (.int .i64 0)) fun t52 =>
 some ⟨.nm, ⟨[(e.s k14 0), (e.s k14 1), (e.s k14 2), (e.s k14 3), (e.s k14 7), (e.s k14 8), (e.s k14 9), (e.s k14 10), (e.s k14 11), (e.s k14 12), (e.s k14 13), (e.s k14 14), (e.s k14 15), (e.s k14 16), (e.s k14 81), (e.s k14 82)], 52, t52⟩, h1⟩) fun e h =>
 br (e.s k14 52) (sq (some ⟨.nm, ⟨[(e.s k14 0), (e.s k14 1), (e.s k14 2), (e.s k14 3), (e.s k14 7), .nils, (.int .i64 2), (e.s k14 10), (e.s k14 11), (e.s k14 12), (e.s k14 13), (e.s k14 14), (e.s k14 15), (e.s k14 16), (e.s k14 81), (e.s k14 82)], 9, (.int .i64 2)⟩, h⟩) fun e h =>
 some ⟨.rt, e, h⟩)
 (some ⟨.nm, e, h⟩)) fun e h =>
 sq (bd (ldn 5 h (e.s k14 7)) fun t54 =>
 bc k14 [53, 54, 55, 12] e (K 30 [(e.s k14 0), t54] h) fun t55 h1 =>
 bf (nw h1 59 [(.int .i64 0), .nilf, .nilf, (.int .i64 0)]) fun t12 h2 =>
 bf (stZ 4 h2 t12 t55) fun _ h3 =>
 some ⟨.nm, ⟨[(e.s k14 0), (e.s k14 1), (e.s k14 2), (e.s k14 3), (e.s k14 7), (e.s k14 8), (e.s k14 9), (e.s k14 10), (e.s k14 11), t12, (e.s k14 13), (e.s k14 14), (e.s k14 15), (e.s k14 16), (e.s k14 81), (e.s k14 82)], 0, (e.s k14 0)⟩, h3⟩) fun e h =>
 sq (some ⟨.nm, ⟨[(e.s k14 0), (e.s k14 1), (e.s k14 2), (e.s k14 3), (e.s k14 7), (e.s k14 8), (e.s k14 9), (e.s k14 10), (e.s k14 11), (e.s k14 12), .nilf, (e.s k14 14), (e.s k14 15), (e.s k14 16), (e.s k14 81), (e.s k14 82)], 13, .nilf⟩, h⟩) fun e h =>
 sq (blk 0 (sq (some ⟨.nm, ⟨[(e.s k14 0), (e.s k14 1), (e.s k14 2), (e.s k14 3), (e.s k14 7), (e.s k14 8), (e.s k14 9), (e.s k14 10), (e.s k14 11), (e.s k14 12), (e.s k14 13), (e.s k14 14), (e.s k14 15), (e.s k14 16), (e.s k14 81), (e.s k14 82)], 59, (e.s k14 11)⟩, h⟩) fun e h =>
 br (e.s k14 59) (bd (ldn 4 h (e.s k14 12)) fun t61 =>
 bc k14 [61, 62, 63, 64, 13] e (K 31 [t61, (e.s k14 10), (e.s k14 2)] h) fun t64 h1 =>
 some ⟨.nm, ⟨[(e.s k14 0), (e.s k14 1), (e.s k14 2), (e.s k14 3), (e.s k14 7), (e.s k14 8), (e.s k14 9), (e.s k14 10), (e.s k14 11), (e.s k14 12), t64, (e.s k14 14), (e.s k14 15), (e.s k14 16), (e.s k14 81), (e.s k14 82)], 13, t64⟩, h1⟩)
 (sq (bd (binK 0 .eql (e.s k14 1) (.int .i64 0)) fun t67 =>
 some ⟨.nm, ⟨[(e.s k14 0), (e.s k14 1), (e.s k14 2), (e.s k14 3), (e.s k14 7), (e.s k14 8), (e.s k14 9), (e.s k14 10), (e.s k14 11), (e.s k14 12), (e.s k14 13), (e.s k14 14), (e.s k14 15), (e.s k14 16), (e.s k14 81), (e.s k14 82)], 65, t67⟩, h⟩) fun e h =>
 br (e.s k14 65) (sq (bd (ldn 5 h (e.s k14 7)) fun t68 =>
 bc k14 [68, 69, 14] e (K 32 [t68] h) fun t69 h1 =>
 bf (nw h1 3 [(.int .i64 0)]) fun t14 h2 =>
 bf (stZ 1 h2 t14 t69) fun _ h3 =>
 some ⟨.nm, ⟨[(e.s k14 0), (e.s k14 1), (e.s k14 2), (e.s k14 3), (e.s k14 7), (e.s k14 8), (e.s k14 9), (e.s k14 10), (e.s k14 11), (e.s k14 12), (e.s k14 13), t14, (e.s k14 15), (e.s k14 16), (e.s k14 81), (e.s k14 82)], 0, (e.s k14 0)⟩, h3⟩) fun e h =>
 bd (some (.fn (.func 33) [] [(e.s k14 14)])) fun t70 =>
 some ⟨.nm, ⟨[(e.s k14 0), (e.s k14 1), (e.s k14 2), (e.s k14 3), (e.s k14 7), (e.s k14 8), (e.s k14 9), (e.s k14 10), (e.s k14 11), (e.s k14 12), t70, (e.s k14 14), (e.s k14 15), (e.s k14 16), (e.s k14 81), (e.s k14 82)], 13, t70⟩, h⟩)
 (sq (bd (binK 0 .eql (e.s k14 1) (.int .i64 12)) fun t73 =>
 some ⟨.nm, ⟨[(e.s k14 0), (e.s k14 1), (e.s k14 2), (e.s k14 3), (e.s k14 7), (e.s k14 8), (e.s k14 9), (e.s k14 10), (e.s k14 11), (e.s k14 12), (e.s k14 13), (e.s k14 14), (e.s k14 15), (e.s k14 16), (e.s k14 81), (e.s k14 82)], 71, t73⟩, h⟩) fun e h =>
 br (e.s k14 71) (bd (ldn 4 h (e.s k14 12)) fun t74 =>
 bd (some (.fn (.func 34) [t74] [])) fun t75 =>
 some ⟨.nm, ⟨[(e.s k14 0), (e.s k14 1), (e.s k14 2), (e.s k14 3), (e.s k14 7), (e.s k14 8), (e.s k14 9), (e.s k14 10), (e.s k14 11), (e.s k14 12), t75, (e.s k14 14), (e.s k14 15), (e.s k14 16), (e.s k14 81), (e.s k14 82)], 13, t75⟩, h⟩)
 (bd (ldn 4 h (e.s k14 12)) fun t56 =>
 bc k14 [56, 57, 58, 13] e (K 35 [t56, (e.s k14 1)] h) fun t58 h1 =>
 some ⟨.nm, ⟨[(e.s k14 0), (e.s k14 1), (e.s k14 2), (e.s k14 3), (e.s k14 7), (e.s k14 8), (e.s k14 9), (e.s k14 10), (e.s k14 11), (e.s k14 12), t58, (e.s k14 14), (e.s k14 15), (e.s k14 16), (e.s k14 81), (e.s k14 82)], 13, t58⟩, h1⟩))))) fun e h =>
 sq (bd (binK 0 .mul (e.s k14 0) (e.s k14 0)) fun t78 =>
 bf (ms h 5 1 [(.int .u8 0)] t78 t78) fun t79 h1 =>
 some ⟨.nm, ⟨[(e.s k14 0), (e.s k14 1), (e.s k14 2), (e.s k14 3), (e.s k14 7), (e.s k14 8), (e.s k14 9), (e.s k14 10), (e.s k14 11), (e.s k14 12), (e.s k14 13), (e.s k14 14), t79, (e.s k14 16), (e.s k14 81), (e.s k14 82)], 15, t79⟩, h1⟩) fun e h =>
 sq (sq (bd (lnS (e.s k14 15)) fun t81 =>
 some ⟨.nm, ⟨[(e.s k14 0), (e.s k14 1), (e.s k14 2), (e.s k14 3), (e.s k14 7), (e.s k14 8), (e.s k14 9), (e.s k14 10), (e.s k14 11), (e.s k14 12), (e.s k14 13), (e.s k14 14), (e.s k14 15), (e.s k14 16), t81, (.int .i64 0)], 82, (.int .i64 0)⟩, h⟩) fun e h =>
 blk 1 (L (l14_0 K L) e h)) fun e h =>
 sq (some ⟨.nm, ⟨[(e.s k14 0), (e.s k14 1), (e.s k14 2), (e.s k14 3), (e.s k14 7), (e.s k14 15), (.int .i64 0), (e.s k14 10), (e.s k14 11), (e.s k14 12), (e.s k14 13), (e.s k14 14), (e.s k14 15), (e.s k14 16), (e.s k14 81), (e.s k14 82)], 9, (.int .i64 0)⟩, h⟩) fun e h =>
 some ⟨.rt, e, h⟩
noncomputable def f14 (K : Oracle) (L : Looper) (p0 p1 p2 p3 : V) (h : H) : Option (Rv × H) := fin Try.prog k14 [.tmp 8, .tmp 9] (s14 K L ⟨[p0, p1, p2, p3, V.und, V.und, V.und, V.und, V.und, V.und, V.und, V.und, V.und, V.und, V.und, V.und], 0, p0⟩ h)
theorem r14 : (fun K L p0 p1 p2 p3 h => runFF Try.prog kp K L 14 [p0, p1, p2, p3] h) = f14 := by kernel_rfl
theorem c14 (p0 p1 p2 p3 : V) (h : H) : callZ Try.prog kp 14 [p0, p1, p2, p3] h = f14 (callZ Try.prog kp) loopZ p0 p1 p2 p3 h :=
  (callZ_eqF _ _ _ _ _).trans (congrFun (congrFun (congrFun (congrFun (congrFun (congrFun (congrFun (r14) _) _) p0) p1) p2) p3) h)

/-- zoetrope/zoetroperef12.Predict -/
@[simp] def k15 : List Nat := [0, 1, 2, 3, 7, 8, 9, 10, 11, 12, 13, 14, 15, 16, 17, 18, 19, 20]
noncomputable def l15_0 (K : Oracle) (L : Looper) (e : E) (h : H) : Out :=
 sq (sq (bd (binK 0 .mul (e.s k15 0) (e.s k15 0)) fun t106 =>
 bd (binK 0 .lss (e.s k15 17) t106) fun t107 =>
 some ⟨.nm, ⟨[(e.s k15 0), (e.s k15 1), (e.s k15 2), (e.s k15 3), (e.s k15 7), (e.s k15 8), (e.s k15 9), (e.s k15 10), (e.s k15 11), (e.s k15 12), (e.s k15 13), (e.s k15 14), (e.s k15 15), (e.s k15 16), (e.s k15 17), (e.s k15 18), (e.s k15 19), (e.s k15 20)], 107, t107⟩, h⟩) fun e h =>
 br (e.s k15 107) (some ⟨.nm, e, h⟩)
 (some ⟨.ex 0, e, h⟩)) fun e h =>
 sq (blk 1 (sq (bd (binK 0 .rem (e.s k15 17) (e.s k15 0)) fun t112 =>
 bd (binK 0 .quo (e.s k15 17) (e.s k15 0)) fun t115 =>
 some ⟨.nm, ⟨[(e.s k15 0), (e.s k15 1), (e.s k15 2), (e.s k15 3), (e.s k15 7), (e.s k15 8), (e.s k15 9), (e.s k15 10), (e.s k15 11), (e.s k15 12), (e.s k15 13), (e.s k15 14), (e.s k15 15), (e.s k15 16), (e.s k15 17), t112, t115, (e.s k15 20)], 19, t115⟩, h⟩) fun e h =>
 sq (some ⟨.nm, ⟨[(e.s k15 0), (e.s k15 1), (e.s k15 2), (e.s k15 3), (e.s k15 7), (e.s k15 8), (e.s k15 9), (e.s k15 10), (e.s k15 11), (e.s k15 12), (e.s k15 13), (e.s k15 14), (e.s k15 15), (e.s k15 16), (e.s k15 17), (e.s k15 18), (e.s k15 19), (e.s k15 15)], 20, (e.s k15 15)⟩, h⟩) fun e h =>
 sq (blk 2 (sq (bd (binK 0 .eql (e.s k15 1) (.int .i64 12)) fun t119 =>
 some ⟨.nm, ⟨[(e.s k15 0), (e.s k15 1), (e.s k15 2), (e.s k15 3), (e.s k15 7), (e.s k15 8), (e.s k15 9), (e.s k15 10), (e.s k15 11), (e.s k15 12), (e.s k15 13), (e.s k15 14), (e.s k15 15), (e.s k15 16), (e.s k15 17), (e.s k15 18), (e.s k15 19), (e.s k15 20)], 117, t119⟩, h⟩) fun e h =>
 br (e.s k15 117) (bd (fa 1 (e.s k15 10)) fun t120 =>
 bd (ld h t120) fun t121 =>
 bd (iaS 1 t121 (e.s k15 19)) fun t123 =>
 bd (ld h t123) fun t124 =>
 bd (fa 0 (e.s k15 10)) fun t125 =>
 bd (ld h t125) fun t126 =>
 bd (iaS 1 t126 (e.s k15 18)) fun t128 =>
 bd (ld h t128) fun t129 =>
 bd (fa 2 (e.s k15 10)) fun t130 =>
 bd (ld h t130) fun t131 =>
 bn (K 42 [t124, t129, t131] h) fun t132 h1 =>
 ck (ld h t120) t121 (ck (ld h t123) t124 (ck (ld h t125) t126 (ck (ld h t128) t129 (ck (ld h t130) t131 (some ⟨.nm, ⟨[(e.s k15 0), (e.s k15 1), (e.s k15 2), (e.s k15 3), (e.s k15 7), (e.s k15 8), (e.s k15 9), (e.s k15 10), (e.s k15 11), (e.s k15 12), (e.s k15 13), (e.s k15 14), (e.s k15 15), (e.s k15 16), (e.s k15 17), (e.s k15 18), (e.s k15 19), t132], 20, t132⟩, h1⟩))))))
 (sq (bd (binK 0 .geq (e.s k15 1) (.int .i64 9)) fun t135 =>
 some ⟨.nm, ⟨[(e.s k15 0), (e.s k15 1), (e.s k15 2), (e.s k15 3), (e.s k15 7), (e.s k15 8), (e.s k15 9), (e.s k15 10), (e.s k15 11), (e.s k15 12), (e.s k15 13), (e.s k15 14), (e.s k15 15), (e.s k15 16), (e.s k15 17), (e.s k15 18), (e.s k15 19), (e.s k15 20)], 133, t135⟩, h⟩) fun e h =>
 br (e.s k15 133) (bd (ldn 3 h (e.s k15 10)) fun t138 =>
 bc k15 [136, 137, 138, 139, 140, 141, 20] e (K 43 [(e.s k15 0), (e.s k15 1), t138, (e.s k15 18), (e.s k15 19)] h) fun t141 h1 =>
 some ⟨.nm, ⟨[(e.s k15 0), (e.s k15 1), (e.s k15 2), (e.s k15 3), (e.s k15 7), (e.s k15 8), (e.s k15 9), (e.s k15 10), (e.s k15 11), (e.s k15 12), (e.s k15 13), (e.s k15 14), (e.s k15 15), (e.s k15 16), (e.s k15 17), (e.s k15 18), (e.s k15 19), t141], 20, t141⟩, h1⟩)
 (sq (bd (gl (e.s k15 12) true (some (e.s k15 11))) fun t145 =>
 bd (gl (e.s k15 12) true (binK 0 .eql t145 (.int .i64 90))) fun t146 =>
 bd (pk (e.s k15 12) t146 (.bool false)) fun t147 =>
 some ⟨.nm, ⟨[(e.s k15 0), (e.s k15 1), (e.s k15 2), (e.s k15 3), (e.s k15 7), (e.s k15 8), (e.s k15 9), (e.s k15 10), (e.s k15 11), (e.s k15 12), (e.s k15 13), (e.s k15 14), (e.s k15 15), (e.s k15 16), (e.s k15 17), (e.s k15 18), (e.s k15 19), (e.s k15 20)], 142, t147⟩, h⟩) fun e h =>
 br (e.s k15 142) (bd (fa 0 (e.s k15 10)) fun t148 =>
 bd (ld h t148) fun t149 =>
 bd (iaS 1 t149 (e.s k15 18)) fun t151 =>
 bd (ld h t151) fun t152 =>
 some ⟨.nm, ⟨[(e.s k15 0), (e.s k15 1), (e.s k15 2), (e.s k15 3), (e.s k15 7), (e.s k15 8), (e.s k15 9), (e.s k15 10), (e.s k15 11), (e.s k15 12), (e.s k15 13), (e.s k15 14), (e.s k15 15), (e.s k15 16), (e.s k15 17), (e.s k15 18), (e.s k15 19), t152], 20, t152⟩, h⟩)
 (sq (bd (gl (e.s k15 12) true (some (e.s k15 11))) fun t156 =>
 bd (gl (e.s k15 12) true (binK 0 .eql t156 (.int .i64 180))) fun t157 =>
 bd (pk (e.s k15 12) t157 (.bool false)) fun t158 =>
 some ⟨.nm, ⟨[(e.s k15 0), (e.s k15 1), (e.s k15 2), (e.s k15 3), (e.s k15 7), (e.s k15 8), (e.s k15 9), (e.s k15 10), (e.s k15 11), (e.s k15 12), (e.s k15 13), (e.s k15 14), (e.s k15 15), (e.s k15 16), (e.s k15 17), (e.s k15 18), (e.s k15 19), (e.s k15 20)], 153, t158⟩, h⟩) fun e h =>
 br (e.s k15 153) (bd (fa 1 (e.s k15 10)) fun t159 =>
 bd (ld h t159) fun t160 =>
 bd (iaS 1 t160 (e.s k15 19)) fun t162 =>
 bd (ld h t162) fun t163 =>
 some ⟨.nm, ⟨[(e.s k15 0), (e.s k15 1), (e.s k15 2), (e.s k15 3), (e.s k15 7), (e.s k15 8), (e.s k15 9), (e.s k15 10), (e.s k15 11), (e.s k15 12), (e.s k15 13), (e.s k15 14), (e.s k15 15), (e.s k15 16), (e.s k15 17), (e.s k15 18), (e.s k15 19), t163], 20, t163⟩, h⟩)
 (sq (some ⟨.nm, ⟨[(e.s k15 0), (e.s k15 1), (e.s k15 2), (e.s k15 3), (e.s k15 7), (e.s k15 8), (e.s k15 9), (e.s k15 10), (e.s k15 11), (e.s k15 12), (e.s k15 13), (e.s k15 14), (e.s k15 15), (e.s k15 16), (e.s k15 17), (e.s k15 18), (e.s k15 19), (e.s k15 20)], 164, (e.s k15 12)⟩, h⟩) fun e h =>
 br (e.s k15 164) (bd (ldn 2 h (e.s k15 13)) fun t168 =>
 bd (ldn 2 h (e.s k15 14)) fun t169 =>
 bc k15 [166, 167, 168, 169, 170, 171, 172, 20] e (K 44 [(e.s k15 0), (e.s k15 11), t168, t169, (e.s k15 18), (e.s k15 19)] h) fun t172 h1 =>
 some ⟨.nm, ⟨[(e.s k15 0), (e.s k15 1), (e.s k15 2), (e.s k15 3), (e.s k15 7), (e.s k15 8), (e.s k15 9), (e.s k15 10), (e.s k15 11), (e.s k15 12), (e.s k15 13), (e.s k15 14), (e.s k15 15), (e.s k15 16), (e.s k15 17), (e.s k15 18), (e.s k15 19), t172], 20, t172⟩, h1⟩)
 (some ⟨.nm, e, h⟩))))))) fun e h =>
 bd (cv .u8 (e.s k15 20)) fun t175 =>
 bf (bs h 5 1 [(.int .u8 0)] [(some (0, 1), t175)]) fun t176 h1 =>
 bf (apZ 5 1 1 h1 (e.s k15 16) t176) fun t177 h2 =>
 some ⟨.nm, ⟨[(e.s k15 0), (e.s k15 1), (e.s k15 2), (e.s k15 3), (e.s k15 7), (e.s k15 8), (e.s k15 9), (e.s k15 10), (e.s k15 11), (e.s k15 12), (e.s k15 13), (e.s k15 14), (e.s k15 15), t177, (e.s k15 17), (e.s k15 18), (e.s k15 19), (e.s k15 20)], 16, t177⟩, h2⟩)) fun e h =>
 bd (binK 0 .add (e.s k15 17) (.int .i64 1)) fun t109 =>
 some ⟨.nm, ⟨[(e.s k15 0), (e.s k15 1), (e.s k15 2), (e.s k15 3), (e.s k15 7), (e.s k15 8), (e.s k15 9), (e.s k15 10), (e.s k15 11), (e.s k15 12), (e.s k15 13), (e.s k15 14), (e.s k15 15), (e.s k15 16), t109, (e.s k15 18), (e.s k15 19), (e.s k15 20)], 17, t109⟩, h⟩
noncomputable def s15 (K : Oracle) (L : Looper) (e : E) (h : H) : Out :=
 sq (bf (bx h 25 (e.s k15 3)) fun t7 h1 =>
 some ⟨.nm, ⟨[(e.s k15 0), (e.s k15 1), (e.s k15 2), (e.s k15 3), t7, .nils, (.int .i64 0), (e.s k15 10), (e.s k15 11), (e.s k15 12), (e.s k15 13), (e.s k15 14), (e.s k15 15), (e.s k15 16), (e.s k15 17), (e.s k15 18), (e.s k15 19), (e.s k15 20)], 9, (.int .i64 0)⟩, h1⟩) fun e h =>
 sq (sq (bc k15 [21, 22, 23] e (K 29 [(e.s k15 0)] h) fun t22 h1 =>
 bd (unV .not t22) fun t23 =>
 some ⟨.nm, ⟨[(e.s k15 0), (e.s k15 1), (e.s k15 2), (e.s k15 3), (e.s k15 7), (e.s k15 8), (e.s k15 9), (e.s k15 10), (e.s k15 11), (e.s k15 12), (e.s k15 13), (e.s k15 14), (e.s k15 15), (e.s k15 16), (e.s k15 17), (e.s k15 18), (e.s k15 19), (e.s k15 20)], 23, t23⟩, h1⟩) fun e h =>
 br (e.s k15 23) (sq (some ⟨.nm, ⟨[(e.s k15 0), (e.s k15 1), (e.s k15 2), (e.s k15 3), (e.s k15 7), .nils, (.int .i64 2), (e.s k15 10), (e.s k15 11), (e.s k15 12), (e.s k15 13), (e.s k15 14), (e.s k15 15), (e.s k15 16), (e.s k15 17), (e.s k15 18), (e.s k15 19), (e.s k15 20)], 9, (.int .i64 2)⟩, h⟩) fun e h =>
 some ⟨.rt, e, h⟩)
 (some ⟨.nm, e, h⟩)) fun e h =>
 sq (sq (bd (binK 0 .lss (e.s k15 1) (.int .i64 0)) fun t25 =>
 bd (gl t25 false (some (e.s k15 1))) fun t27 =>
 bd (gl t25 false (binK 0 .gtr t27 (.int .i64 12))) fun t28 =>
 bd (pk t25 (.bool true) t28) fun t29 =>
 bd (gl t29 false (some (e.s k15 2))) fun t31 =>
 bd (gl t29 false (binK 0 .lss t31 (.int .i64 (-3)))) fun t32 =>
 bd (pk t29 (.bool true) t32) fun t33 =>
 bd (gl t33 false (some (e.s k15 2))) fun t35 =>
 bd (gl t33 false (binK 0 .gtr t35 (.int .i64 3))) fun t36 =>
 bd (pk t33 (.bool true) t36) fun t37 =>
 bd (gl t37 false (some (e.s k15 2))) fun t39 =>
 bd (gl t37 false (binK 0 .neq t39 (.int .i64 0))) fun t40 =>
 bd (gl t37 false (some t40)) fun t41 =>
 bd (gl t41 true (some (e.s k15 1))) fun t42 =>
 bc k15 [24, 25, 26, 27, 28, 29, 30, 31, 32, 33, 34, 35, 36, 37, 38, 39, 40, 41, 42, 43, 44, 45, 46] e (gk t41 true h (K 36 [t42] h)) fun t43 h1 =>
 bd (gl t41 true (unV .not t43)) fun t44 =>
 bd (gl t37 false (pk t41 t44 (.bool false))) fun t45 =>
 bd (pk t37 (.bool true) t45) fun t46 =>
 some ⟨.nm, ⟨[(e.s k15 0), (e.s k15 1), (e.s k15 2), (e.s k15 3), (e.s k15 7), (e.s k15 8), (e.s k15 9), (e.s k15 10), (e.s k15 11), (e.s k15 12), (e.s k15 13), (e.s k15 14), (e.s k15 15), (e.s k15 16), (e.s k15 17), (e.s k15 18), (e.s k15 19), (e.s k15 20)], 46, t46⟩, h1⟩) fun e h =>
 br (e.s k15 46) (sq (some ⟨.nm, ⟨[(e.s k15 0), (e.s k15 1), (e.s k15 2), (e.s k15 3), (e.s k15 7), .nils, (.int .i64 120), (e.s k15 10), (e.s k15 11), (e.s k15 12), (e.s k15 13), (e.s k15 14), (e.s k15 15), (e.s k15 16), (e.s k15 17), (e.s k15 18), (e.s k15 19), (e.s k15 20)], 9, (.int .i64 120)⟩, h⟩) fun e h =>
 some ⟨.rt, e, h⟩)
 (some ⟨.nm, e, h⟩)) fun e h =>
 sq (sq (bd (ldn 5 h (e.s k15 7)) fun t48 =>
 bc k15 [47, 48, 49, 50] e (K 13 [(e.s k15 0), t48] h) fun t49 h1 =>
 bd (binK 0 .neq t49 (.int .i64 0)) fun t50 =>
 some ⟨.nm, ⟨[(e.s k15 0), (e.s k15 1), (e.s k15 2), (e.s k15 3), (e.s k15 7), (e.s k15 8), (e.s k15 9), (e.s k15 10), (e.s k15 11), (e.s k15 12), (e.s k15 13), (e.s k15 14), (e.s k15 15), (e.s k15 16), (e.s k15 17), (e.s k15 18), (e.s k15 19), (e.s k15 20)], 50, t50⟩, h1⟩) fun e h =>
 br (e.s k15 50) (sq (some ⟨.nm, ⟨[(e.s k15 0), (e.s k15 1), (e.s k15 2), (e.s k15 3), (e.s k15 7), .nils, (.int .i64 2), (e.s k15 10), (e.s k15 11), (e.s k15 12), (e.s k15 13), (e.s k15 14), (e.s k15 15), (e.s k15 16), (e.s k15 17), (e.s k15 18), (e.s k15 19), (e.s k15 20)], 9, (.int .i64 2)⟩, h⟩) fun e h =>
 some ⟨.rt, e, h⟩)
 (some ⟨.nm, e, h⟩)) fun e h =>
 sq (bd (ldn 5 h (e.s k15 7)) fun t52 =>
 bc k15 [51, 52, 53, 10] e (K 37 [(e.s k15 0), t52] h) fun t53 h1 =>
 bf (nw h1 65 [.nils, .nils, (.int .i64 0)]) fun t10 h2 =>
 bf (stZ 3 h2 t10 t53) fun _ h3 =>
 some ⟨.nm, ⟨[(e.s k15 0), (e.s k15 1), (e.s k15 2), (e.s k15 3), (e.s k15 7), (e.s k15 8), (e.s k15 9), t10, (e.s k15 11), (e.s k15 12), (e.s k15 13), (e.s k15 14), (e.s k15 15), (e.s k15 16), (e.s k15 17), (e.s k15 18), (e.s k15 19), (e.s k15 20)], 0, (e.s k15 0)⟩, h3⟩) fun e h =>
 sq (bc k15 [55, 56, 57, 54, 58, 59, 11, 12] e (K 21 [(e.s k15 1), (e.s k15 2)] h) fun t57 h1 =>
 bd (exV t57 0) fun t58 =>
 bd (exV t57 1) fun t59 =>
 some ⟨.nm, ⟨[(e.s k15 0), (e.s k15 1), (e.s k15 2), (e.s k15 3), (e.s k15 7), (e.s k15 8), (e.s k15 9), (e.s k15 10), t58, t59, (e.s k15 13), (e.s k15 14), (e.s k15 15), (e.s k15 16), (e.s k15 17), (e.s k15 18), (e.s k15 19), (e.s k15 20)], 12, t59⟩, h1⟩) fun e h =>
 sq (bd (fa 0 (e.s k15 10)) fun t60 =>
 bd (ld h t60) fun t61 =>
 bd (fa 2 (e.s k15 10)) fun t62 =>
 bd (ld h t62) fun t63 =>
 bn (K 38 [t61, t63] h) fun t64 h1 =>
 bd (fa 1 (e.s k15 10)) fun t65 =>
 bd (ld h1 t65) fun t66 =>
 bd (fa 2 (e.s k15 10)) fun t67 =>
 bd (ld h1 t67) fun t68 =>
 bn (K 38 [t66, t68] h1) fun t69 h2 =>
 bf (nw h2 68 [.nils, (.int .i64 0)]) fun t13 h3 =>
 bf (nw h3 68 [.nils, (.int .i64 0)]) fun t14 h4 =>
 bf (stZ 2 h4 t13 t64) fun _ h5 =>
 bf (stZ 2 h5 t14 t69) fun _ h6 =>
 ck (ld h t60) t61 (ck (ld h t62) t63 (ck (ld h t65) t66 (ck (ld h1 t65) t66 (ck (ld h t67) t68 (ck (ld h1 t67) t68 (some ⟨.nm, ⟨[(e.s k15 0), (e.s k15 1), (e.s k15 2), (e.s k15 3), (e.s k15 7), (e.s k15 8), (e.s k15 9), (e.s k15 10), (e.s k15 11), (e.s k15 12), t13, t14, (e.s k15 15), (e.s k15 16), (e.s k15 17), (e.s k15 18), (e.s k15 19), (e.s k15 20)], 0, (e.s k15 0)⟩, h6⟩))))))) fun e h =>
 sq (sq (bd (gl (e.s k15 12) true (some (e.s k15 2))) fun t72 =>
 bd (gl (e.s k15 12) true (binK 0 .neq t72 (.int .i64 0))) fun t73 =>
 bd (pk (e.s k15 12) t73 (.bool false)) fun t74 =>
 bd (gl t74 true (some (e.s k15 0))) fun t76 =>
 bd (gl t74 true (binK 0 .geq t76 (.int .i64 8))) fun t77 =>
 bd (pk t74 t77 (.bool false)) fun t78 =>
 some ⟨.nm, ⟨[(e.s k15 0), (e.s k15 1), (e.s k15 2), (e.s k15 3), (e.s k15 7), (e.s k15 8), (e.s k15 9), (e.s k15 10), (e.s k15 11), (e.s k15 12), (e.s k15 13), (e.s k15 14), (e.s k15 15), (e.s k15 16), (e.s k15 17), (e.s k15 18), (e.s k15 19), (e.s k15 20)], 78, t78⟩, h⟩) fun e h =>
 br (e.s k15 78) (bd (ldn 2 h (e.s k15 13)) fun t79 =>
 bn (K 39 [t79, (e.s k15 0)] h) fun t81 h1 =>
 bd (ldn 2 h1 (e.s k15 14)) fun t82 =>
 bn (K 39 [t82, (e.s k15 0)] h1) fun t84 h2 =>
 bf (stZ 2 h2 (e.s k15 13) t81) fun _ h3 =>
 bf (stZ 2 h3 (e.s k15 14) t84) fun _ h4 =>
 ck (ldn 2 h (e.s k15 13)) t79 (ck (ldn 2 h (e.s k15 14)) t82 (ck (ldn 2 h1 (e.s k15 14)) t82 (some ⟨.nm, ⟨[(e.s k15 0), (e.s k15 1), (e.s k15 2), (e.s k15 3), (e.s k15 7), (e.s k15 8), (e.s k15 9), (e.s k15 10), (e.s k15 11), (e.s k15 12), (e.s k15 13), (e.s k15 14), (e.s k15 15), (e.s k15 16), (e.s k15 17), (e.s k15 18), (e.s k15 19), (e.s k15 20)], 0, (e.s k15 0)⟩, h4⟩))))
 (some ⟨.nm, e, h⟩)) fun e h =>
 sq (sq (bd (gl (e.s k15 12) true (some (e.s k15 2))) fun t87 =>
 bd (gl (e.s k15 12) true (binK 0 .neq t87 (.int .i64 0))) fun t88 =>
 bd (pk (e.s k15 12) t88 (.bool false)) fun t89 =>
 bd (gl t89 true (some (e.s k15 0))) fun t91 =>
 bd (gl t89 true (binK 0 .eql t91 (.int .i64 4))) fun t92 =>
 bd (pk t89 t92 (.bool false)) fun t93 =>
 some ⟨.nm, ⟨[(e.s k15 0), (e.s k15 1), (e.s k15 2), (e.s k15 3), (e.s k15 7), (e.s k15 8), (e.s k15 9), (e.s k15 10), (e.s k15 11), (e.s k15 12), (e.s k15 13), (e.s k15 14), (e.s k15 15), (e.s k15 16), (e.s k15 17), (e.s k15 18), (e.s k15 19), (e.s k15 20)], 93, t93⟩, h⟩) fun e h =>
 br (e.s k15 93) (bd (ldn 2 h (e.s k15 13)) fun t94 =>
 bn (K 40 [t94, (e.s k15 0)] h) fun t96 h1 =>
 bd (ldn 2 h1 (e.s k15 14)) fun t97 =>
 bn (K 40 [t97, (e.s k15 0)] h1) fun t99 h2 =>
 bf (stZ 2 h2 (e.s k15 13) t96) fun _ h3 =>
 bf (stZ 2 h3 (e.s k15 14) t99) fun _ h4 =>
 ck (ldn 2 h (e.s k15 13)) t94 (ck (ldn 2 h (e.s k15 14)) t97 (ck (ldn 2 h1 (e.s k15 14)) t97 (some ⟨.nm, ⟨[(e.s k15 0), (e.s k15 1), (e.s k15 2), (e.s k15 3), (e.s k15 7), (e.s k15 8), (e.s k15 9), (e.s k15 10), (e.s k15 11), (e.s k15 12), (e.s k15 13), (e.s k15 14), (e.s k15 15), (e.s k15 16), (e.s k15 17), (e.s k15 18), (e.s k15 19), (e.s k15 20)], 0, (e.s k15 0)⟩, h4⟩))))
 (some ⟨.nm, e, h⟩)) fun e h =>
 sq (bd (ldn 5 h (e.s k15 7)) fun t101 =>
 bc k15 [100, 101, 102, 15] e (K 41 [(e.s k15 0), t101] h) fun t102 h1 =>
 some ⟨.nm, ⟨[(e.s k15 0), (e.s k15 1), (e.s k15 2), (e.s k15 3), (e.s k15 7), (e.s k15 8), (e.s k15 9), (e.s k15 10), (e.s k15 11), (e.s k15 12), (e.s k15 13), (e.s k15 14), t102, (e.s k15 16), (e.s k15 17), (e.s k15 18), (e.s k15 19), (e.s k15 20)], 15, t102⟩, h1⟩) fun e h =>
 sq (some ⟨.nm, ⟨[(e.s k15 0), (e.s k15 1), (e.s k15 2), (e.s k15 3), (e.s k15 7), (e.s k15 8), (e.s k15 9), (e.s k15 10), (e.s k15 11), (e.s k15 12), (e.s k15 13), (e.s k15 14), (e.s k15 15), .nils, (e.s k15 17), (e.s k15 18), (e.s k15 19), (e.s k15 20)], 16, .nils⟩, h⟩) fun e h =>
 sq (sq (some ⟨.nm, ⟨[(e.s k15 0), (e.s k15 1), (e.s k15 2), (e.s k15 3), (e.s k15 7), (e.s k15 8), (e.s k15 9), (e.s k15 10), (e.s k15 11), (e.s k15 12), (e.s k15 13), (e.s k15 14), (e.s k15 15), (e.s k15 16), (.int .i64 0), (e.s k15 18), (e.s k15 19), (e.s k15 20)], 17, (.int .i64 0)⟩, h⟩) fun e h =>
 blk 0 (L (l15_0 K L) e h)) fun e h =>
 sq (some ⟨.nm, ⟨[(e.s k15 0), (e.s k15 1), (e.s k15 2), (e.s k15 3), (e.s k15 7), (e.s k15 16), (.int .i64 0), (e.s k15 10), (e.s k15 11), (e.s k15 12), (e.s k15 13), (e.s k15 14), (e.s k15 15), (e.s k15 16), (e.s k15 17), (e.s k15 18), (e.s k15 19), (e.s k15 20)], 9, (.int .i64 0)⟩, h⟩) fun e h =>
 some ⟨.rt, e, h⟩
noncomputable def f15 (K : Oracle) (L : Looper) (p0 p1 p2 p3 : V) (h : H) : Option (Rv × H) := fin Try.prog k15 [.tmp 8, .tmp 9] (s15 K L ⟨[p0, p1, p2, p3, V.und, V.und, V.und, V.und, V.und, V.und, V.und, V.und, V.und, V.und, V.und, V.und, V.und, V.und], 0, p0⟩ h)
theorem r15 : (fun K L p0 p1 p2 p3 h => runFF Try.prog kp K L 15 [p0, p1, p2, p3] h) = f15 := by kernel_rfl
theorem c15 (p0 p1 p2 p3 : V) (h : H) : callZ Try.prog kp 15 [p0, p1, p2, p3] h = f15 (callZ Try.prog kp) loopZ p0 p1 p2 p3 h :=
  (callZ_eqF _ _ _ _ _).trans (congrFun (congrFun (congrFun (congrFun (congrFun (congrFun (congrFun (r15) _) _) p0) p1) p2) p3) h)

/-- zoetrope/zoetroperef00.EqBytes -/
@[simp] def k16 : List Nat := [0, 1, 4, 5]
noncomputable def l16_0 (K : Oracle) (L : Looper) (e : E) (h : H) : Out :=
 sq (sq (bd (lnS (e.s k16 0)) fun t13 =>
 bd (binK 0 .lss (e.s k16 5) t13) fun t14 =>
 some ⟨.nm, ⟨[(e.s k16 0), (e.s k16 1), (e.s k16 4), (e.s k16 5)], 14, t14⟩, h⟩) fun e h =>
 br (e.s k16 14) (some ⟨.nm, e, h⟩)
 (some ⟨.ex 0, e, h⟩)) fun e h =>
 sq (blk 1 (sq (bd (iaS 1 (e.s k16 0) (e.s k16 5)) fun t19 =>
 bd (ld h t19) fun t20 =>
 bd (iaS 1 (e.s k16 1) (e.s k16 5)) fun t23 =>
 bd (ld h t23) fun t24 =>
 bd (binK 0 .neq t20 t24) fun t25 =>
 ck (ld h t19) t20 (ck (ld h t23) t24 (some ⟨.nm, ⟨[(e.s k16 0), (e.s k16 1), (e.s k16 4), (e.s k16 5)], 25, t25⟩, h⟩))) fun e h =>
 br (e.s k16 25) (sq (some ⟨.nm, ⟨[(e.s k16 0), (e.s k16 1), (.bool false), (e.s k16 5)], 4, (.bool false)⟩, h⟩) fun e h =>
 some ⟨.rt, e, h⟩)
 (some ⟨.nm, e, h⟩))) fun e h =>
 bd (binK 0 .add (e.s k16 5) (.int .i64 1)) fun t16 =>
 some ⟨.nm, ⟨[(e.s k16 0), (e.s k16 1), (e.s k16 4), t16], 5, t16⟩, h⟩
noncomputable def s16 (K : Oracle) (L : Looper) (e : E) (h : H) : Out :=
 sq (some ⟨.nm, ⟨[(e.s k16 0), (e.s k16 1), (.bool false), (e.s k16 5)], 4, (.bool false)⟩, h⟩) fun e h =>
 sq (sq (bd (lnS (e.s k16 0)) fun t7 =>
 bd (lnS (e.s k16 1)) fun t9 =>
 bd (binK 0 .neq t7 t9) fun t10 =>
 some ⟨.nm, ⟨[(e.s k16 0), (e.s k16 1), (e.s k16 4), (e.s k16 5)], 10, t10⟩, h⟩) fun e h =>
 br (e.s k16 10) (sq (some ⟨.nm, ⟨[(e.s k16 0), (e.s k16 1), (.bool false), (e.s k16 5)], 4, (.bool false)⟩, h⟩) fun e h =>
 some ⟨.rt, e, h⟩)
 (some ⟨.nm, e, h⟩)) fun e h =>
 sq (sq (some ⟨.nm, ⟨[(e.s k16 0), (e.s k16 1), (e.s k16 4), (.int .i64 0)], 5, (.int .i64 0)⟩, h⟩) fun e h =>
 blk 0 (L (l16_0 K L) e h)) fun e h =>
 sq (some ⟨.nm, ⟨[(e.s k16 0), (e.s k16 1), (.bool true), (e.s k16 5)], 4, (.bool true)⟩, h⟩) fun e h =>
 some ⟨.rt, e, h⟩
noncomputable def f16 (K : Oracle) (L : Looper) (p0 p1 : V) (h : H) : Option (Rv × H) := fin Try.prog k16 [.tmp 4] (s16 K L ⟨[p0, p1, V.und, V.und], 0, p0⟩ h)
theorem r16 : (fun K L p0 p1 h => runFF Try.prog kp K L 16 [p0, p1] h) = f16 := by kernel_rfl
theorem c16 (p0 p1 : V) (h : H) : callZ Try.prog kp 16 [p0, p1] h = f16 (callZ Try.prog kp) loopZ p0 p1 h :=
  (callZ_eqF _ _ _ _ _).trans (congrFun (congrFun (congrFun (congrFun (congrFun (r16) _) _) p0) p1) h)

/-- zoetrope/zoetropelaw12.works -/
@[simp] def k17 : List Nat := [0]
noncomputable def s17 (K : Oracle) (L : Looper) (e : E) (h : H) : Out :=
 sq (some ⟨.nm, ⟨[(.bool false)], 0, (.bool false)⟩, h⟩) fun e h =>
 sq (bc k17 [1, 2, 3, 4, 5, 6, 7, 8, 9, 10, 11, 12, 13, 0] e (K 26 [(.int .i64 4), (.int .i64 0)] h) fun t1 h1 =>
 bf (bs h1 5 16 (List.replicate 16 (.int .u8 0)) [(some (0, 1), (.int .u8 5)), (some (1, 1), (.int .u8 10)), (some (2, 1), (.int .u8 20)), (some (3, 1), (.int .u8 30)), (some (4, 1), (.int .u8 50)), (some (5, 1), (.int .u8 5)), (some (6, 1), (.int .u8 10)), (some (7, 1), (.int .u8 20)), (some (8, 1), (.int .u8 60)), (some (9, 1), (.int .u8 50)), (some (10, 1), (.int .u8 5)), (some (11, 1), (.int .u8 10)), (some (12, 1), (.int .u8 70)), (some (13, 1), (.int .u8 60)), (some (14, 1), (.int .u8 50)), (some (15, 1), (.int .u8 5))]) fun t2 h2 =>
 bc k17 [1, 2, 3, 4, 5, 6, 7, 8, 9, 10, 11, 12, 13, 0] e (K 16 [t1, t2] h2) fun t3 h3 =>
 bc k17 [1, 2, 3, 4, 5, 6, 7, 8, 9, 10, 11, 12, 13, 0] e (gk t3 true h3 (K 26 [(.int .i64 1), (.int .i64 3)] h3)) fun t5 h4 =>
 bf (gf t3 true h4 (bs h4 5 16 (List.replicate 16 (.int .u8 0)) [(some (0, 1), (.int .u8 9)), (some (1, 1), (.int .u8 18)), (some (2, 1), (.int .u8 28)), (some (3, 1), (.int .u8 39)), (some (4, 1), (.int .u8 8)), (some (5, 1), (.int .u8 17)), (some (6, 1), (.int .u8 27)), (some (7, 1), (.int .u8 37)), (some (8, 1), (.int .u8 7)), (some (9, 1), (.int .u8 15)), (some (10, 1), (.int .u8 25)), (some (11, 1), (.int .u8 36)), (some (12, 1), (.int .u8 6)), (some (13, 1), (.int .u8 13)), (some (14, 1), (.int .u8 23)), (some (15, 1), (.int .u8 34))])) fun t6 h5 =>
 bc k17 [1, 2, 3, 4, 5, 6, 7, 8, 9, 10, 11, 12, 13, 0] e (gk t3 true h5 (K 16 [t5, t6] h5)) fun t7 h6 =>
 bd (pk t3 t7 (.bool false)) fun t8 =>
 bc k17 [1, 2, 3, 4, 5, 6, 7, 8, 9, 10, 11, 12, 13, 0] e (gk t8 true h6 (K 26 [(.int .i64 9), (.int .i64 0)] h6)) fun t10 h7 =>
 bf (gf t8 true h7 (bs h7 5 16 (List.replicate 16 (.int .u8 0)) [(some (0, 1), (.int .u8 30)), (some (1, 1), (.int .u8 34)), (some (2, 1), (.int .u8 37)), (some (3, 1), (.int .u8 41)), (some (4, 1), (.int .u8 45)), (some (5, 1), (.int .u8 46)), (some (6, 1), (.int .u8 46)), (some (7, 1), (.int .u8 47)), (some (8, 1), (.int .u8 60)), (some (9, 1), (.int .u8 58)), (some (10, 1), (.int .u8 56)), (some (11, 1), (.int .u8 54)), (some (12, 1), (.int .u8 76)), (some (13, 1), (.int .u8 71)), (some (14, 1), (.int .u8 65)), (some (15, 1), (.int .u8 60))])) fun t11 h8 =>
 bc k17 [1, 2, 3, 4, 5, 6, 7, 8, 9, 10, 11, 12, 13, 0] e (gk t8 true h8 (K 16 [t10, t11] h8)) fun t12 h9 =>
 bd (pk t8 t12 (.bool false)) fun t13 =>
 some ⟨.nm, ⟨[t13], 0, t13⟩, h9⟩) fun e h =>
 some ⟨.rt, e, h⟩
noncomputable def f17 (K : Oracle) (L : Looper) (h : H) : Option (Rv × H) := fin Try.prog k17 [.tmp 0] (s17 K L ⟨[V.und], 0, V.und⟩ h)
theorem r17 : (fun K L h => runFF Try.prog kp K L 17 [] h) = f17 := by kernel_rfl
theorem c17 (h : H) : callZ Try.prog kp 17 [] h = f17 (callZ Try.prog kp) loopZ h :=
  (callZ_eqF _ _ _ _ _).trans (congrFun (congrFun (congrFun (r17) _) _) h)

/-- zoetrope/zoetroperef00.Bring -/
@[simp] def k18 : List Nat := [0, 1, 4]
noncomputable def s18 (K : Oracle) (L : Looper) (e : E) (h : H) : Out :=
 sq (some ⟨.nm, ⟨[(e.s k18 0), (e.s k18 1), (.int .i64 0)], 4, (.int .i64 0)⟩, h⟩) fun e h =>
 sq (sq (bd (binK 0 .leq (e.s k18 1) (.int .i64 0)) fun t6 =>
 some ⟨.nm, ⟨[(e.s k18 0), (e.s k18 1), (e.s k18 4)], 6, t6⟩, h⟩) fun e h =>
 br (e.s k18 6) (sq (some ⟨.nm, ⟨[(e.s k18 0), (e.s k18 1), (.int .i64 0)], 4, (.int .i64 0)⟩, h⟩) fun e h =>
 some ⟨.rt, e, h⟩)
 (some ⟨.nm, e, h⟩)) fun e h =>
 sq (bd (binK 0 .rem (e.s k18 0) (e.s k18 1)) fun t9 =>
 some ⟨.nm, ⟨[t9, (e.s k18 1), (e.s k18 4)], 0, t9⟩, h⟩) fun e h =>
 sq (sq (bd (binK 0 .lss (e.s k18 0) (.int .i64 0)) fun t11 =>
 some ⟨.nm, ⟨[(e.s k18 0), (e.s k18 1), (e.s k18 4)], 11, t11⟩, h⟩) fun e h =>
 br (e.s k18 11) (bd (binK 0 .add (e.s k18 0) (e.s k18 1)) fun t14 =>
 some ⟨.nm, ⟨[t14, (e.s k18 1), (e.s k18 4)], 0, t14⟩, h⟩)
 (some ⟨.nm, e, h⟩)) fun e h =>
 sq (some ⟨.nm, ⟨[(e.s k18 0), (e.s k18 1), (e.s k18 0)], 4, (e.s k18 0)⟩, h⟩) fun e h =>
 some ⟨.rt, e, h⟩
noncomputable def f18 (K : Oracle) (L : Looper) (p0 p1 : V) (h : H) : Option (Rv × H) := fin Try.prog k18 [.tmp 4] (s18 K L ⟨[p0, p1, V.und], 0, p0⟩ h)
theorem r18 : (fun K L p0 p1 h => runFF Try.prog kp K L 18 [p0, p1] h) = f18 := by kernel_rfl
theorem c18 (p0 p1 : V) (h : H) : callZ Try.prog kp 18 [p0, p1] h = f18 (callZ Try.prog kp) loopZ p0 p1 h :=
  (callZ_eqF _ _ _ _ _).trans (congrFun (congrFun (congrFun (congrFun (congrFun (r18) _) _) p0) p1) h)

/-- zoetrope/zoetropelaw12.fitting -/
@[simp] def k19 : List Nat := [0, 1, 2, 4, 5]
noncomputable def s19 (K : Oracle) (L : Looper) (e : E) (h : H) : Out :=
 sq (bf (bx h 25 (e.s k19 0)) fun t2 h1 =>
 bf (nw h1 25 [(.bool false), (.bool false), .nils, .nils, (.int .u8 0)]) fun t4 h2 =>
 some ⟨.nm, ⟨[(e.s k19 0), (e.s k19 1), t2, t4, (e.s k19 5)], 4, t4⟩, h2⟩) fun e h =>
 sq (bd (fa 0 (e.s k19 2)) fun t6 =>
 bd (ld h t6) fun t7 =>
 bd (fa 1 (e.s k19 2)) fun t8 =>
 bd (ld h t8) fun t9 =>
 bd (fa 4 (e.s k19 2)) fun t10 =>
 bd (ld h t10) fun t11 =>
 bd (bl [(.bool false), (.bool false), .nils, .nils, (.int .u8 0)] [(some (0, 1), t7), (some (1, 1), t9), (some (4, 1), t11)]) fun t12 =>
 bf (nw h 25 [(.bool false), (.bool false), .nils, .nils, (.int .u8 0)]) fun t5 h1 =>
 bf (stZ 5 h1 t5 t12) fun _ h2 =>
 some ⟨.nm, ⟨[(e.s k19 0), (e.s k19 1), (e.s k19 2), (e.s k19 4), t5], 0, (e.s k19 0)⟩, h2⟩) fun e h =>
 sq (sq (bd (fa 0 (e.s k19 2)) fun t13 =>
 bd (ld h t13) fun t14 =>
 some ⟨.nm, ⟨[(e.s k19 0), (e.s k19 1), (e.s k19 2), (e.s k19 4), (e.s k19 5)], 14, t14⟩, h⟩) fun e h =>
 br (e.s k19 14) (bd (fa 2 (e.s k19 2)) fun t15 =>
 bd (ld h t15) fun t16 =>
 bc k19 [15, 16, 17, 18, 19] e (K 45 [t16, (e.s k19 1)] h) fun t18 h1 =>
 bd (fa 2 (e.s k19 5)) fun t19 =>
 bf (stZ 1 h1 t19 t18) fun _ h2 =>
 some ⟨.nm, ⟨[(e.s k19 0), (e.s k19 1), (e.s k19 2), (e.s k19 4), (e.s k19 5)], 0, (e.s k19 0)⟩, h2⟩)
 (some ⟨.nm, e, h⟩)) fun e h =>
 sq (sq (bd (fa 1 (e.s k19 2)) fun t20 =>
 bd (ld h t20) fun t21 =>
 some ⟨.nm, ⟨[(e.s k19 0), (e.s k19 1), (e.s k19 2), (e.s k19 4), (e.s k19 5)], 21, t21⟩, h⟩) fun e h =>
 br (e.s k19 21) (bd (fa 3 (e.s k19 2)) fun t22 =>
 bd (ld h t22) fun t23 =>
 bc k19 [22, 23, 24, 25, 26] e (K 45 [t23, (e.s k19 1)] h) fun t25 h1 =>
 bd (fa 3 (e.s k19 5)) fun t26 =>
 bf (stZ 1 h1 t26 t25) fun _ h2 =>
 some ⟨.nm, ⟨[(e.s k19 0), (e.s k19 1), (e.s k19 2), (e.s k19 4), (e.s k19 5)], 0, (e.s k19 0)⟩, h2⟩)
 (some ⟨.nm, e, h⟩)) fun e h =>
 sq (bd (ldn 5 h (e.s k19 5)) fun t27 =>
 bf (stZ 5 h (e.s k19 4) t27) fun _ h1 =>
 some ⟨.nm, ⟨[(e.s k19 0), (e.s k19 1), (e.s k19 2), (e.s k19 4), (e.s k19 5)], 0, (e.s k19 0)⟩, h1⟩) fun e h =>
 some ⟨.rt, e, h⟩
noncomputable def f19 (K : Oracle) (L : Looper) (p0 p1 : V) (h : H) : Option (Rv × H) := fin Try.prog k19 [.cell 4 25] (s19 K L ⟨[p0, p1, V.und, V.und, V.und], 0, p0⟩ h)
theorem r19 : (fun K L p0 p1 h => runFF Try.prog kp K L 19 [p0, p1] h) = f19 := by kernel_rfl
theorem c19 (p0 p1 : V) (h : H) : callZ Try.prog kp 19 [p0, p1] h = f19 (callZ Try.prog kp) loopZ p0 p1 h :=
  (callZ_eqF _ _ _ _ _).trans (congrFun (congrFun (congrFun (congrFun (congrFun (r19) _) _) p0) p1) h)

/-- zoetrope/intra.Angle -/
@[simp] def k20 : List Nat := [0, 1, 4, 5]
noncomputable def s20 (K : Oracle) (L : Looper) (e : E) (h : H) : Out :=
 sq (some ⟨.nm, ⟨[(e.s k20 0), (e.s k20 1), (.int .i64 0), (.bool false)], 5, (.bool false)⟩, h⟩) fun e h =>
 sq (sq (bd (binK 0 .lss (e.s k20 0) (.int .i64 1)) fun t7 =>
 bd (gl t7 false (some (e.s k20 0))) fun t9 =>
 bd (gl t7 false (binK 0 .gtr t9 (.int .i64 8))) fun t10 =>
 bd (pk t7 (.bool true) t10) fun t11 =>
 bd (gl t11 false (some (e.s k20 1))) fun t13 =>
 bd (gl t11 false (binK 0 .lss t13 (.int .i64 (-3)))) fun t14 =>
 bd (pk t11 (.bool true) t14) fun t15 =>
 bd (gl t15 false (some (e.s k20 1))) fun t17 =>
 bd (gl t15 false (binK 0 .gtr t17 (.int .i64 3))) fun t18 =>
 bd (pk t15 (.bool true) t18) fun t19 =>
 some ⟨.nm, ⟨[(e.s k20 0), (e.s k20 1), (e.s k20 4), (e.s k20 5)], 19, t19⟩, h⟩) fun e h =>
 br (e.s k20 19) (sq (some ⟨.nm, ⟨[(e.s k20 0), (e.s k20 1), (.int .i64 0), (.bool false)], 5, (.bool false)⟩, h⟩) fun e h =>
 some ⟨.rt, e, h⟩)
 (some ⟨.nm, e, h⟩)) fun e h =>
 sq (bd (bl [(.int .i64 0), (.int .i64 0), (.int .i64 0), (.int .i64 0), (.int .i64 0), (.int .i64 0), (.int .i64 0), (.int .i64 0)] [(some (0, 1), (.int .i64 90)), (some (1, 1), (.int .i64 180)), (some (2, 1), (.int .i64 45)), (some (3, 1), (.int .i64 135)), (some (4, 1), (.int .i64 113)), (some (5, 1), (.int .i64 157)), (some (6, 1), (.int .i64 203)), (some (7, 1), (.int .i64 67))]) fun t20 =>
 bd (binK 0 .sub (e.s k20 0) (.int .i64 1)) fun t22 =>
 bd (ixA 8 1 t20 t22) fun t23 =>
 bd (binK 0 .mul (.int .i64 3) (e.s k20 1)) fun t25 =>
 bd (binK 0 .add t23 t25) fun t26 =>
 some ⟨.nm, ⟨[(e.s k20 0), (e.s k20 1), t26, (.bool true)], 5, (.bool true)⟩, h⟩) fun e h =>
 some ⟨.rt, e, h⟩
noncomputable def f20 (K : Oracle) (L : Looper) (p0 p1 : V) (h : H) : Option (Rv × H) := fin Try.prog k20 [.tmp 4, .tmp 5] (s20 K L ⟨[p0, p1, V.und, V.und], 0, p0⟩ h)
theorem r20 : (fun K L p0 p1 h => runFF Try.prog kp K L 20 [p0, p1] h) = f20 := by kernel_rfl
theorem c20 (p0 p1 : V) (h : H) : callZ Try.prog kp 20 [p0, p1] h = f20 (callZ Try.prog kp) loopZ p0 p1 h :=
  (callZ_eqF _ _ _ _ _).trans (congrFun (congrFun (congrFun (congrFun (congrFun (r20) _) _) p0) p1) h)

/-- zoetrope/zoetroperef12.Angle -/
@[simp] def k21 : List Nat := [0, 1, 4, 5]
noncomputable def s21 (K : Oracle) (L : Looper) (e : E) (h : H) : Out :=
 sq (some ⟨.nm, ⟨[(e.s k21 0), (e.s k21 1), (.int .i64 0), (.bool false)], 5, (.bool false)⟩, h⟩) fun e h =>
 sq (sq (bc k21 [6, 7, 8, 9, 10, 11, 12, 13, 14, 15, 16] e (K 36 [(e.s k21 0)] h) fun t7 h1 =>
 bd (unV .not t7) fun t8 =>
 bd (gl t8 false (some (e.s k21 1))) fun t10 =>
 bd (gl t8 false (binK 0 .lss t10 (.int .i64 (-3)))) fun t11 =>
 bd (pk t8 (.bool true) t11) fun t12 =>
 bd (gl t12 false (some (e.s k21 1))) fun t14 =>
 bd (gl t12 false (binK 0 .gtr t14 (.int .i64 3))) fun t15 =>
 bd (pk t12 (.bool true) t15) fun t16 =>
 some ⟨.nm, ⟨[(e.s k21 0), (e.s k21 1), (e.s k21 4), (e.s k21 5)], 16, t16⟩, h1⟩) fun e h =>
 br (e.s k21 16) (sq (some ⟨.nm, ⟨[(e.s k21 0), (e.s k21 1), (.int .i64 0), (.bool false)], 5, (.bool false)⟩, h⟩) fun e h =>
 some ⟨.rt, e, h⟩)
 (some ⟨.nm, e, h⟩)) fun e h =>
 sq (bf (bs h 3 8 [(.int .i64 0), (.int .i64 0), (.int .i64 0), (.int .i64 0), (.int .i64 0), (.int .i64 0), (.int .i64 0), (.int .i64 0)] [(some (0, 1), (.int .i64 90)), (some (1, 1), (.int .i64 180)), (some (2, 1), (.int .i64 45)), (some (3, 1), (.int .i64 135)), (some (4, 1), (.int .i64 113)), (some (5, 1), (.int .i64 157)), (some (6, 1), (.int .i64 203)), (some (7, 1), (.int .i64 67))]) fun t17 h1 =>
 bd (binK 0 .sub (e.s k21 0) (.int .i64 1)) fun t19 =>
 bd (iaS 1 t17 t19) fun t20 =>
 bd (ld h1 t20) fun t21 =>
 bd (binK 0 .mul (.int .i64 3) (e.s k21 1)) fun t23 =>
 bd (binK 0 .add t21 t23) fun t24 =>
 some ⟨.nm, ⟨[(e.s k21 0), (e.s k21 1), t24, (.bool true)], 5, (.bool true)⟩, h1⟩) fun e h =>
 some ⟨.rt, e, h⟩
noncomputable def f21 (K : Oracle) (L : Looper) (p0 p1 : V) (h : H) : Option (Rv × H) := fin Try.prog k21 [.tmp 4, .tmp 5] (s21 K L ⟨[p0, p1, V.und, V.und], 0, p0⟩ h)
theorem r21 : (fun K L p0 p1 h => runFF Try.prog kp K L 21 [p0, p1] h) = f21 := by kernel_rfl
theorem c21 (p0 p1 : V) (h : H) : callZ Try.prog kp 21 [p0, p1] h = f21 (callZ Try.prog kp) loopZ p0 p1 h :=
  (callZ_eqF _ _ _ _ _).trans (congrFun (congrFun (congrFun (congrFun (congrFun (r21) _) _) p0) p1) h)

/-- zoetrope/zoetropelaw12.directs -/
@[simp] def k22 : List Nat := [0, 1, 4]
noncomputable def s22 (K : Oracle) (L : Looper) (e : E) (h : H) : Out :=
 sq (some ⟨.nm, ⟨[(e.s k22 0), (e.s k22 1), (.bool false)], 4, (.bool false)⟩, h⟩) fun e h =>
 sq (bd (binK 0 .eql (e.s k22 1) (.int .i64 0)) fun t6 =>
 bd (gl t6 false (some (e.s k22 0))) fun t8 =>
 bd (gl t6 false (binK 0 .geq t8 (.int .i64 1))) fun t9 =>
 bd (gl t6 false (some t9)) fun t10 =>
 bd (gl t10 true (some (e.s k22 0))) fun t11 =>
 bd (gl t10 true (binK 0 .leq t11 (.int .i64 8))) fun t12 =>
 bd (gl t6 false (pk t10 t12 (.bool false))) fun t13 =>
 bd (pk t6 (.bool true) t13) fun t14 =>
 some ⟨.nm, ⟨[(e.s k22 0), (e.s k22 1), t14], 4, t14⟩, h⟩) fun e h =>
 some ⟨.rt, e, h⟩
noncomputable def f22 (K : Oracle) (L : Looper) (p0 p1 : V) (h : H) : Option (Rv × H) := fin Try.prog k22 [.tmp 4] (s22 K L ⟨[p0, p1, V.und], 0, p0⟩ h)
theorem r22 : (fun K L p0 p1 h => runFF Try.prog kp K L 22 [p0, p1] h) = f22 := by kernel_rfl
theorem c22 (p0 p1 : V) (h : H) : callZ Try.prog kp 22 [p0, p1] h = f22 (callZ Try.prog kp) loopZ p0 p1 h :=
  (callZ_eqF _ _ _ _ _).trans (congrFun (congrFun (congrFun (congrFun (congrFun (r22) _) _) p0) p1) h)

/-- zoetrope/zoetropelaw12.bounds -/
@[simp] def k23 : List Nat := [0, 1, 2, 4, 5, 6, 7, 8, 9]
noncomputable def l23_0 (K : Oracle) (L : Looper) (e : E) (h : H) : Out :=
 sq (sq (bd (lnS (e.s k23 6)) fun t45 =>
 bd (binK 0 .lss (e.s k23 9) t45) fun t46 =>
 some ⟨.nm, ⟨[(e.s k23 0), (e.s k23 1), (e.s k23 2), (e.s k23 4), (e.s k23 5), (e.s k23 6), (e.s k23 7), (e.s k23 8), (e.s k23 9)], 46, t46⟩, h⟩) fun e h =>
 br (e.s k23 46) (some ⟨.nm, e, h⟩)
 (some ⟨.ex 0, e, h⟩)) fun e h =>
 sq (blk 1 (sq (bd (iaS 1 (e.s k23 6) (e.s k23 9)) fun t52 =>
 bd (ld h t52) fun t53 =>
 bd (cv .i64 t53) fun t54 =>
 bd (minV [(e.s k23 7), t54]) fun t55 =>
 some ⟨.nm, ⟨[(e.s k23 0), (e.s k23 1), (e.s k23 2), (e.s k23 4), (e.s k23 5), (e.s k23 6), t55, (e.s k23 8), (e.s k23 9)], 7, t55⟩, h⟩) fun e h =>
 bd (iaS 1 (e.s k23 6) (e.s k23 9)) fun t59 =>
 bd (ld h t59) fun t60 =>
 bd (cv .i64 t60) fun t61 =>
 bd (maxV [(e.s k23 8), t61]) fun t62 =>
 some ⟨.nm, ⟨[(e.s k23 0), (e.s k23 1), (e.s k23 2), (e.s k23 4), (e.s k23 5), (e.s k23 6), (e.s k23 7), t62, (e.s k23 9)], 8, t62⟩, h⟩)) fun e h =>
 bd (binK 0 .add (e.s k23 9) (.int .i64 1)) fun t48 =>
 some ⟨.nm, ⟨[(e.s k23 0), (e.s k23 1), (e.s k23 2), (e.s k23 4), (e.s k23 5), (e.s k23 6), (e.s k23 7), (e.s k23 8), t48], 9, t48⟩, h⟩
noncomputable def s23 (K : Oracle) (L : Looper) (e : E) (h : H) : Out :=
 sq (bf (bx h 25 (e.s k23 0)) fun t2 h1 =>
 some ⟨.nm, ⟨[(e.s k23 0), (e.s k23 1), t2, (.int .i64 0), (.int .i64 0), (e.s k23 6), (e.s k23 7), (e.s k23 8), (e.s k23 9)], 5, (.int .i64 0)⟩, h1⟩) fun e h =>
 sq (some ⟨.nm, ⟨[(e.s k23 0), (e.s k23 1), (e.s k23 2), (e.s k23 4), (e.s k23 5), .nils, (e.s k23 7), (e.s k23 8), (e.s k23 9)], 6, .nils⟩, h⟩) fun e h =>
 sq (bd (fa 2 (e.s k23 2)) fun t11 =>
 bd (ld h t11) fun t12 =>
 bf (apZ 5 1 1 h (e.s k23 6) t12) fun t13 h1 =>
 some ⟨.nm, ⟨[(e.s k23 0), (e.s k23 1), (e.s k23 2), (e.s k23 4), (e.s k23 5), t13, (e.s k23 7), (e.s k23 8), (e.s k23 9)], 6, t13⟩, h1⟩) fun e h =>
 sq (bd (fa 3 (e.s k23 2)) fun t15 =>
 bd (ld h t15) fun t16 =>
 bf (apZ 5 1 1 h (e.s k23 6) t16) fun t17 h1 =>
 some ⟨.nm, ⟨[(e.s k23 0), (e.s k23 1), (e.s k23 2), (e.s k23 4), (e.s k23 5), t17, (e.s k23 7), (e.s k23 8), (e.s k23 9)], 6, t17⟩, h1⟩) fun e h =>
 sq (sq (bd (lnS (e.s k23 6)) fun t19 =>
 bd (binK 0 .eql t19 (.int .i64 0)) fun t20 =>
 bd (gl t20 true (some (e.s k23 1))) fun t22 =>
 bd (gl t20 true (binK 0 .eql t22 (.int .i64 0))) fun t23 =>
 bd (pk t20 t23 (.bool false)) fun t24 =>
 some ⟨.nm, ⟨[(e.s k23 0), (e.s k23 1), (e.s k23 2), (e.s k23 4), (e.s k23 5), (e.s k23 6), (e.s k23 7), (e.s k23 8), (e.s k23 9)], 24, t24⟩, h⟩) fun e h =>
 br (e.s k23 24) (sq (some ⟨.nm, ⟨[(e.s k23 0), (e.s k23 1), (e.s k23 2), (.int .i64 128), (.int .i64 128), (e.s k23 6), (e.s k23 7), (e.s k23 8), (e.s k23 9)], 5, (.int .i64 128)⟩, h⟩) fun e h =>
 some ⟨.rt, e, h⟩)
 (some ⟨.nm, e, h⟩)) fun e h =>
 sq (sq (bd (lnS (e.s k23 6)) fun t26 =>
 bd (binK 0 .eql t26 (.int .i64 0)) fun t27 =>
 some ⟨.nm, ⟨[(e.s k23 0), (e.s k23 1), (e.s k23 2), (e.s k23 4), (e.s k23 5), (e.s k23 6), (e.s k23 7), (e.s k23 8), (e.s k23 9)], 27, t27⟩, h⟩) fun e h =>
 br (e.s k23 27) (sq (some ⟨.nm, ⟨[(e.s k23 0), (e.s k23 1), (e.s k23 2), (.int .i64 127), (.int .i64 129), (e.s k23 6), (e.s k23 7), (e.s k23 8), (e.s k23 9)], 5, (.int .i64 129)⟩, h⟩) fun e h =>
 some ⟨.rt, e, h⟩)
 (some ⟨.nm, e, h⟩)) fun e h =>
 sq (sq (bd (fa 0 (e.s k23 2)) fun t28 =>
 bd (ld h t28) fun t29 =>
 bd (gl t29 true (fa 1 (e.s k23 2))) fun t31 =>
 bd (gl t29 true (ld h t31)) fun t32 =>
 bd (pk t29 t32 (.bool false)) fun t33 =>
 bd (gl t33 true (some (e.s k23 1))) fun t35 =>
 bd (gl t33 true (binK 0 .neq t35 (.int .i64 0))) fun t36 =>
 bd (pk t33 t36 (.bool false)) fun t37 =>
 some ⟨.nm, ⟨[(e.s k23 0), (e.s k23 1), (e.s k23 2), (e.s k23 4), (e.s k23 5), (e.s k23 6), (e.s k23 7), (e.s k23 8), (e.s k23 9)], 37, t37⟩, h⟩) fun e h =>
 br (e.s k23 37) (bd (fa 4 (e.s k23 2)) fun t39 =>
 bd (ld h t39) fun t40 =>
 bf (bs h 5 1 [(.int .u8 0)] [(some (0, 1), t40)]) fun t41 h1 =>
 bf (apZ 5 1 1 h1 (e.s k23 6) t41) fun t42 h2 =>
 some ⟨.nm, ⟨[(e.s k23 0), (e.s k23 1), (e.s k23 2), (e.s k23 4), (e.s k23 5), t42, (e.s k23 7), (e.s k23 8), (e.s k23 9)], 6, t42⟩, h2⟩)
 (some ⟨.nm, e, h⟩)) fun e h =>
 sq (some ⟨.nm, ⟨[(e.s k23 0), (e.s k23 1), (e.s k23 2), (e.s k23 4), (e.s k23 5), (e.s k23 6), (.int .i64 255), (.int .i64 0), (e.s k23 9)], 8, (.int .i64 0)⟩, h⟩) fun e h =>
 sq (sq (some ⟨.nm, ⟨[(e.s k23 0), (e.s k23 1), (e.s k23 2), (e.s k23 4), (e.s k23 5), (e.s k23 6), (e.s k23 7), (e.s k23 8), (.int .i64 0)], 9, (.int .i64 0)⟩, h⟩) fun e h =>
 blk 0 (L (l23_0 K L) e h)) fun e h =>
 sq (some ⟨.nm, ⟨[(e.s k23 0), (e.s k23 1), (e.s k23 2), (e.s k23 7), (e.s k23 8), (e.s k23 6), (e.s k23 7), (e.s k23 8), (e.s k23 9)], 5, (e.s k23 8)⟩, h⟩) fun e h =>
 some ⟨.rt, e, h⟩
noncomputable def f23 (K : Oracle) (L : Looper) (p0 p1 : V) (h : H) : Option (Rv × H) := fin Try.prog k23 [.tmp 4, .tmp 5] (s23 K L ⟨[p0, p1, V.und, V.und, V.und, V.und, V.und, V.und, V.und], 0, p0⟩ h)
theorem r23 : (fun K L p0 p1 h => runFF Try.prog kp K L 23 [p0, p1] h) = f23 := by kernel_rfl
theorem c23 (p0 p1 : V) (h : H) : callZ Try.prog kp 23 [p0, p1] h = f23 (callZ Try.prog kp) loopZ p0 p1 h :=
  (callZ_eqF _ _ _ _ _).trans (congrFun (congrFun (congrFun (congrFun (congrFun (r23) _) _) p0) p1) h)

/-- zoetrope/zoetropelaw12.turnsInto -/
@[simp] def k24 : List Nat := [0, 1, 2, 3, 4, 5, 10, 11, 12, 13, 14, 15, 16]
noncomputable def l24_0 (K : Oracle) (L : Looper) (e : E) (h : H) : Out :=
 sq (sq (bd (binK 0 .mul (e.s k24 1) (e.s k24 1)) fun t70 =>
 bd (binK 0 .lss (e.s k24 16) t70) fun t71 =>
 some ⟨.nm, ⟨[(e.s k24 0), (e.s k24 1), (e.s k24 2), (e.s k24 3), (e.s k24 4), (e.s k24 5), (e.s k24 10), (e.s k24 11), (e.s k24 12), (e.s k24 13), (e.s k24 14), (e.s k24 15), (e.s k24 16)], 71, t71⟩, h⟩) fun e h =>
 br (e.s k24 71) (some ⟨.nm, e, h⟩)
 (some ⟨.ex 0, e, h⟩)) fun e h =>
 sq (blk 1 (sq (bd (iaS 1 (e.s k24 12) (e.s k24 16)) fun t76 =>
 bd (ld h t76) fun t77 =>
 bd (binK 0 .rem (e.s k24 16) (e.s k24 1)) fun t81 =>
 bd (binK 0 .mul t81 (e.s k24 1)) fun t83 =>
 bd (binK 0 .quo (e.s k24 16) (e.s k24 1)) fun t86 =>
 bd (binK 0 .add t83 t86) fun t87 =>
 bd (iaS 1 (e.s k24 14) t87) fun t88 =>
 bd (ld h t88) fun t89 =>
 bd (binK 0 .neq t77 t89) fun t90 =>
 ck (ld h t76) t77 (ck (ld h t88) t89 (some ⟨.nm, ⟨[(e.s k24 0), (e.s k24 1), (e.s k24 2), (e.s k24 3), (e.s k24 4), (e.s k24 5), (e.s k24 10), (e.s k24 11), (e.s k24 12), (e.s k24 13), (e.s k24 14), (e.s k24 15), (e.s k24 16)], 90, t90⟩, h⟩))) fun e h =>
 br (e.s k24 90) (sq (some ⟨.nm, ⟨[(e.s k24 0), (e.s k24 1), (e.s k24 2), (e.s k24 3), (e.s k24 4), (e.s k24 5), (.bool false), (e.s k24 11), (e.s k24 12), (e.s k24 13), (e.s k24 14), (e.s k24 15), (e.s k24 16)], 10, (.bool false)⟩, h⟩) fun e h =>
 some ⟨.rt, e, h⟩)
 (some ⟨.nm, e, h⟩))) fun e h =>
 bd (binK 0 .add (e.s k24 16) (.int .i64 1)) fun t73 =>
 some ⟨.nm, ⟨[(e.s k24 0), (e.s k24 1), (e.s k24 2), (e.s k24 3), (e.s k24 4), (e.s k24 5), (e.s k24 10), (e.s k24 11), (e.s k24 12), (e.s k24 13), (e.s k24 14), (e.s k24 15), t73], 16, t73⟩, h⟩
noncomputable def s24 (K : Oracle) (L : Looper) (e : E) (h : H) : Out :=
 sq (bf (bx h 25 (e.s k24 0)) fun t5 h1 =>
 some ⟨.nm, ⟨[(e.s k24 0), (e.s k24 1), (e.s k24 2), (e.s k24 3), (e.s k24 4), t5, (.bool false), (e.s k24 11), (e.s k24 12), (e.s k24 13), (e.s k24 14), (e.s k24 15), (e.s k24 16)], 10, (.bool false)⟩, h1⟩) fun e h =>
 sq (bd (fa 1 (e.s k24 5)) fun t17 =>
 bd (ld h t17) fun t18 =>
 bd (fa 0 (e.s k24 5)) fun t19 =>
 bd (ld h t19) fun t20 =>
 bd (fa 3 (e.s k24 5)) fun t21 =>
 bd (ld h t21) fun t22 =>
 bd (fa 2 (e.s k24 5)) fun t23 =>
 bd (ld h t23) fun t24 =>
 bd (fa 4 (e.s k24 5)) fun t25 =>
 bd (ld h t25) fun t26 =>
 bd (bl [(.bool false), (.bool false), .nils, .nils, (.int .u8 0)] [(some (0, 1), t18), (some (1, 1), t20), (some (2, 1), t22), (some (3, 1), t24), (some (4, 1), t26)]) fun t27 =>
 bf (nw h 25 [(.bool false), (.bool false), .nils, .nils, (.int .u8 0)]) fun t11 h1 =>
 bf (stZ 5 h1 t11 t27) fun _ h2 =>
 some ⟨.nm, ⟨[(e.s k24 0), (e.s k24 1), (e.s k24 2), (e.s k24 3), (e.s k24 4), (e.s k24 5), (e.s k24 10), t11, (e.s k24 12), (e.s k24 13), (e.s k24 14), (e.s k24 15), (e.s k24 16)], 0, (e.s k24 0)⟩, h2⟩) fun e h =>
 sq (bd (ldn 5 h (e.s k24 5)) fun t32 =>
 bc k24 [29, 30, 31, 32, 33, 28, 34, 35, 12, 13] e (K 14 [(e.s k24 1), (e.s k24 2), (e.s k24 3), t32] h) fun t33 h1 =>
 bd (exV t33 0) fun t34 =>
 bd (exV t33 1) fun t35 =>
 some ⟨.nm, ⟨[(e.s k24 0), (e.s k24 1), (e.s k24 2), (e.s k24 3), (e.s k24 4), (e.s k24 5), (e.s k24 10), (e.s k24 11), t34, t35, (e.s k24 14), (e.s k24 15), (e.s k24 16)], 13, t35⟩, h1⟩) fun e h =>
 sq (bd (unV .neg (e.s k24 3)) fun t40 =>
 bd (ldn 5 h (e.s k24 11)) fun t41 =>
 bc k24 [37, 38, 39, 40, 41, 42, 36, 43, 44, 14, 15] e (K 14 [(e.s k24 1), (e.s k24 4), t40, t41] h) fun t42 h1 =>
 bd (exV t42 0) fun t43 =>
 bd (exV t42 1) fun t44 =>
 some ⟨.nm, ⟨[(e.s k24 0), (e.s k24 1), (e.s k24 2), (e.s k24 3), (e.s k24 4), (e.s k24 5), (e.s k24 10), (e.s k24 11), (e.s k24 12), (e.s k24 13), t43, t44, (e.s k24 16)], 15, t44⟩, h1⟩) fun e h =>
 sq (sq (bd (binK 0 .neq (e.s k24 13) (.int .i64 0)) fun t46 =>
 bd (gl t46 false (some (e.s k24 15))) fun t48 =>
 bd (gl t46 false (binK 0 .neq t48 (.int .i64 0))) fun t49 =>
 bd (pk t46 (.bool true) t49) fun t50 =>
 bd (gl t50 false (some (e.s k24 12))) fun t52 =>
 bd (gl t50 false (lnS t52)) fun t53 =>
 bd (gl t50 false (some (e.s k24 1))) fun t54 =>
 bd (gl t50 false (some (e.s k24 1))) fun t55 =>
 bd (gl t50 false (binK 0 .mul t54 t55)) fun t56 =>
 bd (gl t50 false (binK 0 .neq t53 t56)) fun t57 =>
 bd (pk t50 (.bool true) t57) fun t58 =>
 bd (gl t58 false (some (e.s k24 14))) fun t60 =>
 bd (gl t58 false (lnS t60)) fun t61 =>
 bd (gl t58 false (some (e.s k24 1))) fun t62 =>
 bd (gl t58 false (some (e.s k24 1))) fun t63 =>
 bd (gl t58 false (binK 0 .mul t62 t63)) fun t64 =>
 bd (gl t58 false (binK 0 .neq t61 t64)) fun t65 =>
 bd (pk t58 (.bool true) t65) fun t66 =>
 some ⟨.nm, ⟨[(e.s k24 0), (e.s k24 1), (e.s k24 2), (e.s k24 3), (e.s k24 4), (e.s k24 5), (e.s k24 10), (e.s k24 11), (e.s k24 12), (e.s k24 13), (e.s k24 14), (e.s k24 15), (e.s k24 16)], 66, t66⟩, h⟩) fun e h =>
 br (e.s k24 66) (sq (some ⟨.nm, ⟨[(e.s k24 0), (e.s k24 1), (e.s k24 2), (e.s k24 3), (e.s k24 4), (e.s k24 5), (.bool false), (e.s k24 11), (e.s k24 12), (e.s k24 13), (e.s k24 14), (e.s k24 15), (e.s k24 16)], 10, (.bool false)⟩, h⟩) fun e h =>
 some ⟨.rt, e, h⟩)
 (some ⟨.nm, e, h⟩)) fun e h =>
 sq (sq (some ⟨.nm, ⟨[(e.s k24 0), (e.s k24 1), (e.s k24 2), (e.s k24 3), (e.s k24 4), (e.s k24 5), (e.s k24 10), (e.s k24 11), (e.s k24 12), (e.s k24 13), (e.s k24 14), (e.s k24 15), (.int .i64 0)], 16, (.int .i64 0)⟩, h⟩) fun e h =>
 blk 0 (L (l24_0 K L) e h)) fun e h =>
 sq (some ⟨.nm, ⟨[(e.s k24 0), (e.s k24 1), (e.s k24 2), (e.s k24 3), (e.s k24 4), (e.s k24 5), (.bool true), (e.s k24 11), (e.s k24 12), (e.s k24 13), (e.s k24 14), (e.s k24 15), (e.s k24 16)], 10, (.bool true)⟩, h⟩) fun e h =>
 some ⟨.rt, e, h⟩
noncomputable def f24 (K : Oracle) (L : Looper) (p0 p1 p2 p3 p4 : V) (h : H) : Option (Rv × H) := fin Try.prog k24 [.tmp 10] (s24 K L ⟨[p0, p1, p2, p3, p4, V.und, V.und, V.und, V.und, V.und, V.und, V.und, V.und], 0, p0⟩ h)
theorem r24 : (fun K L p0 p1 p2 p3 p4 h => runFF Try.prog kp K L 24 [p0, p1, p2, p3, p4] h) = f24 := by kernel_rfl
theorem c24 (p0 p1 p2 p3 p4 : V) (h : H) : callZ Try.prog kp 24 [p0, p1, p2, p3, p4] h = f24 (callZ Try.prog kp) loopZ p0 p1 p2 p3 p4 h :=
  (callZ_eqF _ _ _ _ _).trans (congrFun (congrFun (congrFun (congrFun (congrFun (congrFun (congrFun (congrFun (r24) _) _) p0) p1) p2) p3) p4) h)

/-- zoetrope/zoetroperef00.CopyBytes -/
@[simp] def k25 : List Nat := [0, 2, 3]
noncomputable def s25 (K : Oracle) (L : Looper) (e : E) (h : H) : Out :=
 sq (some ⟨.nm, ⟨[(e.s k25 0), .nils, (e.s k25 3)], 2, .nils⟩, h⟩) fun e h =>
 sq (some ⟨.nm, ⟨[(e.s k25 0), (e.s k25 2), .nils], 3, .nils⟩, h⟩) fun e h =>
 sq (bf (apZ 5 1 1 h (e.s k25 3) (e.s k25 0)) fun t6 h1 =>
 some ⟨.nm, ⟨[(e.s k25 0), (e.s k25 2), t6], 3, t6⟩, h1⟩) fun e h =>
 sq (some ⟨.nm, ⟨[(e.s k25 0), (e.s k25 3), (e.s k25 3)], 2, (e.s k25 3)⟩, h⟩) fun e h =>
 some ⟨.rt, e, h⟩
noncomputable def f25 (K : Oracle) (L : Looper) (p0 : V) (h : H) : Option (Rv × H) := fin Try.prog k25 [.tmp 2] (s25 K L ⟨[p0, V.und, V.und], 0, p0⟩ h)
theorem r25 : (fun K L p0 h => runFF Try.prog kp K L 25 [p0] h) = f25 := by kernel_rfl
theorem c25 (p0 : V) (h : H) : callZ Try.prog kp 25 [p0] h = f25 (callZ Try.prog kp) loopZ p0 h :=
  (callZ_eqF _ _ _ _ _).trans (congrFun (congrFun (congrFun (congrFun (r25) _) _) p0) h)

/-- zoetrope/zoetropelaw12.predicted -/
@[simp] def k26 : List Nat := [0, 1, 4, 5, 6]
noncomputable def s26 (K : Oracle) (L : Looper) (e : E) (h : H) : Out :=
 sq (some ⟨.nm, ⟨[(e.s k26 0), (e.s k26 1), .nils, (e.s k26 5), (e.s k26 6)], 4, .nils⟩, h⟩) fun e h =>
 sq (bc k26 [8, 9, 10, 11, 7, 12, 13, 5, 6] e (K 27 [] h) fun t10 h1 =>
 bc k26 [8, 9, 10, 11, 7, 12, 13, 5, 6] e (K 14 [(.int .i64 4), (e.s k26 0), (e.s k26 1), t10] h1) fun t11 h2 =>
 bd (exV t11 0) fun t12 =>
 bd (exV t11 1) fun t13 =>
 some ⟨.nm, ⟨[(e.s k26 0), (e.s k26 1), (e.s k26 4), t12, t13], 6, t13⟩, h2⟩) fun e h =>
 sq (sq (bd (binK 0 .neq (e.s k26 6) (.int .i64 0)) fun t15 =>
 some ⟨.nm, ⟨[(e.s k26 0), (e.s k26 1), (e.s k26 4), (e.s k26 5), (e.s k26 6)], 15, t15⟩, h⟩) fun e h =>
 br (e.s k26 15) (sq (some ⟨.nm, ⟨[(e.s k26 0), (e.s k26 1), .nils, (e.s k26 5), (e.s k26 6)], 4, .nils⟩, h⟩) fun e h =>
 some ⟨.rt, e, h⟩)
 (some ⟨.nm, e, h⟩)) fun e h =>
 sq (some ⟨.nm, ⟨[(e.s k26 0), (e.s k26 1), (e.s k26 5), (e.s k26 5), (e.s k26 6)], 4, (e.s k26 5)⟩, h⟩) fun e h =>
 some ⟨.rt, e, h⟩
noncomputable def f26 (K : Oracle) (L : Looper) (p0 p1 : V) (h : H) : Option (Rv × H) := fin Try.prog k26 [.tmp 4] (s26 K L ⟨[p0, p1, V.und, V.und, V.und], 0, p0⟩ h)
theorem r26 : (fun K L p0 p1 h => runFF Try.prog kp K L 26 [p0, p1] h) = f26 := by kernel_rfl
theorem c26 (p0 p1 : V) (h : H) : callZ Try.prog kp 26 [p0, p1] h = f26 (callZ Try.prog kp) loopZ p0 p1 h :=
  (callZ_eqF _ _ _ _ _).trans (congrFun (congrFun (congrFun (congrFun (congrFun (r26) _) _) p0) p1) h)

/-- zoetrope/zoetropelaw12.four -/
@[simp] def k27 : List Nat := [0]
noncomputable def s27 (K : Oracle) (L : Looper) (e : E) (h : H) : Out :=
 sq (bf (nw h 25 [(.bool false), (.bool false), .nils, .nils, (.int .u8 0)]) fun t0 h1 =>
 some ⟨.nm, ⟨[t0], 0, t0⟩, h1⟩) fun e h =>
 sq (bf (bs h 5 4 [(.int .u8 0), (.int .u8 0), (.int .u8 0), (.int .u8 0)] [(some (0, 1), (.int .u8 10)), (some (1, 1), (.int .u8 20)), (some (2, 1), (.int .u8 30)), (some (3, 1), (.int .u8 40))]) fun t1 h1 =>
 bf (bs h1 5 4 [(.int .u8 0), (.int .u8 0), (.int .u8 0), (.int .u8 0)] [(some (0, 1), (.int .u8 50)), (some (1, 1), (.int .u8 60)), (some (2, 1), (.int .u8 70)), (some (3, 1), (.int .u8 80))]) fun t2 h2 =>
 bd (bl [(.bool false), (.bool false), .nils, .nils, (.int .u8 0)] [(some (0, 1), (.bool true)), (some (1, 1), (.bool true)), (some (2, 1), t1), (some (3, 1), t2), (some (4, 1), (.int .u8 5))]) fun t3 =>
 bf (stZ 5 h2 (e.s k27 0) t3) fun _ h3 =>
 some ⟨.nm, ⟨[(e.s k27 0)], 0, (e.s k27 0)⟩, h3⟩) fun e h =>
 some ⟨.rt, e, h⟩
noncomputable def f27 (K : Oracle) (L : Looper) (h : H) : Option (Rv × H) := fin Try.prog k27 [.cell 0 25] (s27 K L ⟨[V.und], 0, V.und⟩ h)
theorem r27 : (fun K L h => runFF Try.prog kp K L 27 [] h) = f27 := by kernel_rfl
theorem c27 (h : H) : callZ Try.prog kp 27 [] h = f27 (callZ Try.prog kp) loopZ h :=
  (callZ_eqF _ _ _ _ _).trans (congrFun (congrFun (congrFun (r27) _) _) h)

/-- zoetrope/intra.samples -/
@[simp] def k28 : List Nat := [0, 1, 2, 6]
noncomputable def s28 (K : Oracle) (L : Looper) (e : E) (h : H) : Out :=
 sq (some ⟨.nm, ⟨[(e.s k28 0), (e.s k28 1), (e.s k28 2), (.bool false)], 6, (.bool false)⟩, h⟩) fun e h =>
 sq (sq (bd (unV .not (e.s k28 0)) fun t8 =>
 some ⟨.nm, ⟨[(e.s k28 0), (e.s k28 1), (e.s k28 2), (e.s k28 6)], 8, t8⟩, h⟩) fun e h =>
 br (e.s k28 8) (some ⟨.nm, ⟨[(e.s k28 0), (e.s k28 1), (.int .i64 0), (e.s k28 6)], 2, (.int .i64 0)⟩, h⟩)
 (some ⟨.nm, e, h⟩)) fun e h =>
 sq (bd (lnS (e.s k28 1)) fun t10 =>
 bd (binK 0 .eql t10 (e.s k28 2)) fun t12 =>
 some ⟨.nm, ⟨[(e.s k28 0), (e.s k28 1), (e.s k28 2), t12], 6, t12⟩, h⟩) fun e h =>
 some ⟨.rt, e, h⟩
noncomputable def f28 (K : Oracle) (L : Looper) (p0 p1 p2 : V) (h : H) : Option (Rv × H) := fin Try.prog k28 [.tmp 6] (s28 K L ⟨[p0, p1, p2, V.und], 0, p0⟩ h)
theorem r28 : (fun K L p0 p1 p2 h => runFF Try.prog kp K L 28 [p0, p1, p2] h) = f28 := by kernel_rfl
theorem c28 (p0 p1 p2 : V) (h : H) : callZ Try.prog kp 28 [p0, p1, p2] h = f28 (callZ Try.prog kp) loopZ p0 p1 p2 h :=
  (callZ_eqF _ _ _ _ _).trans (congrFun (congrFun (congrFun (congrFun (congrFun (congrFun (r28) _) _) p0) p1) p2) h)

/-- zoetrope/zoetroperef12.size -/
@[simp] def k29 : List Nat := [0, 2]
noncomputable def s29 (K : Oracle) (L : Looper) (e : E) (h : H) : Out :=
 sq (some ⟨.nm, ⟨[(e.s k29 0), (.bool false)], 2, (.bool false)⟩, h⟩) fun e h =>
 sq (bd (binK 0 .eql (e.s k29 0) (.int .i64 4)) fun t4 =>
 bd (gl t4 false (some (e.s k29 0))) fun t6 =>
 bd (gl t4 false (binK 0 .eql t6 (.int .i64 8))) fun t7 =>
 bd (pk t4 (.bool true) t7) fun t8 =>
 bd (gl t8 false (some (e.s k29 0))) fun t10 =>
 bd (gl t8 false (binK 0 .eql t10 (.int .i64 16))) fun t11 =>
 bd (pk t8 (.bool true) t11) fun t12 =>
 bd (gl t12 false (some (e.s k29 0))) fun t14 =>
 bd (gl t12 false (binK 0 .eql t14 (.int .i64 32))) fun t15 =>
 bd (pk t12 (.bool true) t15) fun t16 =>
 bd (gl t16 false (some (e.s k29 0))) fun t18 =>
 bd (gl t16 false (binK 0 .eql t18 (.int .i64 64))) fun t19 =>
 bd (pk t16 (.bool true) t19) fun t20 =>
 some ⟨.nm, ⟨[(e.s k29 0), t20], 2, t20⟩, h⟩) fun e h =>
 some ⟨.rt, e, h⟩
noncomputable def f29 (K : Oracle) (L : Looper) (p0 : V) (h : H) : Option (Rv × H) := fin Try.prog k29 [.tmp 2] (s29 K L ⟨[p0, V.und], 0, p0⟩ h)
theorem r29 : (fun K L p0 h => runFF Try.prog kp K L 29 [p0] h) = f29 := by kernel_rfl
theorem c29 (p0 : V) (h : H) : callZ Try.prog kp 29 [p0] h = f29 (callZ Try.prog kp) loopZ p0 h :=
  (callZ_eqF _ _ _ _ _).trans (congrFun (congrFun (congrFun (congrFun (r29) _) _) p0) h)

/-- zoetrope/intra.filled -/
@[simp] def k30 : List Nat := [0, 1, 3, 4, 5, 6, 7]
noncomputable def s30 (K : Oracle) (L : Looper) (e : E) (h : H) : Out :=
 sq (bf (bx h 25 (e.s k30 1)) fun t3 h1 =>
 bf (nw h1 59 [(.int .i64 0), .nilf, .nilf, (.int .i64 0)]) fun t4 h2 =>
 some ⟨.nm, ⟨[(e.s k30 0), (e.s k30 1), t3, t4, (e.s k30 5), (e.s k30 6), (e.s k30 7)], 4, t4⟩, h2⟩) fun e h =>
 sq (blk 0 (sq (bd (fa 0 (e.s k30 3)) fun t9 =>
 bd (ld h t9) fun t10 =>
 bd (gl t10 true (fa 1 (e.s k30 3))) fun t12 =>
 bd (gl t10 true (ld h t12)) fun t13 =>
 bd (pk t10 t13 (.bool false)) fun t14 =>
 some ⟨.nm, ⟨[(e.s k30 0), (e.s k30 1), (e.s k30 3), (e.s k30 4), (e.s k30 5), (e.s k30 6), (e.s k30 7)], 8, t14⟩, h⟩) fun e h =>
 br (e.s k30 8) (sq (bd (fa 4 (e.s k30 3)) fun t15 =>
 bd (ld h t15) fun t16 =>
 bd (cv .i64 t16) fun t17 =>
 some ⟨.nm, ⟨[(e.s k30 0), (e.s k30 1), (e.s k30 3), (e.s k30 4), t17, (e.s k30 6), (e.s k30 7)], 5, t17⟩, h⟩) fun e h =>
 sq (bd (fa 2 (e.s k30 3)) fun t19 =>
 bd (ld h t19) fun t20 =>
 bn (K 46 [t20, (e.s k30 5)] h) fun t22 h1 =>
 bd (fa 3 (e.s k30 3)) fun t23 =>
 bd (ld h1 t23) fun t24 =>
 bn (K 46 [t24, (e.s k30 5)] h1) fun t26 h2 =>
 bd (bl [(.int .i64 0), .nilf, .nilf, (.int .i64 0)] [(some (0, 1), (e.s k30 0)), (some (1, 1), t22), (some (2, 1), t26), (some (3, 1), (e.s k30 5))]) fun t28 =>
 bf (stZ 4 h2 (e.s k30 4) t28) fun _ h3 =>
 ck (ld h t19) t20 (ck (ld h t23) t24 (ck (ld h1 t23) t24 (some ⟨.nm, ⟨[(e.s k30 0), (e.s k30 1), (e.s k30 3), (e.s k30 4), (e.s k30 5), (e.s k30 6), (e.s k30 7)], 0, (e.s k30 0)⟩, h3⟩)))) fun e h =>
 some ⟨.rt, e, h⟩)
 (sq (bd (fa 0 (e.s k30 3)) fun t30 =>
 bd (ld h t30) fun t31 =>
 some ⟨.nm, ⟨[(e.s k30 0), (e.s k30 1), (e.s k30 3), (e.s k30 4), (e.s k30 5), (e.s k30 6), (e.s k30 7)], 29, t31⟩, h⟩) fun e h =>
 br (e.s k30 29) (sq (bd (fa 2 (e.s k30 3)) fun t32 =>
 bd (ld h t32) fun t33 =>
 bd (iaS 1 t33 (.int .i64 0)) fun t34 =>
 bd (ld h t34) fun t35 =>
 bd (cv .i64 t35) fun t36 =>
 some ⟨.nm, ⟨[(e.s k30 0), (e.s k30 1), (e.s k30 3), (e.s k30 4), (e.s k30 5), t36, (e.s k30 7)], 6, t36⟩, h⟩) fun e h =>
 sq (bd (fa 2 (e.s k30 3)) fun t38 =>
 bd (ld h t38) fun t39 =>
 bc k30 [37, 38, 39, 40, 41, 42, 43, 44, 45, 46] e (K 46 [t39, (e.s k30 6)] h) fun t41 h1 =>
 bc k30 [37, 38, 39, 40, 41, 42, 43, 44, 45, 46] e (K 47 [(e.s k30 6), (e.s k30 6)] h1) fun t44 h2 =>
 bd (bl [(.int .i64 0), .nilf, .nilf, (.int .i64 0)] [(some (0, 1), (e.s k30 0)), (some (1, 1), t41), (some (2, 1), t44), (some (3, 1), (e.s k30 6))]) fun t46 =>
 bf (stZ 4 h2 (e.s k30 4) t46) fun _ h3 =>
 some ⟨.nm, ⟨[(e.s k30 0), (e.s k30 1), (e.s k30 3), (e.s k30 4), (e.s k30 5), (e.s k30 6), (e.s k30 7)], 0, (e.s k30 0)⟩, h3⟩) fun e h =>
 some ⟨.rt, e, h⟩)
 (sq (bd (fa 1 (e.s k30 3)) fun t48 =>
 bd (ld h t48) fun t49 =>
 some ⟨.nm, ⟨[(e.s k30 0), (e.s k30 1), (e.s k30 3), (e.s k30 4), (e.s k30 5), (e.s k30 6), (e.s k30 7)], 47, t49⟩, h⟩) fun e h =>
 br (e.s k30 47) (sq (bd (fa 3 (e.s k30 3)) fun t50 =>
 bd (ld h t50) fun t51 =>
 bd (iaS 1 t51 (.int .i64 0)) fun t52 =>
 bd (ld h t52) fun t53 =>
 bd (cv .i64 t53) fun t54 =>
 some ⟨.nm, ⟨[(e.s k30 0), (e.s k30 1), (e.s k30 3), (e.s k30 4), (e.s k30 5), (e.s k30 6), t54], 7, t54⟩, h⟩) fun e h =>
 sq (bn (K 47 [(e.s k30 7), (e.s k30 7)] h) fun t58 h1 =>
 bd (fa 3 (e.s k30 3)) fun t59 =>
 bd (ld h1 t59) fun t60 =>
 bn (K 46 [t60, (e.s k30 7)] h1) fun t62 h2 =>
 bd (bl [(.int .i64 0), .nilf, .nilf, (.int .i64 0)] [(some (0, 1), (e.s k30 0)), (some (1, 1), t58), (some (2, 1), t62), (some (3, 1), (e.s k30 7))]) fun t64 =>
 bf (stZ 4 h2 (e.s k30 4) t64) fun _ h3 =>
 ck (ld h t59) t60 (ck (ld h1 t59) t60 (some ⟨.nm, ⟨[(e.s k30 0), (e.s k30 1), (e.s k30 3), (e.s k30 4), (e.s k30 5), (e.s k30 6), (e.s k30 7)], 0, (e.s k30 0)⟩, h3⟩))) fun e h =>
 some ⟨.rt, e, h⟩)
 (some ⟨.nm, e, h⟩))))) fun e h =>
 sq (bc k30 [65, 66, 67, 68] e (K 47 [(.int .i64 127), (.int .i64 128)] h) fun t66 h1 =>
 bc k30 [65, 66, 67, 68] e (K 47 [(.int .i64 129), (.int .i64 128)] h1) fun t67 h2 =>
 bd (bl [(.int .i64 0), .nilf, .nilf, (.int .i64 0)] [(some (0, 1), (e.s k30 0)), (some (1, 1), t66), (some (2, 1), t67), (some (3, 1), (.int .i64 128))]) fun t68 =>
 bf (stZ 4 h2 (e.s k30 4) t68) fun _ h3 =>
 some ⟨.nm, ⟨[(e.s k30 0), (e.s k30 1), (e.s k30 3), (e.s k30 4), (e.s k30 5), (e.s k30 6), (e.s k30 7)], 0, (e.s k30 0)⟩, h3⟩) fun e h =>
 some ⟨.rt, e, h⟩
noncomputable def f30 (K : Oracle) (L : Looper) (p0 p1 : V) (h : H) : Option (Rv × H) := fin Try.prog k30 [.cell 4 59] (s30 K L ⟨[p0, p1, V.und, V.und, V.und, V.und, V.und], 0, p0⟩ h)
theorem r30 : (fun K L p0 p1 h => runFF Try.prog kp K L 30 [p0, p1] h) = f30 := by kernel_rfl
theorem c30 (p0 p1 : V) (h : H) : callZ Try.prog kp 30 [p0, p1] h = f30 (callZ Try.prog kp) loopZ p0 p1 h :=
  (callZ_eqF _ _ _ _ _).trans (congrFun (congrFun (congrFun (congrFun (congrFun (r30) _) _) p0) p1) h)

/-- (zoetrope/intra.block).direct -/
@[simp] def k31 : List Nat := [0, 1, 2, 3, 6, 7, 39]
noncomputable def s31 (K : Oracle) (L : Looper) (e : E) (h : H) : Out :=
 sq (bf (bx h 59 (e.s k31 0)) fun t3 h1 =>
 some ⟨.nm, ⟨[(e.s k31 0), (e.s k31 1), (e.s k31 2), t3, .nilf, (e.s k31 7), (e.s k31 39)], 6, .nilf⟩, h1⟩) fun e h =>
 sq (some ⟨.nm, ⟨[(e.s k31 0), (e.s k31 1), (e.s k31 2), (e.s k31 3), (e.s k31 6), (.int .i64 0), (e.s k31 39)], 7, (.int .i64 0)⟩, h⟩) fun e h =>
 sq (blk 0 (sq (bd (binK 0 .neq (e.s k31 2) (.int .i64 0)) fun t10 =>
 bd (gl t10 true (fa 0 (e.s k31 3))) fun t12 =>
 bd (gl t10 true (ld h t12)) fun t13 =>
 bd (gl t10 true (binK 0 .geq t13 (.int .i64 8))) fun t14 =>
 bd (pk t10 t14 (.bool false)) fun t15 =>
 some ⟨.nm, ⟨[(e.s k31 0), (e.s k31 1), (e.s k31 2), (e.s k31 3), (e.s k31 6), (e.s k31 7), (e.s k31 39)], 8, t15⟩, h⟩) fun e h =>
 br (e.s k31 8) (bd (ldn 4 h (e.s k31 3)) fun t16 =>
 bd (fa 1 (e.s k31 3)) fun t17 =>
 bd (ld h t17) fun t18 =>
 bn (K 48 [t16, t18] h) fun t19 h1 =>
 bd (ldn 4 h1 (e.s k31 3)) fun t20 =>
 bd (fa 2 (e.s k31 3)) fun t21 =>
 bd (ld h1 t21) fun t22 =>
 bn (K 48 [t20, t22] h1) fun t23 h2 =>
 bd (fa 1 (e.s k31 3)) fun t24 =>
 bf (stZ 1 h2 t24 t19) fun _ h3 =>
 bd (fa 2 (e.s k31 3)) fun t25 =>
 bf (stZ 1 h3 t25 t23) fun _ h4 =>
 ck (ldn 4 h (e.s k31 3)) t16 (ck (ld h t17) t18 (ck (ldn 4 h (e.s k31 3)) t20 (ck (ldn 4 h1 (e.s k31 3)) t20 (ck (ld h t21) t22 (ck (ld h1 t21) t22 (some ⟨.nm, ⟨[(e.s k31 0), (e.s k31 1), (e.s k31 2), (e.s k31 3), (e.s k31 6), (e.s k31 7), (e.s k31 39)], 0, (e.s k31 0)⟩, h4⟩)))))))
 (sq (bd (binK 0 .neq (e.s k31 2) (.int .i64 0)) fun t28 =>
 some ⟨.nm, ⟨[(e.s k31 0), (e.s k31 1), (e.s k31 2), (e.s k31 3), (e.s k31 6), (e.s k31 7), (e.s k31 39)], 26, t28⟩, h⟩) fun e h =>
 br (e.s k31 26) (sq (bd (ldn 4 h (e.s k31 3)) fun t29 =>
 bd (fa 1 (e.s k31 3)) fun t30 =>
 bd (ld h t30) fun t31 =>
 bn (K 49 [t29, t31] h) fun t32 h1 =>
 bd (ldn 4 h1 (e.s k31 3)) fun t33 =>
 bd (fa 2 (e.s k31 3)) fun t34 =>
 bd (ld h1 t34) fun t35 =>
 bn (K 49 [t33, t35] h1) fun t36 h2 =>
 bd (fa 1 (e.s k31 3)) fun t37 =>
 bf (stZ 1 h2 t37 t32) fun _ h3 =>
 bd (fa 2 (e.s k31 3)) fun t38 =>
 bf (stZ 1 h3 t38 t36) fun _ h4 =>
 ck (ldn 4 h (e.s k31 3)) t29 (ck (ld h t30) t31 (ck (ldn 4 h (e.s k31 3)) t33 (ck (ldn 4 h1 (e.s k31 3)) t33 (ck (ld h t34) t35 (ck (ld h1 t34) t35 (some ⟨.nm, ⟨[(e.s k31 0), (e.s k31 1), (e.s k31 2), (e.s k31 3), (e.s k31 6), (e.s k31 7), (e.s k31 39)], 0, (e.s k31 0)⟩, h4⟩))))))) fun e h =>
 some ⟨.nm, ⟨[(e.s k31 0), (e.s k31 1), (e.s k31 2), (e.s k31 3), (e.s k31 6), (.int .i64 1), (e.s k31 39)], 7, (.int .i64 1)⟩, h⟩)
 (some ⟨.nm, e, h⟩)))) fun e h =>
 sq (sq (some ⟨.nm, ⟨[(e.s k31 0), (e.s k31 1), (e.s k31 2), (e.s k31 3), (e.s k31 6), (e.s k31 7), (e.s k31 1)], 39, (e.s k31 1)⟩, h⟩) fun e h =>
 blk 1 (sq (bd (binK 0 .eql (e.s k31 39) (.int .i64 90)) fun t41 =>
 some ⟨.nm, ⟨[(e.s k31 0), (e.s k31 1), (e.s k31 2), (e.s k31 3), (e.s k31 6), (e.s k31 7), (e.s k31 39)], 40, t41⟩, h⟩) fun e h =>
 br (e.s k31 40) (sq (bd (some (.fn (.func 50) [] [(e.s k31 3)])) fun t42 =>
 some ⟨.nm, ⟨[(e.s k31 0), (e.s k31 1), (e.s k31 2), (e.s k31 3), t42, (e.s k31 7), (e.s k31 39)], 6, t42⟩, h⟩) fun e h =>
 some ⟨.rt, e, h⟩)
 (sq (bd (binK 0 .eql (e.s k31 39) (.int .i64 180)) fun t44 =>
 some ⟨.nm, ⟨[(e.s k31 0), (e.s k31 1), (e.s k31 2), (e.s k31 3), (e.s k31 6), (e.s k31 7), (e.s k31 39)], 43, t44⟩, h⟩) fun e h =>
 br (e.s k31 43) (sq (bd (some (.fn (.func 51) [] [(e.s k31 3)])) fun t45 =>
 some ⟨.nm, ⟨[(e.s k31 0), (e.s k31 1), (e.s k31 2), (e.s k31 3), t45, (e.s k31 7), (e.s k31 39)], 6, t45⟩, h⟩) fun e h =>
 some ⟨.rt, e, h⟩)
 (some ⟨.nm, e, h⟩)))) fun e h =>
 sq (bd (ldn 4 h (e.s k31 3)) fun t46 =>
 bc k31 [46, 47, 48, 49, 6] e (K 52 [t46, (e.s k31 1), (e.s k31 7)] h) fun t49 h1 =>
 some ⟨.nm, ⟨[(e.s k31 0), (e.s k31 1), (e.s k31 2), (e.s k31 3), t49, (e.s k31 7), (e.s k31 39)], 6, t49⟩, h1⟩) fun e h =>
 some ⟨.rt, e, h⟩
noncomputable def f31 (K : Oracle) (L : Looper) (p0 p1 p2 : V) (h : H) : Option (Rv × H) := fin Try.prog k31 [.tmp 6] (s31 K L ⟨[p0, p1, p2, V.und, V.und, V.und, V.und], 0, p0⟩ h)
theorem r31 : (fun K L p0 p1 p2 h => runFF Try.prog kp K L 31 [p0, p1, p2] h) = f31 := by kernel_rfl
theorem c31 (p0 p1 p2 : V) (h : H) : callZ Try.prog kp 31 [p0, p1, p2] h = f31 (callZ Try.prog kp) loopZ p0 p1 p2 h :=
  (callZ_eqF _ _ _ _ _).trans (congrFun (congrFun (congrFun (congrFun (congrFun (congrFun (r31) _) _) p0) p1) p2) h)

/-- zoetrope/intra.mean -/
@[simp] def k32 : List Nat := [0, 1, 2, 3, 4, 6, 8, 20, 21, 22, 26, 27, 28]
noncomputable def l32_0 (K : Oracle) (L : Looper) (e : E) (h : H) : Out :=
 sq (bd (binK 0 .lss (e.s k32 28) (e.s k32 27)) fun t29 =>
 some ⟨.nm, ⟨[(e.s k32 0), (e.s k32 1), (e.s k32 2), (e.s k32 3), (e.s k32 4), (e.s k32 6), (e.s k32 8), (e.s k32 20), (e.s k32 21), (e.s k32 22), (e.s k32 26), (e.s k32 27), (e.s k32 28)], 29, t29⟩, h⟩) fun e h =>
 sq (br (e.s k32 29) (some ⟨.nm, e, h⟩)
 (some ⟨.ex 2, e, h⟩)) fun e h =>
 sq (blk 3 (sq (bd (iaS 1 (e.s k32 26) (e.s k32 28)) fun t30 =>
 bd (ld h t30) fun t31 =>
 some ⟨.nm, ⟨[(e.s k32 0), (e.s k32 1), (e.s k32 2), (e.s k32 3), (e.s k32 4), (e.s k32 6), t31, (e.s k32 20), (e.s k32 21), (e.s k32 22), (e.s k32 26), (e.s k32 27), (e.s k32 28)], 8, t31⟩, h⟩) fun e h =>
 bd (cv .i64 (e.s k32 8)) fun t34 =>
 bd (binK 0 .add (e.s k32 3) t34) fun t35 =>
 some ⟨.nm, ⟨[(e.s k32 0), (e.s k32 1), (e.s k32 2), t35, (e.s k32 4), (e.s k32 6), (e.s k32 8), (e.s k32 20), (e.s k32 21), (e.s k32 22), (e.s k32 26), (e.s k32 27), (e.s k32 28)], 3, t35⟩, h⟩)) fun e h =>
 bd (binK 0 .add (e.s k32 28) (.int .i64 1)) fun t36 =>
 some ⟨.nm, ⟨[(e.s k32 0), (e.s k32 1), (e.s k32 2), (e.s k32 3), (e.s k32 4), (e.s k32 6), (e.s k32 8), (e.s k32 20), (e.s k32 21), (e.s k32 22), (e.s k32 26), (e.s k32 27), t36], 28, t36⟩, h⟩
noncomputable def l32_1 (K : Oracle) (L : Looper) (e : E) (h : H) : Out :=
 sq (bd (binK 0 .lss (e.s k32 22) (e.s k32 21)) fun t23 =>
 some ⟨.nm, ⟨[(e.s k32 0), (e.s k32 1), (e.s k32 2), (e.s k32 3), (e.s k32 4), (e.s k32 6), (e.s k32 8), (e.s k32 20), (e.s k32 21), (e.s k32 22), (e.s k32 26), (e.s k32 27), (e.s k32 28)], 23, t23⟩, h⟩) fun e h =>
 sq (br (e.s k32 23) (some ⟨.nm, e, h⟩)
 (some ⟨.ex 0, e, h⟩)) fun e h =>
 sq (blk 1 (sq (bd (iaS 1 (e.s k32 20) (e.s k32 22)) fun t24 =>
 bd (ld h t24) fun t25 =>
 some ⟨.nm, ⟨[(e.s k32 0), (e.s k32 1), (e.s k32 2), (e.s k32 3), (e.s k32 4), t25, (e.s k32 8), (e.s k32 20), (e.s k32 21), (e.s k32 22), (e.s k32 26), (e.s k32 27), (e.s k32 28)], 6, t25⟩, h⟩) fun e h =>
 sq (bd (lnS (e.s k32 6)) fun t27 =>
 some ⟨.nm, ⟨[(e.s k32 0), (e.s k32 1), (e.s k32 2), (e.s k32 3), (e.s k32 4), (e.s k32 6), (e.s k32 8), (e.s k32 20), (e.s k32 21), (e.s k32 22), (e.s k32 6), t27, (.int .i64 0)], 28, (.int .i64 0)⟩, h⟩) fun e h =>
 blk 2 (L (l32_0 K L) e h))) fun e h =>
 bd (binK 0 .add (e.s k32 22) (.int .i64 1)) fun t37 =>
 some ⟨.nm, ⟨[(e.s k32 0), (e.s k32 1), (e.s k32 2), (e.s k32 3), (e.s k32 4), (e.s k32 6), (e.s k32 8), (e.s k32 20), (e.s k32 21), t37, (e.s k32 26), (e.s k32 27), (e.s k32 28)], 22, t37⟩, h⟩
noncomputable def s32 (K : Oracle) (L : Looper) (e : E) (h : H) : Out :=
 sq (bf (bx h 25 (e.s k32 0)) fun t1 h1 =>
 some ⟨.nm, ⟨[(e.s k32 0), t1, (.int .i64 0), (e.s k32 3), (e.s k32 4), (e.s k32 6), (e.s k32 8), (e.s k32 20), (e.s k32 21), (e.s k32 22), (e.s k32 26), (e.s k32 27), (e.s k32 28)], 2, (.int .i64 0)⟩, h1⟩) fun e h =>
 sq (bd (fa 2 (e.s k32 1)) fun t9 =>
 bd (ld h t9) fun t10 =>
 bd (lnS t10) fun t11 =>
 bd (fa 3 (e.s k32 1)) fun t12 =>
 bd (ld h t12) fun t13 =>
 bd (lnS t13) fun t14 =>
 bd (binK 0 .add t11 t14) fun t15 =>
 ck (ld h t9) t10 (ck (ld h t12) t13 (some ⟨.nm, ⟨[(e.s k32 0), (e.s k32 1), (e.s k32 2), (.int .i64 0), t15, (e.s k32 6), (e.s k32 8), (e.s k32 20), (e.s k32 21), (e.s k32 22), (e.s k32 26), (e.s k32 27), (e.s k32 28)], 4, t15⟩, h⟩))) fun e h =>
 sq (sq (bd (fa 2 (e.s k32 1)) fun t16 =>
 bd (ld h t16) fun t17 =>
 bd (fa 3 (e.s k32 1)) fun t18 =>
 bd (ld h t18) fun t19 =>
 bf (bs h 23 2 [.nils, .nils] [(some (0, 1), t17), (some (1, 1), t19)]) fun t20 h1 =>
 bd (lnS t20) fun t21 =>
 some ⟨.nm, ⟨[(e.s k32 0), (e.s k32 1), (e.s k32 2), (e.s k32 3), (e.s k32 4), (e.s k32 6), (e.s k32 8), t20, t21, (.int .i64 0), (e.s k32 26), (e.s k32 27), (e.s k32 28)], 22, (.int .i64 0)⟩, h1⟩) fun e h =>
 blk 0 (L (l32_1 K L) e h)) fun e h =>
 sq (sq (bd (binK 0 .eql (e.s k32 4) (.int .i64 0)) fun t39 =>
 some ⟨.nm, ⟨[(e.s k32 0), (e.s k32 1), (e.s k32 2), (e.s k32 3), (e.s k32 4), (e.s k32 6), (e.s k32 8), (e.s k32 20), (e.s k32 21), (e.s k32 22), (e.s k32 26), (e.s k32 27), (e.s k32 28)], 39, t39⟩, h⟩) fun e h =>
 br (e.s k32 39) (sq (some ⟨.nm, ⟨[(e.s k32 0), (e.s k32 1), (.int .i64 128), (e.s k32 3), (e.s k32 4), (e.s k32 6), (e.s k32 8), (e.s k32 20), (e.s k32 21), (e.s k32 22), (e.s k32 26), (e.s k32 27), (e.s k32 28)], 2, (.int .i64 128)⟩, h⟩) fun e h =>
 some ⟨.rt, e, h⟩)
 (some ⟨.nm, e, h⟩)) fun e h =>
 sq (bd (binK 0 .quo (e.s k32 4) (.int .i64 2)) fun t42 =>
 bd (binK 0 .add (e.s k32 3) t42) fun t43 =>
 bd (binK 0 .quo t43 (e.s k32 4)) fun t45 =>
 some ⟨.nm, ⟨[(e.s k32 0), (e.s k32 1), t45, (e.s k32 3), (e.s k32 4), (e.s k32 6), (e.s k32 8), (e.s k32 20), (e.s k32 21), (e.s k32 22), (e.s k32 26), (e.s k32 27), (e.s k32 28)], 2, t45⟩, h⟩) fun e h =>
 some ⟨.rt, e, h⟩
noncomputable def f32 (K : Oracle) (L : Looper) (p0 : V) (h : H) : Option (Rv × H) := fin Try.prog k32 [.tmp 2] (s32 K L ⟨[p0, V.und, V.und, V.und, V.und, V.und, V.und, V.und, V.und, V.und, V.und, V.und, V.und], 0, p0⟩ h)
theorem r32 : (fun K L p0 h => runFF Try.prog kp K L 32 [p0] h) = f32 := by kernel_rfl
theorem c32 (p0 : V) (h : H) : callZ Try.prog kp 32 [p0] h = f32 (callZ Try.prog kp) loopZ p0 h :=
  (callZ_eqF _ _ _ _ _).trans (congrFun (congrFun (congrFun (congrFun (r32) _) _) p0) h)

/-- zoetrope/intra.Predict$1 -/
@[simp] def k33 : List Nat := [2, 5]
noncomputable def s33 (K : Oracle) (L : Looper) (e : E) (h : H) : Out :=
 sq (some ⟨.nm, ⟨[(e.s k33 2), (.int .i64 0)], 5, (.int .i64 0)⟩, h⟩) fun e h =>
 sq (bd (ld h (e.s k33 2)) fun t6 =>
 some ⟨.nm, ⟨[(e.s k33 2), t6], 5, t6⟩, h⟩) fun e h =>
 some ⟨.rt, e, h⟩
noncomputable def f33 (K : Oracle) (L : Looper) (p0 p1 p2 : V) (h : H) : Option (Rv × H) := fin Try.prog k33 [.tmp 5] (s33 K L ⟨[p2, V.und], 0, p0⟩ h)
theorem r33 : (fun K L p0 p1 p2 h => runFF Try.prog kp K L 33 [p0, p1, p2] h) = f33 := by kernel_rfl
theorem c33 (p0 p1 p2 : V) (h : H) : callZ Try.prog kp 33 [p0, p1, p2] h = f33 (callZ Try.prog kp) loopZ p0 p1 p2 h :=
  (callZ_eqF _ _ _ _ _).trans (congrFun (congrFun (congrFun (congrFun (congrFun (congrFun (r33) _) _) p0) p1) p2) h)

/-- (zoetrope/intra.block).paeth -/
@[simp] def k34 : List Nat := [0, 1, 2, 3, 6, 7, 8, 9, 10, 11, 12, 14, 34, 35, 36]
noncomputable def l34_0 (K : Oracle) (L : Looper) (e : E) (h : H) : Out :=
 sq (bd (binK 0 .lss (e.s k34 36) (e.s k34 35)) fun t37 =>
 some ⟨.nm, ⟨[(e.s k34 0), (e.s k34 1), (e.s k34 2), (e.s k34 3), (e.s k34 6), (e.s k34 7), (e.s k34 8), (e.s k34 9), (e.s k34 10), (e.s k34 11), (e.s k34 12), (e.s k34 14), (e.s k34 34), (e.s k34 35), (e.s k34 36)], 37, t37⟩, h⟩) fun e h =>
 sq (br (e.s k34 37) (some ⟨.nm, e, h⟩)
 (some ⟨.ex 0, e, h⟩)) fun e h =>
 sq (blk 1 (sq (bd (iaS 1 (e.s k34 34) (e.s k34 36)) fun t38 =>
 bd (ld h t38) fun t39 =>
 some ⟨.nm, ⟨[(e.s k34 0), (e.s k34 1), (e.s k34 2), (e.s k34 3), (e.s k34 6), (e.s k34 7), (e.s k34 8), (e.s k34 9), (e.s k34 10), (e.s k34 11), (e.s k34 12), t39, (e.s k34 34), (e.s k34 35), (e.s k34 36)], 14, t39⟩, h⟩) fun e h =>
 sq (bc k34 [40, 41, 42, 43, 44, 45, 46] e (cdy K (e.s k34 11) [(e.s k34 14)] h) fun t42 h1 =>
 bc k34 [40, 41, 42, 43, 44, 45, 46] e (cdy K (e.s k34 11) [(e.s k34 12)] h1) fun t45 h2 =>
 bd (binK 0 .lss t42 t45) fun t46 =>
 some ⟨.nm, ⟨[(e.s k34 0), (e.s k34 1), (e.s k34 2), (e.s k34 3), (e.s k34 6), (e.s k34 7), (e.s k34 8), (e.s k34 9), (e.s k34 10), (e.s k34 11), (e.s k34 12), (e.s k34 14), (e.s k34 34), (e.s k34 35), (e.s k34 36)], 46, t46⟩, h2⟩) fun e h =>
 br (e.s k34 46) (some ⟨.nm, ⟨[(e.s k34 0), (e.s k34 1), (e.s k34 2), (e.s k34 3), (e.s k34 6), (e.s k34 7), (e.s k34 8), (e.s k34 9), (e.s k34 10), (e.s k34 11), (e.s k34 14), (e.s k34 14), (e.s k34 34), (e.s k34 35), (e.s k34 36)], 12, (e.s k34 14)⟩, h⟩)
 (some ⟨.nm, e, h⟩))) fun e h =>
 bd (binK 0 .add (e.s k34 36) (.int .i64 1)) fun t48 =>
 some ⟨.nm, ⟨[(e.s k34 0), (e.s k34 1), (e.s k34 2), (e.s k34 3), (e.s k34 6), (e.s k34 7), (e.s k34 8), (e.s k34 9), (e.s k34 10), (e.s k34 11), (e.s k34 12), (e.s k34 14), (e.s k34 34), (e.s k34 35), t48], 36, t48⟩, h⟩
noncomputable def s34 (K : Oracle) (L : Looper) (e : E) (h : H) : Out :=
 sq (bf (bx h 59 (e.s k34 0)) fun t3 h1 =>
 some ⟨.nm, ⟨[(e.s k34 0), (e.s k34 1), (e.s k34 2), t3, (.int .i64 0), (e.s k34 7), (e.s k34 8), (e.s k34 9), (e.s k34 10), (e.s k34 11), (e.s k34 12), (e.s k34 14), (e.s k34 34), (e.s k34 35), (e.s k34 36)], 6, (.int .i64 0)⟩, h1⟩) fun e h =>
 sq (bd (fa 2 (e.s k34 3)) fun t15 =>
 bd (ld h t15) fun t16 =>
 bn (cdy K t16 [(e.s k34 2)] h) fun t18 h1 =>
 bd (fa 1 (e.s k34 3)) fun t19 =>
 bd (ld h1 t19) fun t20 =>
 bn (cdy K t20 [(e.s k34 1)] h1) fun t22 h2 =>
 bd (fa 3 (e.s k34 3)) fun t23 =>
 bd (ld h2 t23) fun t24 =>
 ck (ld h t15) t16 (ck (ld h t19) t20 (ck (ld h1 t19) t20 (ck (ld h t23) t24 (ck (ld h1 t23) t24 (ck (ld h2 t23) t24 (some ⟨.nm, ⟨[(e.s k34 0), (e.s k34 1), (e.s k34 2), (e.s k34 3), (e.s k34 6), t18, t22, t24, (e.s k34 10), (e.s k34 11), (e.s k34 12), (e.s k34 14), (e.s k34 34), (e.s k34 35), (e.s k34 36)], 9, t24⟩, h2⟩))))))) fun e h =>
 sq (bd (binK 0 .add (e.s k34 7) (e.s k34 8)) fun t27 =>
 bd (binK 0 .sub t27 (e.s k34 9)) fun t29 =>
 bf (nw h 3 [(.int .i64 0)]) fun t10 h1 =>
 bf (stZ 1 h1 t10 t29) fun _ h2 =>
 some ⟨.nm, ⟨[(e.s k34 0), (e.s k34 1), (e.s k34 2), (e.s k34 3), (e.s k34 6), (e.s k34 7), (e.s k34 8), (e.s k34 9), t10, (e.s k34 11), (e.s k34 12), (e.s k34 14), (e.s k34 34), (e.s k34 35), (e.s k34 36)], 0, (e.s k34 0)⟩, h2⟩) fun e h =>
 sq (bd (some (.fn (.func 53) [] [(e.s k34 10)])) fun t30 =>
 some ⟨.nm, ⟨[(e.s k34 0), (e.s k34 1), (e.s k34 2), (e.s k34 3), (e.s k34 6), (e.s k34 7), (e.s k34 8), (e.s k34 9), (e.s k34 10), t30, (e.s k34 12), (e.s k34 14), (e.s k34 34), (e.s k34 35), (e.s k34 36)], 11, t30⟩, h⟩) fun e h =>
 sq (some ⟨.nm, ⟨[(e.s k34 0), (e.s k34 1), (e.s k34 2), (e.s k34 3), (e.s k34 6), (e.s k34 7), (e.s k34 8), (e.s k34 9), (e.s k34 10), (e.s k34 11), (e.s k34 7), (e.s k34 14), (e.s k34 34), (e.s k34 35), (e.s k34 36)], 12, (e.s k34 7)⟩, h⟩) fun e h =>
 sq (sq (bf (bs h 3 2 [(.int .i64 0), (.int .i64 0)] [(some (0, 1), (e.s k34 8)), (some (1, 1), (e.s k34 9))]) fun t34 h1 =>
 bd (lnS t34) fun t35 =>
 some ⟨.nm, ⟨[(e.s k34 0), (e.s k34 1), (e.s k34 2), (e.s k34 3), (e.s k34 6), (e.s k34 7), (e.s k34 8), (e.s k34 9), (e.s k34 10), (e.s k34 11), (e.s k34 12), (e.s k34 14), t34, t35, (.int .i64 0)], 36, (.int .i64 0)⟩, h1⟩) fun e h =>
 blk 0 (L (l34_0 K L) e h)) fun e h =>
 sq (some ⟨.nm, ⟨[(e.s k34 0), (e.s k34 1), (e.s k34 2), (e.s k34 3), (e.s k34 12), (e.s k34 7), (e.s k34 8), (e.s k34 9), (e.s k34 10), (e.s k34 11), (e.s k34 12), (e.s k34 14), (e.s k34 34), (e.s k34 35), (e.s k34 36)], 6, (e.s k34 12)⟩, h⟩) fun e h =>
 some ⟨.rt, e, h⟩
noncomputable def f34 (K : Oracle) (L : Looper) (p0 p1 p2 : V) (h : H) : Option (Rv × H) := fin Try.prog k34 [.tmp 6] (s34 K L ⟨[p0, p1, p2, V.und, V.und, V.und, V.und, V.und, V.und, V.und, V.und, V.und, V.und, V.und, V.und], 0, p0⟩ h)
theorem r34 : (fun K L p0 p1 p2 h => runFF Try.prog kp K L 34 [p0, p1, p2] h) = f34 := by kernel_rfl
theorem c34 (p0 p1 p2 : V) (h : H) : callZ Try.prog kp 34 [p0, p1, p2] h = f34 (callZ Try.prog kp) loopZ p0 p1 p2 h :=
  (callZ_eqF _ _ _ _ _).trans (congrFun (congrFun (congrFun (congrFun (congrFun (congrFun (r34) _) _) p0) p1) p2) h)

/-- (zoetrope/intra.block).soft -/
@[simp] def k35 : List Nat := [0, 1, 2, 4, 5, 6, 7, 8, 9, 13]
noncomputable def s35 (K : Oracle) (L : Looper) (e : E) (h : H) : Out :=
 sq (bf (bx h 59 (e.s k35 0)) fun t2 h1 =>
 some ⟨.nm, ⟨[(e.s k35 0), (e.s k35 1), t2, .nilf, (e.s k35 5), (e.s k35 6), (e.s k35 7), (e.s k35 8), (e.s k35 9), (e.s k35 13)], 4, .nilf⟩, h1⟩) fun e h =>
 sq (bd (fa 0 (e.s k35 2)) fun t10 =>
 bd (ld h t10) fun t11 =>
 bf (nw h 3 [(.int .i64 0)]) fun t5 h1 =>
 bf (stZ 1 h1 t5 t11) fun _ h2 =>
 some ⟨.nm, ⟨[(e.s k35 0), (e.s k35 1), (e.s k35 2), (e.s k35 4), t5, (e.s k35 6), (e.s k35 7), (e.s k35 8), (e.s k35 9), (e.s k35 13)], 0, (e.s k35 0)⟩, h2⟩) fun e h =>
 sq (bd (some (.fn (.func 54) [] [(e.s k35 5)])) fun t12 =>
 bf (nw h 56 [.nilf]) fun t6 h1 =>
 bf (stZ 1 h1 t6 t12) fun _ h2 =>
 some ⟨.nm, ⟨[(e.s k35 0), (e.s k35 1), (e.s k35 2), (e.s k35 4), (e.s k35 5), t6, (e.s k35 7), (e.s k35 8), (e.s k35 9), (e.s k35 13)], 0, (e.s k35 0)⟩, h2⟩) fun e h =>
 sq (bf (nw h 3 [(.int .i64 0)]) fun t7 h1 =>
 bf (nw h1 3 [(.int .i64 0)]) fun t8 h2 =>
 bf (stZ 1 h2 t7 (.int .i64 0)) fun _ h3 =>
 bf (stZ 1 h3 t8 (.int .i64 0)) fun _ h4 =>
 some ⟨.nm, ⟨[(e.s k35 0), (e.s k35 1), (e.s k35 2), (e.s k35 4), (e.s k35 5), (e.s k35 6), t7, t8, (e.s k35 9), (e.s k35 13)], 0, (e.s k35 0)⟩, h4⟩) fun e h =>
 sq (sq (some ⟨.nm, ⟨[(e.s k35 0), (e.s k35 1), (e.s k35 2), (e.s k35 4), (e.s k35 5), (e.s k35 6), (e.s k35 7), (e.s k35 8), (e.s k35 9), (e.s k35 1)], 13, (e.s k35 1)⟩, h⟩) fun e h =>
 blk 0 (sq (blk 3 (sq (blk 2 (sq (blk 1 (sq (sq (sq (bd (binK 0 .eql (e.s k35 13) (.int .i64 9)) fun t15 =>
 some ⟨.nm, ⟨[(e.s k35 0), (e.s k35 1), (e.s k35 2), (e.s k35 4), (e.s k35 5), (e.s k35 6), (e.s k35 7), (e.s k35 8), (e.s k35 9), (e.s k35 13)], 14, t15⟩, h⟩) fun e h =>
 br (e.s k35 14) (some ⟨.ex 1, e, h⟩)
 (some ⟨.nm, e, h⟩)) fun e h =>
 sq (bd (binK 0 .eql (e.s k35 13) (.int .i64 11)) fun t17 =>
 some ⟨.nm, ⟨[(e.s k35 0), (e.s k35 1), (e.s k35 2), (e.s k35 4), (e.s k35 5), (e.s k35 6), (e.s k35 7), (e.s k35 8), (e.s k35 9), (e.s k35 13)], 16, t17⟩, h⟩) fun e h =>
 br (e.s k35 16) (some ⟨.ex 2, e, h⟩)
 (some ⟨.nm, e, h⟩)) fun e h =>
 some ⟨.ex 3, e, h⟩)) fun e h =>
 bf (stZ 1 h (e.s k35 7) (.int .i64 1)) fun _ h1 =>
 some ⟨.nm, ⟨[(e.s k35 0), (e.s k35 1), (e.s k35 2), (e.s k35 4), (e.s k35 5), (e.s k35 6), (e.s k35 7), (e.s k35 8), (e.s k35 9), (e.s k35 13)], 0, (e.s k35 0)⟩, h1⟩)) fun e h =>
 sq (bf (stZ 1 h (e.s k35 8) (.int .i64 1)) fun _ h1 =>
 some ⟨.nm, ⟨[(e.s k35 0), (e.s k35 1), (e.s k35 2), (e.s k35 4), (e.s k35 5), (e.s k35 6), (e.s k35 7), (e.s k35 8), (e.s k35 9), (e.s k35 13)], 0, (e.s k35 0)⟩, h1⟩) fun e h =>
 some ⟨.ex 0, e, h⟩)) fun e h =>
 sq (bf (stZ 1 h (e.s k35 7) (.int .i64 1)) fun _ h1 =>
 some ⟨.nm, ⟨[(e.s k35 0), (e.s k35 1), (e.s k35 2), (e.s k35 4), (e.s k35 5), (e.s k35 6), (e.s k35 7), (e.s k35 8), (e.s k35 9), (e.s k35 13)], 0, (e.s k35 0)⟩, h1⟩) fun e h =>
 some ⟨.ex 0, e, h⟩)) fun e h =>
 sq (bd (ld h (e.s k35 7)) fun t18 =>
 bd (binK 0 .add (.int .i64 7) t18) fun t19 =>
 bd (ld h (e.s k35 8)) fun t20 =>
 bd (binK 0 .add t19 t20) fun t21 =>
 bf (nw h 3 [(.int .i64 0)]) fun t9 h1 =>
 bf (stZ 1 h1 t9 t21) fun _ h2 =>
 some ⟨.nm, ⟨[(e.s k35 0), (e.s k35 1), (e.s k35 2), (e.s k35 4), (e.s k35 5), (e.s k35 6), (e.s k35 7), (e.s k35 8), t9, (e.s k35 13)], 0, (e.s k35 0)⟩, h2⟩) fun e h =>
 sq (bd (some (.fn (.func 55) [] [(e.s k35 7), (e.s k35 6), (e.s k35 2), (e.s k35 5), (e.s k35 8), (e.s k35 9)])) fun t22 =>
 some ⟨.nm, ⟨[(e.s k35 0), (e.s k35 1), (e.s k35 2), t22, (e.s k35 5), (e.s k35 6), (e.s k35 7), (e.s k35 8), (e.s k35 9), (e.s k35 13)], 4, t22⟩, h⟩) fun e h =>
 some ⟨.rt, e, h⟩
noncomputable def f35 (K : Oracle) (L : Looper) (p0 p1 : V) (h : H) : Option (Rv × H) := fin Try.prog k35 [.tmp 4] (s35 K L ⟨[p0, p1, V.und, V.und, V.und, V.und, V.und, V.und, V.und, V.und], 0, p0⟩ h)
theorem r35 : (fun K L p0 p1 h => runFF Try.prog kp K L 35 [p0, p1] h) = f35 := by kernel_rfl
theorem c35 (p0 p1 : V) (h : H) : callZ Try.prog kp 35 [p0, p1] h = f35 (callZ Try.prog kp) loopZ p0 p1 h :=
  (callZ_eqF _ _ _ _ _).trans (congrFun (congrFun (congrFun (congrFun (congrFun (r35) _) _) p0) p1) h)

/-- zoetrope/zoetroperef12.direction -/
@[simp] def k36 : List Nat := [0, 2]
noncomputable def s36 (K : Oracle) (L : Looper) (e : E) (h : H) : Out :=
 sq (some ⟨.nm, ⟨[(e.s k36 0), (.bool false)], 2, (.bool false)⟩, h⟩) fun e h =>
 sq (bd (binK 0 .geq (e.s k36 0) (.int .i64 1)) fun t4 =>
 bd (gl t4 true (some (e.s k36 0))) fun t6 =>
 bd (gl t4 true (binK 0 .leq t6 (.int .i64 8))) fun t7 =>
 bd (pk t4 t7 (.bool false)) fun t8 =>
 some ⟨.nm, ⟨[(e.s k36 0), t8], 2, t8⟩, h⟩) fun e h =>
 some ⟨.rt, e, h⟩
noncomputable def f36 (K : Oracle) (L : Looper) (p0 : V) (h : H) : Option (Rv × H) := fin Try.prog k36 [.tmp 2] (s36 K L ⟨[p0, V.und], 0, p0⟩ h)
theorem r36 : (fun K L p0 h => runFF Try.prog kp K L 36 [p0] h) = f36 := by kernel_rfl
theorem c36 (p0 : V) (h : H) : callZ Try.prog kp 36 [p0] h = f36 (callZ Try.prog kp) loopZ p0 h :=
  (callZ_eqF _ _ _ _ _).trans (congrFun (congrFun (congrFun (congrFun (r36) _) _) p0) h)

/-- zoetrope/zoetroperef12.filled -/
@[simp] def k37 : List Nat := [0, 1, 3, 4, 5, 6, 7, 8]
noncomputable def l37_0 (K : Oracle) (L : Looper) (e : E) (h : H) : Out :=
 sq (sq (bd (binK 0 .lss (e.s k37 6) (e.s k37 0)) fun t12 =>
 some ⟨.nm, ⟨[(e.s k37 0), (e.s k37 1), (e.s k37 3), (e.s k37 4), (e.s k37 5), (e.s k37 6), (e.s k37 7), (e.s k37 8)], 12, t12⟩, h⟩) fun e h =>
 br (e.s k37 12) (some ⟨.nm, e, h⟩)
 (some ⟨.ex 0, e, h⟩)) fun e h =>
 sq (blk 1 (sq (some ⟨.nm, ⟨[(e.s k37 0), (e.s k37 1), (e.s k37 3), (e.s k37 4), (e.s k37 5), (e.s k37 6), (.int .i64 127), (.int .i64 129)], 8, (.int .i64 129)⟩, h⟩) fun e h =>
 sq (blk 2 (sq (bd (fa 0 (e.s k37 3)) fun t16 =>
 bd (ld h t16) fun t17 =>
 bd (gl t17 true (fa 1 (e.s k37 3))) fun t19 =>
 bd (gl t17 true (ld h t19)) fun t20 =>
 bd (pk t17 t20 (.bool false)) fun t21 =>
 some ⟨.nm, ⟨[(e.s k37 0), (e.s k37 1), (e.s k37 3), (e.s k37 4), (e.s k37 5), (e.s k37 6), (e.s k37 7), (e.s k37 8)], 15, t21⟩, h⟩) fun e h =>
 br (e.s k37 15) (bd (fa 2 (e.s k37 3)) fun t22 =>
 bd (ld h t22) fun t23 =>
 bd (iaS 1 t23 (e.s k37 6)) fun t25 =>
 bd (ld h t25) fun t26 =>
 bd (cv .i64 t26) fun t27 =>
 bd (fa 3 (e.s k37 3)) fun t28 =>
 bd (ld h t28) fun t29 =>
 bd (iaS 1 t29 (e.s k37 6)) fun t31 =>
 bd (ld h t31) fun t32 =>
 bd (cv .i64 t32) fun t33 =>
 ck (ld h t22) t23 (ck (ld h t25) t26 (ck (ld h t28) t29 (ck (ld h t31) t32 (some ⟨.nm, ⟨[(e.s k37 0), (e.s k37 1), (e.s k37 3), (e.s k37 4), (e.s k37 5), (e.s k37 6), t27, t33], 8, t33⟩, h⟩)))))
 (sq (bd (fa 0 (e.s k37 3)) fun t35 =>
 bd (ld h t35) fun t36 =>
 some ⟨.nm, ⟨[(e.s k37 0), (e.s k37 1), (e.s k37 3), (e.s k37 4), (e.s k37 5), (e.s k37 6), (e.s k37 7), (e.s k37 8)], 34, t36⟩, h⟩) fun e h =>
 br (e.s k37 34) (bd (fa 2 (e.s k37 3)) fun t37 =>
 bd (ld h t37) fun t38 =>
 bd (iaS 1 t38 (e.s k37 6)) fun t40 =>
 bd (ld h t40) fun t41 =>
 bd (cv .i64 t41) fun t42 =>
 bd (fa 2 (e.s k37 3)) fun t43 =>
 bd (ld h t43) fun t44 =>
 bd (iaS 1 t44 (.int .i64 0)) fun t45 =>
 bd (ld h t45) fun t46 =>
 bd (cv .i64 t46) fun t47 =>
 ck (ld h t37) t38 (ck (ld h t40) t41 (ck (ld h t43) t44 (ck (ld h t45) t46 (some ⟨.nm, ⟨[(e.s k37 0), (e.s k37 1), (e.s k37 3), (e.s k37 4), (e.s k37 5), (e.s k37 6), t42, t47], 8, t47⟩, h⟩)))))
 (sq (bd (fa 1 (e.s k37 3)) fun t49 =>
 bd (ld h t49) fun t50 =>
 some ⟨.nm, ⟨[(e.s k37 0), (e.s k37 1), (e.s k37 3), (e.s k37 4), (e.s k37 5), (e.s k37 6), (e.s k37 7), (e.s k37 8)], 48, t50⟩, h⟩) fun e h =>
 br (e.s k37 48) (bd (fa 3 (e.s k37 3)) fun t51 =>
 bd (ld h t51) fun t52 =>
 bd (iaS 1 t52 (.int .i64 0)) fun t53 =>
 bd (ld h t53) fun t54 =>
 bd (cv .i64 t54) fun t55 =>
 bd (fa 3 (e.s k37 3)) fun t56 =>
 bd (ld h t56) fun t57 =>
 bd (iaS 1 t57 (e.s k37 6)) fun t59 =>
 bd (ld h t59) fun t60 =>
 bd (cv .i64 t60) fun t61 =>
 ck (ld h t51) t52 (ck (ld h t53) t54 (ck (ld h t56) t57 (ck (ld h t59) t60 (some ⟨.nm, ⟨[(e.s k37 0), (e.s k37 1), (e.s k37 3), (e.s k37 4), (e.s k37 5), (e.s k37 6), t55, t61], 8, t61⟩, h⟩)))))
 (some ⟨.nm, e, h⟩))))) fun e h =>
 sq (bd (fa 0 (e.s k37 5)) fun t62 =>
 bd (ld h t62) fun t63 =>
 bf (bs h 3 1 [(.int .i64 0)] [(some (0, 1), (e.s k37 7))]) fun t65 h1 =>
 bf (apZ 3 1 8 h1 t63 t65) fun t66 h2 =>
 bd (fa 0 (e.s k37 5)) fun t67 =>
 bf (stZ 1 h2 t67 t66) fun _ h3 =>
 some ⟨.nm, ⟨[(e.s k37 0), (e.s k37 1), (e.s k37 3), (e.s k37 4), (e.s k37 5), (e.s k37 6), (e.s k37 7), (e.s k37 8)], 0, (e.s k37 0)⟩, h3⟩) fun e h =>
 bd (fa 1 (e.s k37 5)) fun t68 =>
 bd (ld h t68) fun t69 =>
 bf (bs h 3 1 [(.int .i64 0)] [(some (0, 1), (e.s k37 8))]) fun t71 h1 =>
 bf (apZ 3 1 8 h1 t69 t71) fun t72 h2 =>
 bd (fa 1 (e.s k37 5)) fun t73 =>
 bf (stZ 1 h2 t73 t72) fun _ h3 =>
 some ⟨.nm, ⟨[(e.s k37 0), (e.s k37 1), (e.s k37 3), (e.s k37 4), (e.s k37 5), (e.s k37 6), (e.s k37 7), (e.s k37 8)], 0, (e.s k37 0)⟩, h3⟩)) fun e h =>
 bd (binK 0 .add (e.s k37 6) (.int .i64 1)) fun t14 =>
 some ⟨.nm, ⟨[(e.s k37 0), (e.s k37 1), (e.s k37 3), (e.s k37 4), (e.s k37 5), t14, (e.s k37 7), (e.s k37 8)], 6, t14⟩, h⟩
noncomputable def s37 (K : Oracle) (L : Looper) (e : E) (h : H) : Out :=
 sq (bf (bx h 25 (e.s k37 1)) fun t3 h1 =>
 bf (nw h1 65 [.nils, .nils, (.int .i64 0)]) fun t4 h2 =>
 some ⟨.nm, ⟨[(e.s k37 0), (e.s k37 1), t3, t4, (e.s k37 5), (e.s k37 6), (e.s k37 7), (e.s k37 8)], 4, t4⟩, h2⟩) fun e h =>
 sq (bd (bl [.nils, .nils, (.int .i64 0)] [(some (2, 1), (.int .i64 128))]) fun t9 =>
 bf (nw h 65 [.nils, .nils, (.int .i64 0)]) fun t5 h1 =>
 bf (stZ 3 h1 t5 t9) fun _ h2 =>
 some ⟨.nm, ⟨[(e.s k37 0), (e.s k37 1), (e.s k37 3), (e.s k37 4), t5, (e.s k37 6), (e.s k37 7), (e.s k37 8)], 0, (e.s k37 0)⟩, h2⟩) fun e h =>
 sq (sq (some ⟨.nm, ⟨[(e.s k37 0), (e.s k37 1), (e.s k37 3), (e.s k37 4), (e.s k37 5), (.int .i64 0), (e.s k37 7), (e.s k37 8)], 6, (.int .i64 0)⟩, h⟩) fun e h =>
 blk 0 (L (l37_0 K L) e h)) fun e h =>
 sq (blk 3 (sq (bd (fa 0 (e.s k37 3)) fun t75 =>
 bd (ld h t75) fun t76 =>
 bd (gl t76 true (fa 1 (e.s k37 3))) fun t78 =>
 bd (gl t76 true (ld h t78)) fun t79 =>
 bd (pk t76 t79 (.bool false)) fun t80 =>
 some ⟨.nm, ⟨[(e.s k37 0), (e.s k37 1), (e.s k37 3), (e.s k37 4), (e.s k37 5), (e.s k37 6), (e.s k37 7), (e.s k37 8)], 74, t80⟩, h⟩) fun e h =>
 br (e.s k37 74) (bd (fa 4 (e.s k37 3)) fun t81 =>
 bd (ld h t81) fun t82 =>
 bd (cv .i64 t82) fun t83 =>
 bd (fa 2 (e.s k37 5)) fun t84 =>
 bf (stZ 1 h t84 t83) fun _ h1 =>
 some ⟨.nm, ⟨[(e.s k37 0), (e.s k37 1), (e.s k37 3), (e.s k37 4), (e.s k37 5), (e.s k37 6), (e.s k37 7), (e.s k37 8)], 0, (e.s k37 0)⟩, h1⟩)
 (sq (bd (fa 0 (e.s k37 3)) fun t86 =>
 bd (ld h t86) fun t87 =>
 some ⟨.nm, ⟨[(e.s k37 0), (e.s k37 1), (e.s k37 3), (e.s k37 4), (e.s k37 5), (e.s k37 6), (e.s k37 7), (e.s k37 8)], 85, t87⟩, h⟩) fun e h =>
 br (e.s k37 85) (bd (fa 2 (e.s k37 3)) fun t88 =>
 bd (ld h t88) fun t89 =>
 bd (iaS 1 t89 (.int .i64 0)) fun t90 =>
 bd (ld h t90) fun t91 =>
 bd (cv .i64 t91) fun t92 =>
 bd (fa 2 (e.s k37 5)) fun t93 =>
 bf (stZ 1 h t93 t92) fun _ h1 =>
 some ⟨.nm, ⟨[(e.s k37 0), (e.s k37 1), (e.s k37 3), (e.s k37 4), (e.s k37 5), (e.s k37 6), (e.s k37 7), (e.s k37 8)], 0, (e.s k37 0)⟩, h1⟩)
 (sq (bd (fa 1 (e.s k37 3)) fun t95 =>
 bd (ld h t95) fun t96 =>
 some ⟨.nm, ⟨[(e.s k37 0), (e.s k37 1), (e.s k37 3), (e.s k37 4), (e.s k37 5), (e.s k37 6), (e.s k37 7), (e.s k37 8)], 94, t96⟩, h⟩) fun e h =>
 br (e.s k37 94) (bd (fa 3 (e.s k37 3)) fun t97 =>
 bd (ld h t97) fun t98 =>
 bd (iaS 1 t98 (.int .i64 0)) fun t99 =>
 bd (ld h t99) fun t100 =>
 bd (cv .i64 t100) fun t101 =>
 bd (fa 2 (e.s k37 5)) fun t102 =>
 bf (stZ 1 h t102 t101) fun _ h1 =>
 some ⟨.nm, ⟨[(e.s k37 0), (e.s k37 1), (e.s k37 3), (e.s k37 4), (e.s k37 5), (e.s k37 6), (e.s k37 7), (e.s k37 8)], 0, (e.s k37 0)⟩, h1⟩)
 (some ⟨.nm, e, h⟩))))) fun e h =>
 sq (bd (ldn 3 h (e.s k37 5)) fun t103 =>
 bf (stZ 3 h (e.s k37 4) t103) fun _ h1 =>
 some ⟨.nm, ⟨[(e.s k37 0), (e.s k37 1), (e.s k37 3), (e.s k37 4), (e.s k37 5), (e.s k37 6), (e.s k37 7), (e.s k37 8)], 0, (e.s k37 0)⟩, h1⟩) fun e h =>
 some ⟨.rt, e, h⟩
noncomputable def f37 (K : Oracle) (L : Looper) (p0 p1 : V) (h : H) : Option (Rv × H) := fin Try.prog k37 [.cell 4 65] (s37 K L ⟨[p0, p1, V.und, V.und, V.und, V.und, V.und, V.und], 0, p0⟩ h)
theorem r37 : (fun K L p0 p1 h => runFF Try.prog kp K L 37 [p0, p1] h) = f37 := by kernel_rfl
theorem c37 (p0 p1 : V) (h : H) : callZ Try.prog kp 37 [p0, p1] h = f37 (callZ Try.prog kp) loopZ p0 p1 h :=
  (callZ_eqF _ _ _ _ _).trans (congrFun (congrFun (congrFun (congrFun (congrFun (r37) _) _) p0) p1) h)

/-- zoetrope/zoetroperef12.long -/
@[simp] def k38 : List Nat := [0, 1, 4, 5, 6, 7]
noncomputable def l38_0 (K : Oracle) (L : Looper) (e : E) (h : H) : Out :=
 sq (sq (bd (binK 0 .mul (.int .i64 2) (e.s k38 5)) fun t18 =>
 bd (binK 0 .add t18 (.int .i64 4)) fun t19 =>
 bd (binK 0 .lss (e.s k38 7) t19) fun t20 =>
 some ⟨.nm, ⟨[(e.s k38 0), (e.s k38 1), (e.s k38 4), (e.s k38 5), (e.s k38 6), (e.s k38 7)], 20, t20⟩, h⟩) fun e h =>
 br (e.s k38 20) (some ⟨.nm, e, h⟩)
 (some ⟨.ex 0, e, h⟩)) fun e h =>
 sq (blk 1 (bd (fa 0 (e.s k38 6)) fun t23 =>
 bd (ld h t23) fun t24 =>
 bd (binK 0 .sub (e.s k38 5) (.int .i64 1)) fun t28 =>
 bd (minV [(e.s k38 7), t28]) fun t29 =>
 bd (iaS 1 (e.s k38 0) t29) fun t30 =>
 bd (ld h t30) fun t31 =>
 bf (bs h 3 1 [(.int .i64 0)] [(some (0, 1), t31)]) fun t32 h1 =>
 bf (apZ 3 1 8 h1 t24 t32) fun t33 h2 =>
 bd (fa 0 (e.s k38 6)) fun t34 =>
 bf (stZ 1 h2 t34 t33) fun _ h3 =>
 ck (ld h t23) t24 (ck (ld h t30) t31 (some ⟨.nm, ⟨[(e.s k38 0), (e.s k38 1), (e.s k38 4), (e.s k38 5), (e.s k38 6), (e.s k38 7)], 0, (e.s k38 0)⟩, h3⟩)))) fun e h =>
 bd (binK 0 .add (e.s k38 7) (.int .i64 1)) fun t22 =>
 some ⟨.nm, ⟨[(e.s k38 0), (e.s k38 1), (e.s k38 4), (e.s k38 5), (e.s k38 6), t22], 7, t22⟩, h⟩
noncomputable def s38 (K : Oracle) (L : Looper) (e : E) (h : H) : Out :=
 sq (bf (nw h 68 [.nils, (.int .i64 0)]) fun t4 h1 =>
 some ⟨.nm, ⟨[(e.s k38 0), (e.s k38 1), t4, (e.s k38 5), (e.s k38 6), (e.s k38 7)], 4, t4⟩, h1⟩) fun e h =>
 sq (bd (lnS (e.s k38 0)) fun t9 =>
 some ⟨.nm, ⟨[(e.s k38 0), (e.s k38 1), (e.s k38 4), t9, (e.s k38 6), (e.s k38 7)], 5, t9⟩, h⟩) fun e h =>
 sq (bf (bs h 3 4 [(.int .i64 0), (.int .i64 0), (.int .i64 0), (.int .i64 0)] [(some (0, 1), (e.s k38 1)), (some (1, 1), (e.s k38 1)), (some (2, 1), (e.s k38 1)), (some (3, 1), (e.s k38 1))]) fun t14 h1 =>
 bd (bl [.nils, (.int .i64 0)] [(some (0, 1), t14)]) fun t15 =>
 bf (nw h1 68 [.nils, (.int .i64 0)]) fun t6 h2 =>
 bf (stZ 2 h2 t6 t15) fun _ h3 =>
 some ⟨.nm, ⟨[(e.s k38 0), (e.s k38 1), (e.s k38 4), (e.s k38 5), t6, (e.s k38 7)], 0, (e.s k38 0)⟩, h3⟩) fun e h =>
 sq (sq (some ⟨.nm, ⟨[(e.s k38 0), (e.s k38 1), (e.s k38 4), (e.s k38 5), (e.s k38 6), (.int .i64 0)], 7, (.int .i64 0)⟩, h⟩) fun e h =>
 blk 0 (L (l38_0 K L) e h)) fun e h =>
 sq (bd (ldn 2 h (e.s k38 6)) fun t35 =>
 bf (stZ 2 h (e.s k38 4) t35) fun _ h1 =>
 some ⟨.nm, ⟨[(e.s k38 0), (e.s k38 1), (e.s k38 4), (e.s k38 5), (e.s k38 6), (e.s k38 7)], 0, (e.s k38 0)⟩, h1⟩) fun e h =>
 some ⟨.rt, e, h⟩
noncomputable def f38 (K : Oracle) (L : Looper) (p0 p1 : V) (h : H) : Option (Rv × H) := fin Try.prog k38 [.cell 4 68] (s38 K L ⟨[p0, p1, V.und, V.und, V.und, V.und], 0, p0⟩ h)
theorem r38 : (fun K L p0 p1 h => runFF Try.prog kp K L 38 [p0, p1] h) = f38 := by kernel_rfl
theorem c38 (p0 p1 : V) (h : H) : callZ Try.prog kp 38 [p0, p1] h = f38 (callZ Try.prog kp) loopZ p0 p1 h :=
  (callZ_eqF _ _ _ _ _).trans (congrFun (congrFun (congrFun (congrFun (congrFun (r38) _) _) p0) p1) h)

/-- zoetrope/zoetroperef12.smoothed -/
@[simp] def k39 : List Nat := [0, 1, 2, 4, 5, 6, 7]
noncomputable def l39_0 (K : Oracle) (L : Looper) (e : E) (h : H) : Out :=
 sq (sq (bd (binK 0 .mul (.int .i64 2) (e.s k39 1)) fun t17 =>
 bd (binK 0 .add t17 (.int .i64 4)) fun t18 =>
 bd (binK 0 .lss (e.s k39 6) t18) fun t19 =>
 some ⟨.nm, ⟨[(e.s k39 0), (e.s k39 1), (e.s k39 2), (e.s k39 4), (e.s k39 5), (e.s k39 6), (e.s k39 7)], 19, t19⟩, h⟩) fun e h =>
 br (e.s k39 19) (some ⟨.nm, e, h⟩)
 (some ⟨.ex 0, e, h⟩)) fun e h =>
 sq (blk 1 (sq (bd (binK 0 .mul (.int .i64 2) (e.s k39 1)) fun t24 =>
 bd (binK 0 .sub t24 (.int .i64 1)) fun t25 =>
 bd (minV [(e.s k39 6), t25]) fun t26 =>
 some ⟨.nm, ⟨[(e.s k39 0), (e.s k39 1), (e.s k39 2), (e.s k39 4), (e.s k39 5), (e.s k39 6), t26], 7, t26⟩, h⟩) fun e h =>
 bd (ldn 2 h (e.s k39 2)) fun t29 =>
 bd (binK 0 .sub (e.s k39 7) (.int .i64 1)) fun t31 =>
 bn (K 56 [t29, t31] h) fun t32 h1 =>
 bd (ldn 2 h1 (e.s k39 2)) fun t33 =>
 bn (K 56 [t33, (e.s k39 7)] h1) fun t35 h2 =>
 bd (ldn 2 h2 (e.s k39 2)) fun t38 =>
 bd (binK 0 .add (e.s k39 7) (.int .i64 1)) fun t40 =>
 bd (binK 0 .mul (.int .i64 2) (e.s k39 1)) fun t42 =>
 bd (binK 0 .sub t42 (.int .i64 1)) fun t43 =>
 bd (minV [t40, t43]) fun t44 =>
 bn (K 56 [t38, t44] h2) fun t45 h3 =>
 bd (fa 0 (e.s k39 5)) fun t27 =>
 bd (ld h3 t27) fun t28 =>
 bd (binK 0 .mul (.int .i64 2) t35) fun t36 =>
 bd (binK 0 .add t32 t36) fun t37 =>
 bd (binK 0 .add t37 t45) fun t46 =>
 bd (binK 0 .add t46 (.int .i64 2)) fun t47 =>
 bd (binK 0 .shr t47 (.int .u64 2)) fun t48 =>
 bf (bs h3 3 1 [(.int .i64 0)] [(some (0, 1), t48)]) fun t49 h4 =>
 bf (apZ 3 1 8 h4 t28 t49) fun t50 h5 =>
 bd (fa 0 (e.s k39 5)) fun t51 =>
 bf (stZ 1 h5 t51 t50) fun _ h6 =>
 ck (ld h t27) t28 (ck (ld h1 t27) t28 (ck (ld h2 t27) t28 (ck (ld h3 t27) t28 (ck (ldn 2 h (e.s k39 2)) t29 (ck (ldn 2 h (e.s k39 2)) t33 (ck (ldn 2 h1 (e.s k39 2)) t33 (ck (ldn 2 h (e.s k39 2)) t38 (ck (ldn 2 h1 (e.s k39 2)) t38 (ck (ldn 2 h2 (e.s k39 2)) t38 (some ⟨.nm, ⟨[(e.s k39 0), (e.s k39 1), (e.s k39 2), (e.s k39 4), (e.s k39 5), (e.s k39 6), (e.s k39 7)], 0, (e.s k39 0)⟩, h6⟩)))))))))))) fun e h =>
 bd (binK 0 .add (e.s k39 6) (.int .i64 1)) fun t21 =>
 some ⟨.nm, ⟨[(e.s k39 0), (e.s k39 1), (e.s k39 2), (e.s k39 4), (e.s k39 5), t21, (e.s k39 7)], 6, t21⟩, h⟩
noncomputable def s39 (K : Oracle) (L : Looper) (e : E) (h : H) : Out :=
 sq (bf (bx h 68 (e.s k39 0)) fun t2 h1 =>
 bf (nw h1 68 [.nils, (.int .i64 0)]) fun t4 h2 =>
 some ⟨.nm, ⟨[(e.s k39 0), (e.s k39 1), t2, t4, (e.s k39 5), (e.s k39 6), (e.s k39 7)], 4, t4⟩, h2⟩) fun e h =>
 sq (bf (nw h 68 [.nils, (.int .i64 0)]) fun t5 h1 =>
 some ⟨.nm, ⟨[(e.s k39 0), (e.s k39 1), (e.s k39 2), (e.s k39 4), t5, (e.s k39 6), (e.s k39 7)], 5, t5⟩, h1⟩) fun e h =>
 sq (bd (fa 0 (e.s k39 5)) fun t8 =>
 bd (ld h t8) fun t9 =>
 bd (fa 0 (e.s k39 2)) fun t10 =>
 bd (ld h t10) fun t11 =>
 bd (slS 1 t11 none (some (.int .i64 4)) none) fun t12 =>
 bf (apZ 3 1 8 h t9 t12) fun t13 h1 =>
 bd (fa 0 (e.s k39 5)) fun t14 =>
 bf (stZ 1 h1 t14 t13) fun _ h2 =>
 ck (ld h t8) t9 (ck (ld h t10) t11 (some ⟨.nm, ⟨[(e.s k39 0), (e.s k39 1), (e.s k39 2), (e.s k39 4), (e.s k39 5), (e.s k39 6), (e.s k39 7)], 0, (e.s k39 0)⟩, h2⟩))) fun e h =>
 sq (sq (some ⟨.nm, ⟨[(e.s k39 0), (e.s k39 1), (e.s k39 2), (e.s k39 4), (e.s k39 5), (.int .i64 0), (e.s k39 7)], 6, (.int .i64 0)⟩, h⟩) fun e h =>
 blk 0 (L (l39_0 K L) e h)) fun e h =>
 sq (bd (ldn 2 h (e.s k39 5)) fun t52 =>
 bf (stZ 2 h (e.s k39 4) t52) fun _ h1 =>
 some ⟨.nm, ⟨[(e.s k39 0), (e.s k39 1), (e.s k39 2), (e.s k39 4), (e.s k39 5), (e.s k39 6), (e.s k39 7)], 0, (e.s k39 0)⟩, h1⟩) fun e h =>
 some ⟨.rt, e, h⟩
noncomputable def f39 (K : Oracle) (L : Looper) (p0 p1 : V) (h : H) : Option (Rv × H) := fin Try.prog k39 [.cell 4 68] (s39 K L ⟨[p0, p1, V.und, V.und, V.und, V.und, V.und], 0, p0⟩ h)
theorem r39 : (fun K L p0 p1 h => runFF Try.prog kp K L 39 [p0, p1] h) = f39 := by kernel_rfl
theorem c39 (p0 p1 : V) (h : H) : callZ Try.prog kp 39 [p0, p1] h = f39 (callZ Try.prog kp) loopZ p0 p1 h :=
  (callZ_eqF _ _ _ _ _).trans (congrFun (congrFun (congrFun (congrFun (congrFun (r39) _) _) p0) p1) h)

/-- zoetrope/zoetroperef12.doubled -/
@[simp] def k40 : List Nat := [0, 1, 2, 4, 5, 6, 7, 8]
noncomputable def l40_0 (K : Oracle) (L : Looper) (e : E) (h : H) : Out :=
 sq (sq (bd (binK 0 .mul (.int .i64 4) (e.s k40 1)) fun t12 =>
 bd (binK 0 .add t12 (.int .i64 8)) fun t13 =>
 bd (binK 0 .lss (e.s k40 6) t13) fun t14 =>
 some ⟨.nm, ⟨[(e.s k40 0), (e.s k40 1), (e.s k40 2), (e.s k40 4), (e.s k40 5), (e.s k40 6), (e.s k40 7), (e.s k40 8)], 14, t14⟩, h⟩) fun e h =>
 br (e.s k40 14) (some ⟨.nm, e, h⟩)
 (some ⟨.ex 0, e, h⟩)) fun e h =>
 sq (blk 1 (sq (bd (binK 0 .shr (e.s k40 6) (.int .u64 1)) fun t18 =>
 some ⟨.nm, ⟨[(e.s k40 0), (e.s k40 1), (e.s k40 2), (e.s k40 4), (e.s k40 5), (e.s k40 6), t18, (e.s k40 8)], 7, t18⟩, h⟩) fun e h =>
 sq (bd (ldn 2 h (e.s k40 2)) fun t19 =>
 bc k40 [19, 20, 21, 8] e (K 56 [t19, (e.s k40 7)] h) fun t21 h1 =>
 some ⟨.nm, ⟨[(e.s k40 0), (e.s k40 1), (e.s k40 2), (e.s k40 4), (e.s k40 5), (e.s k40 6), (e.s k40 7), t21], 8, t21⟩, h1⟩) fun e h =>
 sq (sq (bd (binK 0 .rem (e.s k40 6) (.int .i64 2)) fun t23 =>
 bd (binK 0 .neq t23 (.int .i64 0)) fun t24 =>
 some ⟨.nm, ⟨[(e.s k40 0), (e.s k40 1), (e.s k40 2), (e.s k40 4), (e.s k40 5), (e.s k40 6), (e.s k40 7), (e.s k40 8)], 24, t24⟩, h⟩) fun e h =>
 br (e.s k40 24) (bd (ldn 2 h (e.s k40 2)) fun t25 =>
 bd (binK 0 .sub (e.s k40 7) (.int .i64 1)) fun t27 =>
 bn (K 56 [t25, t27] h) fun t28 h1 =>
 bd (ldn 2 h1 (e.s k40 2)) fun t30 =>
 bn (K 56 [t30, (e.s k40 7)] h1) fun t32 h2 =>
 bd (ldn 2 h2 (e.s k40 2)) fun t35 =>
 bd (binK 0 .add (e.s k40 7) (.int .i64 1)) fun t37 =>
 bn (K 56 [t35, t37] h2) fun t38 h3 =>
 bd (ldn 2 h3 (e.s k40 2)) fun t41 =>
 bd (binK 0 .add (e.s k40 7) (.int .i64 2)) fun t43 =>
 bn (K 56 [t41, t43] h3) fun t44 h4 =>
 bd (unV .neg t28) fun t29 =>
 bd (binK 0 .mul (.int .i64 9) t32) fun t33 =>
 bd (binK 0 .add t29 t33) fun t34 =>
 bd (binK 0 .mul (.int .i64 9) t38) fun t39 =>
 bd (binK 0 .add t34 t39) fun t40 =>
 bd (binK 0 .sub t40 t44) fun t45 =>
 bd (binK 0 .add t45 (.int .i64 8)) fun t46 =>
 bd (binK 0 .shr t46 (.int .u64 4)) fun t47 =>
 bn (K 57 [t47, (.int .i64 0), (.int .i64 255)] h4) fun t48 h5 =>
 ck (ldn 2 h (e.s k40 2)) t25 (ck (ldn 2 h (e.s k40 2)) t30 (ck (ldn 2 h1 (e.s k40 2)) t30 (ck (ldn 2 h (e.s k40 2)) t35 (ck (ldn 2 h1 (e.s k40 2)) t35 (ck (ldn 2 h2 (e.s k40 2)) t35 (ck (ldn 2 h (e.s k40 2)) t41 (ck (ldn 2 h1 (e.s k40 2)) t41 (ck (ldn 2 h2 (e.s k40 2)) t41 (ck (ldn 2 h3 (e.s k40 2)) t41 (some ⟨.nm, ⟨[(e.s k40 0), (e.s k40 1), (e.s k40 2), (e.s k40 4), (e.s k40 5), (e.s k40 6), (e.s k40 7), t48], 8, t48⟩, h5⟩)))))))))))
 (some ⟨.nm, e, h⟩)) fun e h =>
 bd (fa 0 (e.s k40 5)) fun t49 =>
 bd (ld h t49) fun t50 =>
 bf (bs h 3 1 [(.int .i64 0)] [(some (0, 1), (e.s k40 8))]) fun t52 h1 =>
 bf (apZ 3 1 8 h1 t50 t52) fun t53 h2 =>
 bd (fa 0 (e.s k40 5)) fun t54 =>
 bf (stZ 1 h2 t54 t53) fun _ h3 =>
 some ⟨.nm, ⟨[(e.s k40 0), (e.s k40 1), (e.s k40 2), (e.s k40 4), (e.s k40 5), (e.s k40 6), (e.s k40 7), (e.s k40 8)], 0, (e.s k40 0)⟩, h3⟩)) fun e h =>
 bd (binK 0 .add (e.s k40 6) (.int .i64 1)) fun t16 =>
 some ⟨.nm, ⟨[(e.s k40 0), (e.s k40 1), (e.s k40 2), (e.s k40 4), (e.s k40 5), t16, (e.s k40 7), (e.s k40 8)], 6, t16⟩, h⟩
noncomputable def s40 (K : Oracle) (L : Looper) (e : E) (h : H) : Out :=
 sq (bf (bx h 68 (e.s k40 0)) fun t2 h1 =>
 bf (nw h1 68 [.nils, (.int .i64 0)]) fun t4 h2 =>
 some ⟨.nm, ⟨[(e.s k40 0), (e.s k40 1), t2, t4, (e.s k40 5), (e.s k40 6), (e.s k40 7), (e.s k40 8)], 4, t4⟩, h2⟩) fun e h =>
 sq (bd (bl [.nils, (.int .i64 0)] [(some (1, 1), (.int .i64 1))]) fun t9 =>
 bf (nw h 68 [.nils, (.int .i64 0)]) fun t5 h1 =>
 bf (stZ 2 h1 t5 t9) fun _ h2 =>
 some ⟨.nm, ⟨[(e.s k40 0), (e.s k40 1), (e.s k40 2), (e.s k40 4), t5, (e.s k40 6), (e.s k40 7), (e.s k40 8)], 0, (e.s k40 0)⟩, h2⟩) fun e h =>
 sq (sq (some ⟨.nm, ⟨[(e.s k40 0), (e.s k40 1), (e.s k40 2), (e.s k40 4), (e.s k40 5), (.int .i64 (-4)), (e.s k40 7), (e.s k40 8)], 6, (.int .i64 (-4))⟩, h⟩) fun e h =>
 blk 0 (L (l40_0 K L) e h)) fun e h =>
 sq (bd (ldn 2 h (e.s k40 5)) fun t55 =>
 bf (stZ 2 h (e.s k40 4) t55) fun _ h1 =>
 some ⟨.nm, ⟨[(e.s k40 0), (e.s k40 1), (e.s k40 2), (e.s k40 4), (e.s k40 5), (e.s k40 6), (e.s k40 7), (e.s k40 8)], 0, (e.s k40 0)⟩, h1⟩) fun e h =>
 some ⟨.rt, e, h⟩
noncomputable def f40 (K : Oracle) (L : Looper) (p0 p1 : V) (h : H) : Option (Rv × H) := fin Try.prog k40 [.cell 4 68] (s40 K L ⟨[p0, p1, V.und, V.und, V.und, V.und, V.und, V.und], 0, p0⟩ h)
theorem r40 : (fun K L p0 p1 h => runFF Try.prog kp K L 40 [p0, p1] h) = f40 := by kernel_rfl
theorem c40 (p0 p1 : V) (h : H) : callZ Try.prog kp 40 [p0, p1] h = f40 (callZ Try.prog kp) loopZ p0 p1 h :=
  (callZ_eqF _ _ _ _ _).trans (congrFun (congrFun (congrFun (congrFun (congrFun (r40) _) _) p0) p1) h)

/-- zoetrope/zoetroperef12.dc -/
@[simp] def k41 : List Nat := [0, 1, 3, 4, 5, 6, 7]
noncomputable def l41_0 (K : Oracle) (L : Looper) (e : E) (h : H) : Out :=
 sq (sq (bd (binK 0 .lss (e.s k41 7) (e.s k41 0)) fun t10 =>
 some ⟨.nm, ⟨[(e.s k41 0), (e.s k41 1), (e.s k41 3), (e.s k41 4), (e.s k41 5), (e.s k41 6), (e.s k41 7)], 10, t10⟩, h⟩) fun e h =>
 br (e.s k41 10) (some ⟨.nm, e, h⟩)
 (some ⟨.ex 0, e, h⟩)) fun e h =>
 sq (blk 1 (sq (sq (bd (fa 0 (e.s k41 3)) fun t13 =>
 bd (ld h t13) fun t14 =>
 some ⟨.nm, ⟨[(e.s k41 0), (e.s k41 1), (e.s k41 3), (e.s k41 4), (e.s k41 5), (e.s k41 6), (e.s k41 7)], 14, t14⟩, h⟩) fun e h =>
 br (e.s k41 14) (sq (bd (fa 2 (e.s k41 3)) fun t16 =>
 bd (ld h t16) fun t17 =>
 bd (iaS 1 t17 (e.s k41 7)) fun t19 =>
 bd (ld h t19) fun t20 =>
 bd (cv .i64 t20) fun t21 =>
 bd (binK 0 .add (e.s k41 5) t21) fun t22 =>
 some ⟨.nm, ⟨[(e.s k41 0), (e.s k41 1), (e.s k41 3), (e.s k41 4), t22, (e.s k41 6), (e.s k41 7)], 5, t22⟩, h⟩) fun e h =>
 bd (binK 0 .add (e.s k41 6) (.int .i64 1)) fun t24 =>
 some ⟨.nm, ⟨[(e.s k41 0), (e.s k41 1), (e.s k41 3), (e.s k41 4), (e.s k41 5), t24, (e.s k41 7)], 6, t24⟩, h⟩)
 (some ⟨.nm, e, h⟩)) fun e h =>
 sq (bd (fa 1 (e.s k41 3)) fun t25 =>
 bd (ld h t25) fun t26 =>
 some ⟨.nm, ⟨[(e.s k41 0), (e.s k41 1), (e.s k41 3), (e.s k41 4), (e.s k41 5), (e.s k41 6), (e.s k41 7)], 26, t26⟩, h⟩) fun e h =>
 br (e.s k41 26) (sq (bd (fa 3 (e.s k41 3)) fun t28 =>
 bd (ld h t28) fun t29 =>
 bd (iaS 1 t29 (e.s k41 7)) fun t31 =>
 bd (ld h t31) fun t32 =>
 bd (cv .i64 t32) fun t33 =>
 bd (binK 0 .add (e.s k41 5) t33) fun t34 =>
 some ⟨.nm, ⟨[(e.s k41 0), (e.s k41 1), (e.s k41 3), (e.s k41 4), t34, (e.s k41 6), (e.s k41 7)], 5, t34⟩, h⟩) fun e h =>
 bd (binK 0 .add (e.s k41 6) (.int .i64 1)) fun t36 =>
 some ⟨.nm, ⟨[(e.s k41 0), (e.s k41 1), (e.s k41 3), (e.s k41 4), (e.s k41 5), t36, (e.s k41 7)], 6, t36⟩, h⟩)
 (some ⟨.nm, e, h⟩))) fun e h =>
 bd (binK 0 .add (e.s k41 7) (.int .i64 1)) fun t12 =>
 some ⟨.nm, ⟨[(e.s k41 0), (e.s k41 1), (e.s k41 3), (e.s k41 4), (e.s k41 5), (e.s k41 6), t12], 7, t12⟩, h⟩
noncomputable def s41 (K : Oracle) (L : Looper) (e : E) (h : H) : Out :=
 sq (bf (bx h 25 (e.s k41 1)) fun t3 h1 =>
 some ⟨.nm, ⟨[(e.s k41 0), (e.s k41 1), t3, (.int .i64 0), (e.s k41 5), (e.s k41 6), (e.s k41 7)], 4, (.int .i64 0)⟩, h1⟩) fun e h =>
 sq (some ⟨.nm, ⟨[(e.s k41 0), (e.s k41 1), (e.s k41 3), (e.s k41 4), (.int .i64 0), (.int .i64 0), (e.s k41 7)], 6, (.int .i64 0)⟩, h⟩) fun e h =>
 sq (sq (some ⟨.nm, ⟨[(e.s k41 0), (e.s k41 1), (e.s k41 3), (e.s k41 4), (e.s k41 5), (e.s k41 6), (.int .i64 0)], 7, (.int .i64 0)⟩, h⟩) fun e h =>
 blk 0 (L (l41_0 K L) e h)) fun e h =>
 sq (sq (bd (binK 0 .eql (e.s k41 6) (.int .i64 0)) fun t38 =>
 some ⟨.nm, ⟨[(e.s k41 0), (e.s k41 1), (e.s k41 3), (e.s k41 4), (e.s k41 5), (e.s k41 6), (e.s k41 7)], 38, t38⟩, h⟩) fun e h =>
 br (e.s k41 38) (sq (some ⟨.nm, ⟨[(e.s k41 0), (e.s k41 1), (e.s k41 3), (.int .i64 128), (e.s k41 5), (e.s k41 6), (e.s k41 7)], 4, (.int .i64 128)⟩, h⟩) fun e h =>
 some ⟨.rt, e, h⟩)
 (some ⟨.nm, e, h⟩)) fun e h =>
 sq (bd (binK 0 .quo (e.s k41 6) (.int .i64 2)) fun t41 =>
 bd (binK 0 .add (e.s k41 5) t41) fun t42 =>
 bd (binK 0 .quo t42 (e.s k41 6)) fun t44 =>
 some ⟨.nm, ⟨[(e.s k41 0), (e.s k41 1), (e.s k41 3), t44, (e.s k41 5), (e.s k41 6), (e.s k41 7)], 4, t44⟩, h⟩) fun e h =>
 some ⟨.rt, e, h⟩
noncomputable def f41 (K : Oracle) (L : Looper) (p0 p1 : V) (h : H) : Option (Rv × H) := fin Try.prog k41 [.tmp 4] (s41 K L ⟨[p0, p1, V.und, V.und, V.und, V.und, V.und], 0, p0⟩ h)
theorem r41 : (fun K L p0 p1 h => runFF Try.prog kp K L 41 [p0, p1] h) = f41 := by kernel_rfl
theorem c41 (p0 p1 : V) (h : H) : callZ Try.prog kp 41 [p0, p1] h = f41 (callZ Try.prog kp) loopZ p0 p1 h :=
  (callZ_eqF _ _ _ _ _).trans (congrFun (congrFun (congrFun (congrFun (congrFun (r41) _) _) p0) p1) h)

/-- zoetrope/zoetroperef12.near -/
@[simp] def k42 : List Nat := [0, 1, 2, 6, 7, 8, 9, 10]
noncomputable def s42 (K : Oracle) (L : Looper) (e : E) (h : H) : Out :=
 sq (some ⟨.nm, ⟨[(e.s k42 0), (e.s k42 1), (e.s k42 2), (.int .i64 0), (e.s k42 7), (e.s k42 8), (e.s k42 9), (e.s k42 10)], 6, (.int .i64 0)⟩, h⟩) fun e h =>
 sq (bd (binK 0 .add (e.s k42 0) (e.s k42 1)) fun t13 =>
 bd (binK 0 .sub t13 (e.s k42 2)) fun t15 =>
 some ⟨.nm, ⟨[(e.s k42 0), (e.s k42 1), (e.s k42 2), (e.s k42 6), t15, (e.s k42 8), (e.s k42 9), (e.s k42 10)], 7, t15⟩, h⟩) fun e h =>
 sq (bd (binK 0 .sub (e.s k42 0) (e.s k42 7)) fun t18 =>
 bc k42 [16, 17, 18, 19, 20, 21, 22, 23, 24, 25, 26, 27, 8, 9, 10] e (K 58 [t18] h) fun t19 h1 =>
 bd (binK 0 .sub (e.s k42 1) (e.s k42 7)) fun t22 =>
 bc k42 [16, 17, 18, 19, 20, 21, 22, 23, 24, 25, 26, 27, 8, 9, 10] e (K 58 [t22] h1) fun t23 h2 =>
 bd (binK 0 .sub (e.s k42 2) (e.s k42 7)) fun t26 =>
 bc k42 [16, 17, 18, 19, 20, 21, 22, 23, 24, 25, 26, 27, 8, 9, 10] e (K 58 [t26] h2) fun t27 h3 =>
 some ⟨.nm, ⟨[(e.s k42 0), (e.s k42 1), (e.s k42 2), (e.s k42 6), (e.s k42 7), t19, t23, t27], 10, t27⟩, h3⟩) fun e h =>
 sq (sq (bd (binK 0 .leq (e.s k42 8) (e.s k42 9)) fun t30 =>
 bd (gl t30 true (some (e.s k42 8))) fun t32 =>
 bd (gl t30 true (some (e.s k42 10))) fun t33 =>
 bd (gl t30 true (binK 0 .leq t32 t33)) fun t34 =>
 bd (pk t30 t34 (.bool false)) fun t35 =>
 some ⟨.nm, ⟨[(e.s k42 0), (e.s k42 1), (e.s k42 2), (e.s k42 6), (e.s k42 7), (e.s k42 8), (e.s k42 9), (e.s k42 10)], 35, t35⟩, h⟩) fun e h =>
 br (e.s k42 35) (sq (some ⟨.nm, ⟨[(e.s k42 0), (e.s k42 1), (e.s k42 2), (e.s k42 0), (e.s k42 7), (e.s k42 8), (e.s k42 9), (e.s k42 10)], 6, (e.s k42 0)⟩, h⟩) fun e h =>
 some ⟨.rt, e, h⟩)
 (some ⟨.nm, e, h⟩)) fun e h =>
 sq (sq (bd (binK 0 .leq (e.s k42 9) (e.s k42 10)) fun t39 =>
 some ⟨.nm, ⟨[(e.s k42 0), (e.s k42 1), (e.s k42 2), (e.s k42 6), (e.s k42 7), (e.s k42 8), (e.s k42 9), (e.s k42 10)], 39, t39⟩, h⟩) fun e h =>
 br (e.s k42 39) (sq (some ⟨.nm, ⟨[(e.s k42 0), (e.s k42 1), (e.s k42 2), (e.s k42 1), (e.s k42 7), (e.s k42 8), (e.s k42 9), (e.s k42 10)], 6, (e.s k42 1)⟩, h⟩) fun e h =>
 some ⟨.rt, e, h⟩)
 (some ⟨.nm, e, h⟩)) fun e h =>
 sq (some ⟨.nm, ⟨[(e.s k42 0), (e.s k42 1), (e.s k42 2), (e.s k42 2), (e.s k42 7), (e.s k42 8), (e.s k42 9), (e.s k42 10)], 6, (e.s k42 2)⟩, h⟩) fun e h =>
 some ⟨.rt, e, h⟩
noncomputable def f42 (K : Oracle) (L : Looper) (p0 p1 p2 : V) (h : H) : Option (Rv × H) := fin Try.prog k42 [.tmp 6] (s42 K L ⟨[p0, p1, p2, V.und, V.und, V.und, V.und, V.und], 0, p0⟩ h)
theorem r42 : (fun K L p0 p1 p2 h => runFF Try.prog kp K L 42 [p0, p1, p2] h) = f42 := by kernel_rfl
theorem c42 (p0 p1 p2 : V) (h : H) : callZ Try.prog kp 42 [p0, p1, p2] h = f42 (callZ Try.prog kp) loopZ p0 p1 p2 h :=
  (callZ_eqF _ _ _ _ _).trans (congrFun (congrFun (congrFun (congrFun (congrFun (congrFun (r42) _) _) p0) p1) p2) h)

/-- zoetrope/zoetroperef12.soft -/
@[simp] def k43 : List Nat := [0, 1, 2, 3, 4, 7, 10, 11, 12, 13, 14, 61]
noncomputable def s43 (K : Oracle) (L : Looper) (e : E) (h : H) : Out :=
 sq (bf (bx h 65 (e.s k43 2)) fun t7 h1 =>
 some ⟨.nm, ⟨[(e.s k43 0), (e.s k43 1), (e.s k43 2), (e.s k43 3), (e.s k43 4), t7, (.int .i64 0), (e.s k43 11), (e.s k43 12), (e.s k43 13), (e.s k43 14), (e.s k43 61)], 10, (.int .i64 0)⟩, h1⟩) fun e h =>
 sq (bd (binK 0 .mul (.int .i64 224) (e.s k43 3)) fun t16 =>
 bd (binK 0 .sub (e.s k43 0) (.int .i64 1)) fun t18 =>
 bd (binK 0 .quo t16 t18) fun t19 =>
 bd (binK 0 .sub (.int .i64 255) t19) fun t20 =>
 bd (binK 0 .mul (.int .i64 224) (e.s k43 4)) fun t22 =>
 bd (binK 0 .sub (e.s k43 0) (.int .i64 1)) fun t24 =>
 bd (binK 0 .quo t22 t24) fun t25 =>
 bd (binK 0 .sub (.int .i64 255) t25) fun t26 =>
 some ⟨.nm, ⟨[(e.s k43 0), (e.s k43 1), (e.s k43 2), (e.s k43 3), (e.s k43 4), (e.s k43 7), (e.s k43 10), t20, t26, (e.s k43 13), (e.s k43 14), (e.s k43 61)], 12, t26⟩, h⟩) fun e h =>
 sq (bd (fa 0 (e.s k43 7)) fun t28 =>
 bd (ld h t28) fun t29 =>
 bd (iaS 1 t29 (e.s k43 3)) fun t31 =>
 bd (ld h t31) fun t32 =>
 bd (binK 0 .mul (e.s k43 12) t32) fun t33 =>
 bd (binK 0 .sub (.int .i64 256) (e.s k43 12)) fun t35 =>
 bd (fa 1 (e.s k43 7)) fun t36 =>
 bd (ld h t36) fun t37 =>
 bd (binK 0 .sub (e.s k43 0) (.int .i64 1)) fun t39 =>
 bd (iaS 1 t37 t39) fun t40 =>
 bd (ld h t40) fun t41 =>
 bd (binK 0 .mul t35 t41) fun t42 =>
 bd (binK 0 .add t33 t42) fun t43 =>
 ck (ld h t28) t29 (ck (ld h t31) t32 (ck (ld h t36) t37 (ck (ld h t40) t41 (some ⟨.nm, ⟨[(e.s k43 0), (e.s k43 1), (e.s k43 2), (e.s k43 3), (e.s k43 4), (e.s k43 7), (e.s k43 10), (e.s k43 11), (e.s k43 12), t43, (e.s k43 14), (e.s k43 61)], 13, t43⟩, h⟩))))) fun e h =>
 sq (bd (fa 1 (e.s k43 7)) fun t45 =>
 bd (ld h t45) fun t46 =>
 bd (iaS 1 t46 (e.s k43 4)) fun t48 =>
 bd (ld h t48) fun t49 =>
 bd (binK 0 .mul (e.s k43 11) t49) fun t50 =>
 bd (binK 0 .sub (.int .i64 256) (e.s k43 11)) fun t52 =>
 bd (fa 0 (e.s k43 7)) fun t53 =>
 bd (ld h t53) fun t54 =>
 bd (binK 0 .sub (e.s k43 0) (.int .i64 1)) fun t56 =>
 bd (iaS 1 t54 t56) fun t57 =>
 bd (ld h t57) fun t58 =>
 bd (binK 0 .mul t52 t58) fun t59 =>
 bd (binK 0 .add t50 t59) fun t60 =>
 ck (ld h t45) t46 (ck (ld h t48) t49 (ck (ld h t53) t54 (ck (ld h t57) t58 (some ⟨.nm, ⟨[(e.s k43 0), (e.s k43 1), (e.s k43 2), (e.s k43 3), (e.s k43 4), (e.s k43 7), (e.s k43 10), (e.s k43 11), (e.s k43 12), (e.s k43 13), t60, (e.s k43 61)], 14, t60⟩, h⟩))))) fun e h =>
 sq (sq (some ⟨.nm, ⟨[(e.s k43 0), (e.s k43 1), (e.s k43 2), (e.s k43 3), (e.s k43 4), (e.s k43 7), (e.s k43 10), (e.s k43 11), (e.s k43 12), (e.s k43 13), (e.s k43 14), (e.s k43 1)], 61, (e.s k43 1)⟩, h⟩) fun e h =>
 blk 0 (sq (bd (binK 0 .eql (e.s k43 61) (.int .i64 10)) fun t63 =>
 some ⟨.nm, ⟨[(e.s k43 0), (e.s k43 1), (e.s k43 2), (e.s k43 3), (e.s k43 4), (e.s k43 7), (e.s k43 10), (e.s k43 11), (e.s k43 12), (e.s k43 13), (e.s k43 14), (e.s k43 61)], 62, t63⟩, h⟩) fun e h =>
 br (e.s k43 62) (sq (bd (binK 0 .add (e.s k43 13) (.int .i64 128)) fun t65 =>
 bd (binK 0 .shr t65 (.int .u64 8)) fun t66 =>
 some ⟨.nm, ⟨[(e.s k43 0), (e.s k43 1), (e.s k43 2), (e.s k43 3), (e.s k43 4), (e.s k43 7), t66, (e.s k43 11), (e.s k43 12), (e.s k43 13), (e.s k43 14), (e.s k43 61)], 10, t66⟩, h⟩) fun e h =>
 some ⟨.rt, e, h⟩)
 (sq (bd (binK 0 .eql (e.s k43 61) (.int .i64 11)) fun t68 =>
 some ⟨.nm, ⟨[(e.s k43 0), (e.s k43 1), (e.s k43 2), (e.s k43 3), (e.s k43 4), (e.s k43 7), (e.s k43 10), (e.s k43 11), (e.s k43 12), (e.s k43 13), (e.s k43 14), (e.s k43 61)], 67, t68⟩, h⟩) fun e h =>
 br (e.s k43 67) (sq (bd (binK 0 .add (e.s k43 14) (.int .i64 128)) fun t70 =>
 bd (binK 0 .shr t70 (.int .u64 8)) fun t71 =>
 some ⟨.nm, ⟨[(e.s k43 0), (e.s k43 1), (e.s k43 2), (e.s k43 3), (e.s k43 4), (e.s k43 7), t71, (e.s k43 11), (e.s k43 12), (e.s k43 13), (e.s k43 14), (e.s k43 61)], 10, t71⟩, h⟩) fun e h =>
 some ⟨.rt, e, h⟩)
 (some ⟨.nm, e, h⟩)))) fun e h =>
 sq (bd (binK 0 .add (e.s k43 13) (e.s k43 14)) fun t74 =>
 bd (binK 0 .add t74 (.int .i64 256)) fun t75 =>
 bd (binK 0 .shr t75 (.int .u64 9)) fun t76 =>
 some ⟨.nm, ⟨[(e.s k43 0), (e.s k43 1), (e.s k43 2), (e.s k43 3), (e.s k43 4), (e.s k43 7), t76, (e.s k43 11), (e.s k43 12), (e.s k43 13), (e.s k43 14), (e.s k43 61)], 10, t76⟩, h⟩) fun e h =>
 some ⟨.rt, e, h⟩
noncomputable def f43 (K : Oracle) (L : Looper) (p0 p1 p2 p3 p4 : V) (h : H) : Option (Rv × H) := fin Try.prog k43 [.tmp 10] (s43 K L ⟨[p0, p1, p2, p3, p4, V.und, V.und, V.und, V.und, V.und, V.und, V.und], 0, p0⟩ h)
theorem r43 : (fun K L p0 p1 p2 p3 p4 h => runFF Try.prog kp K L 43 [p0, p1, p2, p3, p4] h) = f43 := by kernel_rfl
theorem c43 (p0 p1 p2 p3 p4 : V) (h : H) : callZ Try.prog kp 43 [p0, p1, p2, p3, p4] h = f43 (callZ Try.prog kp) loopZ p0 p1 p2 p3 p4 h :=
  (callZ_eqF _ _ _ _ _).trans (congrFun (congrFun (congrFun (congrFun (congrFun (congrFun (congrFun (congrFun (r43) _) _) p0) p1) p2) p3) p4) h)

/-- zoetrope/zoetroperef12.slanted -/
@[simp] def k44 : List Nat := [0, 1, 2, 3, 4, 5, 8, 9, 12, 13]
noncomputable def s44 (K : Oracle) (L : Looper) (e : E) (h : H) : Out :=
 sq (bf (bx h 68 (e.s k44 2)) fun t8 h1 =>
 bf (bx h1 68 (e.s k44 3)) fun t9 h2 =>
 some ⟨.nm, ⟨[(e.s k44 0), (e.s k44 1), (e.s k44 2), (e.s k44 3), (e.s k44 4), (e.s k44 5), t8, t9, (.int .i64 0), (e.s k44 13)], 12, (.int .i64 0)⟩, h2⟩) fun e h =>
 sq (blk 0 (sq (bd (binK 0 .lss (e.s k44 1) (.int .i64 90)) fun t16 =>
 some ⟨.nm, ⟨[(e.s k44 0), (e.s k44 1), (e.s k44 2), (e.s k44 3), (e.s k44 4), (e.s k44 5), (e.s k44 8), (e.s k44 9), (e.s k44 12), (e.s k44 13)], 14, t16⟩, h⟩) fun e h =>
 br (e.s k44 14) (sq (bn (K 60 [(e.s k44 1)] h) fun t22 h1 =>
 bd (ldn 2 h1 (e.s k44 8)) fun t17 =>
 bd (binK 0 .add (e.s k44 5) (.int .i64 1)) fun t20 =>
 bd (binK 0 .mul t20 t22) fun t23 =>
 bn (K 59 [t17, (e.s k44 0), t23, (e.s k44 4)] h1) fun t25 h2 =>
 ck (ldn 2 h (e.s k44 8)) t17 (ck (ldn 2 h1 (e.s k44 8)) t17 (some ⟨.nm, ⟨[(e.s k44 0), (e.s k44 1), (e.s k44 2), (e.s k44 3), (e.s k44 4), (e.s k44 5), (e.s k44 8), (e.s k44 9), t25, (e.s k44 13)], 12, t25⟩, h2⟩))) fun e h =>
 some ⟨.rt, e, h⟩)
 (sq (bd (binK 0 .gtr (e.s k44 1) (.int .i64 180)) fun t28 =>
 some ⟨.nm, ⟨[(e.s k44 0), (e.s k44 1), (e.s k44 2), (e.s k44 3), (e.s k44 4), (e.s k44 5), (e.s k44 8), (e.s k44 9), (e.s k44 12), (e.s k44 13)], 26, t28⟩, h⟩) fun e h =>
 br (e.s k44 26) (sq (bd (binK 0 .sub (.int .i64 270) (e.s k44 1)) fun t34 =>
 bn (K 60 [t34] h) fun t35 h1 =>
 bd (ldn 2 h1 (e.s k44 9)) fun t29 =>
 bd (binK 0 .add (e.s k44 4) (.int .i64 1)) fun t32 =>
 bd (binK 0 .mul t32 t35) fun t36 =>
 bn (K 59 [t29, (e.s k44 0), t36, (e.s k44 5)] h1) fun t38 h2 =>
 ck (ldn 2 h (e.s k44 9)) t29 (ck (ldn 2 h1 (e.s k44 9)) t29 (some ⟨.nm, ⟨[(e.s k44 0), (e.s k44 1), (e.s k44 2), (e.s k44 3), (e.s k44 4), (e.s k44 5), (e.s k44 8), (e.s k44 9), t38, (e.s k44 13)], 12, t38⟩, h2⟩))) fun e h =>
 some ⟨.rt, e, h⟩)
 (some ⟨.nm, e, h⟩)))) fun e h =>
 sq (bd (binK 0 .mul (.int .i64 64) (e.s k44 4)) fun t40 =>
 bd (binK 0 .add (e.s k44 5) (.int .i64 1)) fun t42 =>
 bd (binK 0 .sub (.int .i64 180) (e.s k44 1)) fun t44 =>
 bc k44 [39, 40, 41, 42, 43, 44, 45, 46, 47, 13] e (K 60 [t44] h) fun t45 h1 =>
 bd (binK 0 .mul t42 t45) fun t46 =>
 bd (binK 0 .sub t40 t46) fun t47 =>
 some ⟨.nm, ⟨[(e.s k44 0), (e.s k44 1), (e.s k44 2), (e.s k44 3), (e.s k44 4), (e.s k44 5), (e.s k44 8), (e.s k44 9), (e.s k44 12), t47], 13, t47⟩, h1⟩) fun e h =>
 sq (sq (bd (fa 1 (e.s k44 8)) fun t49 =>
 bd (ld h t49) fun t50 =>
 bd (binK 0 .sub (.int .i64 6) t50) fun t51 =>
 bd (binK 0 .shr (e.s k44 13) t51) fun t52 =>
 bd (fa 1 (e.s k44 8)) fun t53 =>
 bd (ld h t53) fun t54 =>
 bd (binK 0 .shl (.int .i64 (-1)) t54) fun t55 =>
 bd (binK 0 .geq t52 t55) fun t56 =>
 ck (ld h t49) t50 (ck (ld h t53) t54 (some ⟨.nm, ⟨[(e.s k44 0), (e.s k44 1), (e.s k44 2), (e.s k44 3), (e.s k44 4), (e.s k44 5), (e.s k44 8), (e.s k44 9), (e.s k44 12), (e.s k44 13)], 56, t56⟩, h⟩))) fun e h =>
 br (e.s k44 56) (sq (bd (ldn 2 h (e.s k44 8)) fun t57 =>
 bc k44 [57, 58, 59, 60, 12] e (K 59 [t57, (e.s k44 0), (e.s k44 13), (.int .i64 0)] h) fun t60 h1 =>
 some ⟨.nm, ⟨[(e.s k44 0), (e.s k44 1), (e.s k44 2), (e.s k44 3), (e.s k44 4), (e.s k44 5), (e.s k44 8), (e.s k44 9), t60, (e.s k44 13)], 12, t60⟩, h1⟩) fun e h =>
 some ⟨.rt, e, h⟩)
 (some ⟨.nm, e, h⟩)) fun e h =>
 sq (bd (binK 0 .sub (e.s k44 1) (.int .i64 90)) fun t68 =>
 bn (K 60 [t68] h) fun t69 h1 =>
 bd (ldn 2 h1 (e.s k44 9)) fun t61 =>
 bd (binK 0 .mul (.int .i64 64) (e.s k44 5)) fun t64 =>
 bd (binK 0 .add (e.s k44 4) (.int .i64 1)) fun t66 =>
 bd (binK 0 .mul t66 t69) fun t70 =>
 bd (binK 0 .sub t64 t70) fun t71 =>
 bn (K 59 [t61, (e.s k44 0), t71, (.int .i64 0)] h1) fun t72 h2 =>
 ck (ldn 2 h (e.s k44 9)) t61 (ck (ldn 2 h1 (e.s k44 9)) t61 (some ⟨.nm, ⟨[(e.s k44 0), (e.s k44 1), (e.s k44 2), (e.s k44 3), (e.s k44 4), (e.s k44 5), (e.s k44 8), (e.s k44 9), t72, (e.s k44 13)], 12, t72⟩, h2⟩))) fun e h =>
 some ⟨.rt, e, h⟩
noncomputable def f44 (K : Oracle) (L : Looper) (p0 p1 p2 p3 p4 p5 : V) (h : H) : Option (Rv × H) := fin Try.prog k44 [.tmp 12] (s44 K L ⟨[p0, p1, p2, p3, p4, p5, V.und, V.und, V.und, V.und], 0, p0⟩ h)
theorem r44 : (fun K L p0 p1 p2 p3 p4 p5 h => runFF Try.prog kp K L 44 [p0, p1, p2, p3, p4, p5] h) = f44 := by kernel_rfl
theorem c44 (p0 p1 p2 p3 p4 p5 : V) (h : H) : callZ Try.prog kp 44 [p0, p1, p2, p3, p4, p5] h = f44 (callZ Try.prog kp) loopZ p0 p1 p2 p3 p4 p5 h :=
  (callZ_eqF _ _ _ _ _).trans (congrFun (congrFun (congrFun (congrFun (congrFun (congrFun (congrFun (congrFun (congrFun (r44) _) _) p0) p1) p2) p3) p4) p5) h)

/-- zoetrope/zoetropelaw12.stretched -/
@[simp] def k45 : List Nat := [0, 1, 4, 5, 6]
noncomputable def l45_0 (K : Oracle) (L : Looper) (e : E) (h : H) : Out :=
 sq (sq (bd (binK 0 .lss (e.s k45 6) (e.s k45 1)) fun t11 =>
 some ⟨.nm, ⟨[(e.s k45 0), (e.s k45 1), (e.s k45 4), (e.s k45 5), (e.s k45 6)], 11, t11⟩, h⟩) fun e h =>
 br (e.s k45 11) (some ⟨.nm, e, h⟩)
 (some ⟨.ex 0, e, h⟩)) fun e h =>
 sq (blk 1 (sq (bd (binK 0 .mul (.int .i64 9) (e.s k45 6)) fun t17 =>
 bd (cv .u8 t17) fun t18 =>
 bd (iaS 1 (e.s k45 5) (e.s k45 6)) fun t19 =>
 bf (stZ 1 h t19 t18) fun _ h1 =>
 some ⟨.nm, ⟨[(e.s k45 0), (e.s k45 1), (e.s k45 4), (e.s k45 5), (e.s k45 6)], 0, (e.s k45 0)⟩, h1⟩) fun e h =>
 sq (bd (lnS (e.s k45 0)) fun t21 =>
 bd (binK 0 .gtr t21 (.int .i64 0)) fun t22 =>
 some ⟨.nm, ⟨[(e.s k45 0), (e.s k45 1), (e.s k45 4), (e.s k45 5), (e.s k45 6)], 22, t22⟩, h⟩) fun e h =>
 br (e.s k45 22) (bd (lnS (e.s k45 0)) fun t28 =>
 bd (binK 0 .rem (e.s k45 6) t28) fun t29 =>
 bd (iaS 1 (e.s k45 0) t29) fun t30 =>
 bd (ld h t30) fun t31 =>
 bd (iaS 1 (e.s k45 5) (e.s k45 6)) fun t32 =>
 bf (stZ 1 h t32 t31) fun _ h1 =>
 some ⟨.nm, ⟨[(e.s k45 0), (e.s k45 1), (e.s k45 4), (e.s k45 5), (e.s k45 6)], 0, (e.s k45 0)⟩, h1⟩)
 (some ⟨.nm, e, h⟩))) fun e h =>
 bd (binK 0 .add (e.s k45 6) (.int .i64 1)) fun t13 =>
 some ⟨.nm, ⟨[(e.s k45 0), (e.s k45 1), (e.s k45 4), (e.s k45 5), t13], 6, t13⟩, h⟩
noncomputable def s45 (K : Oracle) (L : Looper) (e : E) (h : H) : Out :=
 sq (some ⟨.nm, ⟨[(e.s k45 0), (e.s k45 1), .nils, (e.s k45 5), (e.s k45 6)], 4, .nils⟩, h⟩) fun e h =>
 sq (bf (ms h 5 1 [(.int .u8 0)] (e.s k45 1) (e.s k45 1)) fun t8 h1 =>
 some ⟨.nm, ⟨[(e.s k45 0), (e.s k45 1), (e.s k45 4), t8, (e.s k45 6)], 5, t8⟩, h1⟩) fun e h =>
 sq (sq (some ⟨.nm, ⟨[(e.s k45 0), (e.s k45 1), (e.s k45 4), (e.s k45 5), (.int .i64 0)], 6, (.int .i64 0)⟩, h⟩) fun e h =>
 blk 0 (L (l45_0 K L) e h)) fun e h =>
 sq (some ⟨.nm, ⟨[(e.s k45 0), (e.s k45 1), (e.s k45 5), (e.s k45 5), (e.s k45 6)], 4, (e.s k45 5)⟩, h⟩) fun e h =>
 some ⟨.rt, e, h⟩
noncomputable def f45 (K : Oracle) (L : Looper) (p0 p1 : V) (h : H) : Option (Rv × H) := fin Try.prog k45 [.tmp 4] (s45 K L ⟨[p0, p1, V.und, V.und, V.und], 0, p0⟩ h)
theorem r45 : (fun K L p0 p1 h => runFF Try.prog kp K L 45 [p0, p1] h) = f45 := by kernel_rfl
theorem c45 (p0 p1 : V) (h : H) : callZ Try.prog kp 45 [p0, p1] h = f45 (callZ Try.prog kp) loopZ p0 p1 h :=
  (callZ_eqF _ _ _ _ _).trans (congrFun (congrFun (congrFun (congrFun (congrFun (r45) _) _) p0) p1) h)

/-- zoetrope/intra.of -/
@[simp] def k46 : List Nat := [0, 1, 2, 3, 4]
noncomputable def s46 (K : Oracle) (L : Looper) (e : E) (h : H) : Out :=
 sq (bf (bx h 23 (e.s k46 0)) fun t2 h1 =>
 bf (bx h1 3 (e.s k46 1)) fun t3 h2 =>
 some ⟨.nm, ⟨[(e.s k46 0), (e.s k46 1), t2, t3, .nilf], 4, .nilf⟩, h2⟩) fun e h =>
 sq (bd (some (.fn (.func 61) [] [(e.s k46 3), (e.s k46 2)])) fun t5 =>
 some ⟨.nm, ⟨[(e.s k46 0), (e.s k46 1), (e.s k46 2), (e.s k46 3), t5], 4, t5⟩, h⟩) fun e h =>
 some ⟨.rt, e, h⟩
noncomputable def f46 (K : Oracle) (L : Looper) (p0 p1 : V) (h : H) : Option (Rv × H) := fin Try.prog k46 [.tmp 4] (s46 K L ⟨[p0, p1, V.und, V.und, V.und], 0, p0⟩ h)
theorem r46 : (fun K L p0 p1 h => runFF Try.prog kp K L 46 [p0, p1] h) = f46 := by kernel_rfl
theorem c46 (p0 p1 : V) (h : H) : callZ Try.prog kp 46 [p0, p1] h = f46 (callZ Try.prog kp) loopZ p0 p1 h :=
  (callZ_eqF _ _ _ _ _).trans (congrFun (congrFun (congrFun (congrFun (congrFun (r46) _) _) p0) p1) h)

/-- zoetrope/intra.flat -/
@[simp] def k47 : List Nat := [0, 1, 4]
noncomputable def s47 (K : Oracle) (L : Looper) (e : E) (h : H) : Out :=
 sq (some ⟨.nm, ⟨[(e.s k47 0), (e.s k47 1), .nilf], 4, .nilf⟩, h⟩) fun e h =>
 sq (bd (cv .u8 (e.s k47 0)) fun t6 =>
 bf (bs h 5 1 [(.int .u8 0)] [(some (0, 1), t6)]) fun t7 h1 =>
 bc k47 [5, 6, 7, 8, 9, 4] e (K 46 [t7, (e.s k47 1)] h1) fun t9 h2 =>
 some ⟨.nm, ⟨[(e.s k47 0), (e.s k47 1), t9], 4, t9⟩, h2⟩) fun e h =>
 some ⟨.rt, e, h⟩
noncomputable def f47 (K : Oracle) (L : Looper) (p0 p1 : V) (h : H) : Option (Rv × H) := fin Try.prog k47 [.tmp 4] (s47 K L ⟨[p0, p1, V.und], 0, p0⟩ h)
theorem r47 : (fun K L p0 p1 h => runFF Try.prog kp K L 47 [p0, p1] h) = f47 := by kernel_rfl
theorem c47 (p0 p1 : V) (h : H) : callZ Try.prog kp 47 [p0, p1] h = f47 (callZ Try.prog kp) loopZ p0 p1 h :=
  (callZ_eqF _ _ _ _ _).trans (congrFun (congrFun (congrFun (congrFun (congrFun (r47) _) _) p0) p1) h)

/-- (zoetrope/intra.block).smooth -/
@[simp] def k48 : List Nat := [0, 1, 2, 3, 4, 5]
noncomputable def s48 (K : Oracle) (L : Looper) (e : E) (h : H) : Out :=
 sq (bf (bx h 59 (e.s k48 0)) fun t2 h1 =>
 bf (bx h1 57 (e.s k48 1)) fun t3 h2 =>
 some ⟨.nm, ⟨[(e.s k48 0), (e.s k48 1), t2, t3, .nilf, (e.s k48 5)], 4, .nilf⟩, h2⟩) fun e h =>
 sq (bd (fa 0 (e.s k48 2)) fun t6 =>
 bd (ld h t6) fun t7 =>
 bd (binK 0 .mul (.int .i64 2) t7) fun t8 =>
 bd (binK 0 .sub t8 (.int .i64 1)) fun t9 =>
 bf (nw h 3 [(.int .i64 0)]) fun t5 h1 =>
 bf (stZ 1 h1 t5 t9) fun _ h2 =>
 some ⟨.nm, ⟨[(e.s k48 0), (e.s k48 1), (e.s k48 2), (e.s k48 3), (e.s k48 4), t5], 0, (e.s k48 0)⟩, h2⟩) fun e h =>
 sq (bd (some (.fn (.func 63) [] [(e.s k48 2), (e.s k48 3), (e.s k48 5)])) fun t10 =>
 bd (ld h (e.s k48 5)) fun t11 =>
 bc k48 [10, 11, 12, 4] e (K 62 [t10, t11] h) fun t12 h1 =>
 some ⟨.nm, ⟨[(e.s k48 0), (e.s k48 1), (e.s k48 2), (e.s k48 3), t12, (e.s k48 5)], 4, t12⟩, h1⟩) fun e h =>
 some ⟨.rt, e, h⟩
noncomputable def f48 (K : Oracle) (L : Looper) (p0 p1 : V) (h : H) : Option (Rv × H) := fin Try.prog k48 [.tmp 4] (s48 K L ⟨[p0, p1, V.und, V.und, V.und, V.und], 0, p0⟩ h)
theorem r48 : (fun K L p0 p1 h => runFF Try.prog kp K L 48 [p0, p1] h) = f48 := by kernel_rfl
theorem c48 (p0 p1 : V) (h : H) : callZ Try.prog kp 48 [p0, p1] h = f48 (callZ Try.prog kp) loopZ p0 p1 h :=
  (callZ_eqF _ _ _ _ _).trans (congrFun (congrFun (congrFun (congrFun (congrFun (r48) _) _) p0) p1) h)

/-- (zoetrope/intra.block).double -/
@[simp] def k49 : List Nat := [0, 1, 2, 3, 4]
noncomputable def s49 (K : Oracle) (L : Looper) (e : E) (h : H) : Out :=
 sq (bf (bx h 59 (e.s k49 0)) fun t2 h1 =>
 bf (bx h1 57 (e.s k49 1)) fun t3 h2 =>
 some ⟨.nm, ⟨[(e.s k49 0), (e.s k49 1), t2, t3, .nilf], 4, .nilf⟩, h2⟩) fun e h =>
 sq (bd (some (.fn (.func 64) [] [(e.s k49 3)])) fun t5 =>
 bd (fa 0 (e.s k49 2)) fun t6 =>
 bd (ld h t6) fun t7 =>
 bd (binK 0 .mul (.int .i64 4) t7) fun t8 =>
 bc k49 [5, 6, 7, 8, 9, 4] e (K 62 [t5, t8] h) fun t9 h1 =>
 some ⟨.nm, ⟨[(e.s k49 0), (e.s k49 1), (e.s k49 2), (e.s k49 3), t9], 4, t9⟩, h1⟩) fun e h =>
 some ⟨.rt, e, h⟩
noncomputable def f49 (K : Oracle) (L : Looper) (p0 p1 : V) (h : H) : Option (Rv × H) := fin Try.prog k49 [.tmp 4] (s49 K L ⟨[p0, p1, V.und, V.und, V.und], 0, p0⟩ h)
theorem r49 : (fun K L p0 p1 h => runFF Try.prog kp K L 49 [p0, p1] h) = f49 := by kernel_rfl
theorem c49 (p0 p1 : V) (h : H) : callZ Try.prog kp 49 [p0, p1] h = f49 (callZ Try.prog kp) loopZ p0 p1 h :=
  (callZ_eqF _ _ _ _ _).trans (congrFun (congrFun (congrFun (congrFun (congrFun (r49) _) _) p0) p1) h)

/-- (zoetrope/intra.block).direct$1 -/
@[simp] def k50 : List Nat := [0, 2, 5]
noncomputable def s50 (K : Oracle) (L : Looper) (e : E) (h : H) : Out :=
 sq (some ⟨.nm, ⟨[(e.s k50 0), (e.s k50 2), (.int .i64 0)], 5, (.int .i64 0)⟩, h⟩) fun e h =>
 sq (bd (fa 1 (e.s k50 2)) fun t6 =>
 bd (ld h t6) fun t7 =>
 bc k50 [6, 7, 8, 9, 5] e (cdy K t7 [(e.s k50 0)] h) fun t9 h1 =>
 some ⟨.nm, ⟨[(e.s k50 0), (e.s k50 2), t9], 5, t9⟩, h1⟩) fun e h =>
 some ⟨.rt, e, h⟩
noncomputable def f50 (K : Oracle) (L : Looper) (p0 p1 p2 : V) (h : H) : Option (Rv × H) := fin Try.prog k50 [.tmp 5] (s50 K L ⟨[p0, p2, V.und], 0, p0⟩ h)
theorem r50 : (fun K L p0 p1 p2 h => runFF Try.prog kp K L 50 [p0, p1, p2] h) = f50 := by kernel_rfl
theorem c50 (p0 p1 p2 : V) (h : H) : callZ Try.prog kp 50 [p0, p1, p2] h = f50 (callZ Try.prog kp) loopZ p0 p1 p2 h :=
  (callZ_eqF _ _ _ _ _).trans (congrFun (congrFun (congrFun (congrFun (congrFun (congrFun (r50) _) _) p0) p1) p2) h)

/-- (zoetrope/intra.block).direct$2 -/
@[simp] def k51 : List Nat := [1, 2, 5]
noncomputable def s51 (K : Oracle) (L : Looper) (e : E) (h : H) : Out :=
 sq (some ⟨.nm, ⟨[(e.s k51 1), (e.s k51 2), (.int .i64 0)], 5, (.int .i64 0)⟩, h⟩) fun e h =>
 sq (bd (fa 2 (e.s k51 2)) fun t6 =>
 bd (ld h t6) fun t7 =>
 bc k51 [6, 7, 8, 9, 5] e (cdy K t7 [(e.s k51 1)] h) fun t9 h1 =>
 some ⟨.nm, ⟨[(e.s k51 1), (e.s k51 2), t9], 5, t9⟩, h1⟩) fun e h =>
 some ⟨.rt, e, h⟩
noncomputable def f51 (K : Oracle) (L : Looper) (p0 p1 p2 : V) (h : H) : Option (Rv × H) := fin Try.prog k51 [.tmp 5] (s51 K L ⟨[p1, p2, V.und], 0, p0⟩ h)
theorem r51 : (fun K L p0 p1 p2 h => runFF Try.prog kp K L 51 [p0, p1, p2] h) = f51 := by kernel_rfl
theorem c51 (p0 p1 p2 : V) (h : H) : callZ Try.prog kp 51 [p0, p1, p2] h = f51 (callZ Try.prog kp) loopZ p0 p1 p2 h :=
  (callZ_eqF _ _ _ _ _).trans (congrFun (congrFun (congrFun (congrFun (congrFun (congrFun (r51) _) _) p0) p1) p2) h)

/-- (zoetrope/intra.block).slant -/
@[simp] def k52 : List Nat := [0, 1, 2, 3, 5, 6, 7, 8, 9, 10]
noncomputable def s52 (K : Oracle) (L : Looper) (e : E) (h : H) : Out :=
 sq (bf (bx h 59 (e.s k52 0)) fun t3 h1 =>
 bf (bx h1 3 (e.s k52 2)) fun t5 h2 =>
 some ⟨.nm, ⟨[(e.s k52 0), (e.s k52 1), (e.s k52 2), t3, t5, .nilf, (e.s k52 7), (e.s k52 8), (e.s k52 9), (e.s k52 10)], 6, .nilf⟩, h2⟩) fun e h =>
 sq (blk 0 (sq (bd (binK 0 .lss (e.s k52 1) (.int .i64 90)) fun t13 =>
 some ⟨.nm, ⟨[(e.s k52 0), (e.s k52 1), (e.s k52 2), (e.s k52 3), (e.s k52 5), (e.s k52 6), (e.s k52 7), (e.s k52 8), (e.s k52 9), (e.s k52 10)], 11, t13⟩, h⟩) fun e h =>
 br (e.s k52 11) (sq (bc k52 [14, 15, 7] e (K 65 [(e.s k52 1)] h) fun t15 h1 =>
 bf (nw h1 3 [(.int .i64 0)]) fun t7 h2 =>
 bf (stZ 1 h2 t7 t15) fun _ h3 =>
 some ⟨.nm, ⟨[(e.s k52 0), (e.s k52 1), (e.s k52 2), (e.s k52 3), (e.s k52 5), (e.s k52 6), t7, (e.s k52 8), (e.s k52 9), (e.s k52 10)], 0, (e.s k52 0)⟩, h3⟩) fun e h =>
 sq (bd (some (.fn (.func 66) [] [(e.s k52 3), (e.s k52 7), (e.s k52 5)])) fun t16 =>
 some ⟨.nm, ⟨[(e.s k52 0), (e.s k52 1), (e.s k52 2), (e.s k52 3), (e.s k52 5), t16, (e.s k52 7), (e.s k52 8), (e.s k52 9), (e.s k52 10)], 6, t16⟩, h⟩) fun e h =>
 some ⟨.rt, e, h⟩)
 (sq (bd (binK 0 .gtr (e.s k52 1) (.int .i64 180)) fun t19 =>
 some ⟨.nm, ⟨[(e.s k52 0), (e.s k52 1), (e.s k52 2), (e.s k52 3), (e.s k52 5), (e.s k52 6), (e.s k52 7), (e.s k52 8), (e.s k52 9), (e.s k52 10)], 17, t19⟩, h⟩) fun e h =>
 br (e.s k52 17) (sq (bd (binK 0 .sub (.int .i64 270) (e.s k52 1)) fun t21 =>
 bc k52 [20, 21, 22, 8] e (K 65 [t21] h) fun t22 h1 =>
 bf (nw h1 3 [(.int .i64 0)]) fun t8 h2 =>
 bf (stZ 1 h2 t8 t22) fun _ h3 =>
 some ⟨.nm, ⟨[(e.s k52 0), (e.s k52 1), (e.s k52 2), (e.s k52 3), (e.s k52 5), (e.s k52 6), (e.s k52 7), t8, (e.s k52 9), (e.s k52 10)], 0, (e.s k52 0)⟩, h3⟩) fun e h =>
 sq (bd (some (.fn (.func 68) [] [(e.s k52 3), (e.s k52 8), (e.s k52 5)])) fun t23 =>
 some ⟨.nm, ⟨[(e.s k52 0), (e.s k52 1), (e.s k52 2), (e.s k52 3), (e.s k52 5), t23, (e.s k52 7), (e.s k52 8), (e.s k52 9), (e.s k52 10)], 6, t23⟩, h⟩) fun e h =>
 some ⟨.rt, e, h⟩)
 (some ⟨.nm, e, h⟩)))) fun e h =>
 sq (bd (binK 0 .sub (.int .i64 180) (e.s k52 1)) fun t25 =>
 bc k52 [24, 25, 26, 27, 28, 29, 9, 10] e (K 65 [t25] h) fun t26 h1 =>
 bd (binK 0 .sub (e.s k52 1) (.int .i64 90)) fun t28 =>
 bc k52 [24, 25, 26, 27, 28, 29, 9, 10] e (K 65 [t28] h1) fun t29 h2 =>
 bf (nw h2 3 [(.int .i64 0)]) fun t9 h3 =>
 bf (nw h3 3 [(.int .i64 0)]) fun t10 h4 =>
 bf (stZ 1 h4 t9 t26) fun _ h5 =>
 bf (stZ 1 h5 t10 t29) fun _ h6 =>
 some ⟨.nm, ⟨[(e.s k52 0), (e.s k52 1), (e.s k52 2), (e.s k52 3), (e.s k52 5), (e.s k52 6), (e.s k52 7), (e.s k52 8), t9, t10], 0, (e.s k52 0)⟩, h6⟩) fun e h =>
 sq (bd (some (.fn (.func 69) [] [(e.s k52 9), (e.s k52 5), (e.s k52 3), (e.s k52 10)])) fun t30 =>
 some ⟨.nm, ⟨[(e.s k52 0), (e.s k52 1), (e.s k52 2), (e.s k52 3), (e.s k52 5), t30, (e.s k52 7), (e.s k52 8), (e.s k52 9), (e.s k52 10)], 6, t30⟩, h⟩) fun e h =>
 some ⟨.rt, e, h⟩
noncomputable def f52 (K : Oracle) (L : Looper) (p0 p1 p2 : V) (h : H) : Option (Rv × H) := fin Try.prog k52 [.tmp 6] (s52 K L ⟨[p0, p1, p2, V.und, V.und, V.und, V.und, V.und, V.und, V.und], 0, p0⟩ h)
theorem r52 : (fun K L p0 p1 p2 h => runFF Try.prog kp K L 52 [p0, p1, p2] h) = f52 := by kernel_rfl
theorem c52 (p0 p1 p2 : V) (h : H) : callZ Try.prog kp 52 [p0, p1, p2] h = f52 (callZ Try.prog kp) loopZ p0 p1 p2 h :=
  (callZ_eqF _ _ _ _ _).trans (congrFun (congrFun (congrFun (congrFun (congrFun (congrFun (r52) _) _) p0) p1) p2) h)

/-- (zoetrope/intra.block).paeth$1 -/
@[simp] def k53 : List Nat := [0, 1, 3]
noncomputable def s53 (K : Oracle) (L : Looper) (e : E) (h : H) : Out :=
 sq (some ⟨.nm, ⟨[(e.s k53 0), (e.s k53 1), (.int .i64 0)], 3, (.int .i64 0)⟩, h⟩) fun e h =>
 sq (bd (ld h (e.s k53 1)) fun t5 =>
 bd (binK 0 .sub (e.s k53 0) t5) fun t6 =>
 bd (ld h (e.s k53 1)) fun t7 =>
 bd (binK 0 .sub t7 (e.s k53 0)) fun t9 =>
 bd (maxV [t6, t9]) fun t10 =>
 some ⟨.nm, ⟨[(e.s k53 0), (e.s k53 1), t10], 3, t10⟩, h⟩) fun e h =>
 some ⟨.rt, e, h⟩
noncomputable def f53 (K : Oracle) (L : Looper) (p0 p1 : V) (h : H) : Option (Rv × H) := fin Try.prog k53 [.tmp 3] (s53 K L ⟨[p0, p1, V.und], 0, p0⟩ h)
theorem r53 : (fun K L p0 p1 h => runFF Try.prog kp K L 53 [p0, p1] h) = f53 := by kernel_rfl
theorem c53 (p0 p1 : V) (h : H) : callZ Try.prog kp 53 [p0, p1] h = f53 (callZ Try.prog kp) loopZ p0 p1 h :=
  (callZ_eqF _ _ _ _ _).trans (congrFun (congrFun (congrFun (congrFun (congrFun (r53) _) _) p0) p1) h)

/-- (zoetrope/intra.block).soft$1 -/
@[simp] def k54 : List Nat := [0, 1, 3]
noncomputable def s54 (K : Oracle) (L : Looper) (e : E) (h : H) : Out :=
 sq (some ⟨.nm, ⟨[(e.s k54 0), (e.s k54 1), (.int .i64 0)], 3, (.int .i64 0)⟩, h⟩) fun e h =>
 sq (bd (binK 0 .mul (.int .i64 224) (e.s k54 0)) fun t5 =>
 bd (ld h (e.s k54 1)) fun t6 =>
 bd (binK 0 .sub t6 (.int .i64 1)) fun t7 =>
 bd (binK 0 .quo t5 t7) fun t8 =>
 bd (binK 0 .sub (.int .i64 255) t8) fun t9 =>
 some ⟨.nm, ⟨[(e.s k54 0), (e.s k54 1), t9], 3, t9⟩, h⟩) fun e h =>
 some ⟨.rt, e, h⟩
noncomputable def f54 (K : Oracle) (L : Looper) (p0 p1 : V) (h : H) : Option (Rv × H) := fin Try.prog k54 [.tmp 3] (s54 K L ⟨[p0, p1, V.und], 0, p0⟩ h)
theorem r54 : (fun K L p0 p1 h => runFF Try.prog kp K L 54 [p0, p1] h) = f54 := by kernel_rfl
theorem c54 (p0 p1 : V) (h : H) : callZ Try.prog kp 54 [p0, p1] h = f54 (callZ Try.prog kp) loopZ p0 p1 h :=
  (callZ_eqF _ _ _ _ _).trans (congrFun (congrFun (congrFun (congrFun (congrFun (r54) _) _) p0) p1) h)

/-- (zoetrope/intra.block).soft$2 -/
@[simp] def k55 : List Nat := [0, 1, 2, 3, 4, 5, 6, 7, 10, 11]
noncomputable def s55 (K : Oracle) (L : Looper) (e : E) (h : H) : Out :=
 sq (some ⟨.nm, ⟨[(e.s k55 0), (e.s k55 1), (e.s k55 2), (e.s k55 3), (e.s k55 4), (e.s k55 5), (e.s k55 6), (e.s k55 7), (.int .i64 0), (e.s k55 11)], 10, (.int .i64 0)⟩, h⟩) fun e h =>
 sq (bd (ld h (e.s k55 3)) fun t13 =>
 bn (cdy K t13 [(e.s k55 1)] h) fun t15 h1 =>
 bd (fa 1 (e.s k55 4)) fun t16 =>
 bd (ld h1 t16) fun t17 =>
 bn (cdy K t17 [(e.s k55 0)] h1) fun t19 h2 =>
 bd (ld h2 (e.s k55 3)) fun t21 =>
 bn (cdy K t21 [(e.s k55 1)] h2) fun t23 h3 =>
 bd (fa 2 (e.s k55 4)) fun t25 =>
 bd (ld h3 t25) fun t26 =>
 bd (ld h3 (e.s k55 5)) fun t27 =>
 bd (binK 0 .sub t27 (.int .i64 1)) fun t28 =>
 bn (cdy K t26 [t28] h3) fun t29 h4 =>
 bd (ld h4 (e.s k55 2)) fun t12 =>
 bd (binK 0 .mul t15 t19) fun t20 =>
 bd (binK 0 .sub (.int .i64 256) t23) fun t24 =>
 bd (binK 0 .mul t24 t29) fun t30 =>
 bd (binK 0 .add t20 t30) fun t31 =>
 bd (binK 0 .mul t12 t31) fun t32 =>
 ck (ld h (e.s k55 2)) t12 (ck (ld h1 (e.s k55 2)) t12 (ck (ld h2 (e.s k55 2)) t12 (ck (ld h3 (e.s k55 2)) t12 (ck (ld h4 (e.s k55 2)) t12 (ck (ld h (e.s k55 3)) t13 (ck (ld h t16) t17 (ck (ld h1 t16) t17 (ck (ld h (e.s k55 3)) t21 (ck (ld h1 (e.s k55 3)) t21 (ck (ld h2 (e.s k55 3)) t21 (ck (ld h t25) t26 (ck (ld h1 t25) t26 (ck (ld h2 t25) t26 (ck (ld h3 t25) t26 (ck (ld h (e.s k55 5)) t27 (ck (ld h1 (e.s k55 5)) t27 (ck (ld h2 (e.s k55 5)) t27 (ck (ld h3 (e.s k55 5)) t27 (some ⟨.nm, ⟨[(e.s k55 0), (e.s k55 1), (e.s k55 2), (e.s k55 3), (e.s k55 4), (e.s k55 5), (e.s k55 6), (e.s k55 7), (e.s k55 10), t32], 11, t32⟩, h4⟩)))))))))))))))))))) fun e h =>
 sq (bd (ld h (e.s k55 3)) fun t35 =>
 bn (cdy K t35 [(e.s k55 0)] h) fun t37 h1 =>
 bd (fa 2 (e.s k55 4)) fun t38 =>
 bd (ld h1 t38) fun t39 =>
 bn (cdy K t39 [(e.s k55 1)] h1) fun t41 h2 =>
 bd (ld h2 (e.s k55 3)) fun t43 =>
 bn (cdy K t43 [(e.s k55 0)] h2) fun t45 h3 =>
 bd (fa 1 (e.s k55 4)) fun t47 =>
 bd (ld h3 t47) fun t48 =>
 bd (ld h3 (e.s k55 5)) fun t49 =>
 bd (binK 0 .sub t49 (.int .i64 1)) fun t50 =>
 bn (cdy K t48 [t50] h3) fun t51 h4 =>
 bd (ld h4 (e.s k55 6)) fun t34 =>
 bd (binK 0 .mul t37 t41) fun t42 =>
 bd (binK 0 .sub (.int .i64 256) t45) fun t46 =>
 bd (binK 0 .mul t46 t51) fun t52 =>
 bd (binK 0 .add t42 t52) fun t53 =>
 bd (binK 0 .mul t34 t53) fun t54 =>
 bd (binK 0 .add (e.s k55 11) t54) fun t55 =>
 ck (ld h (e.s k55 6)) t34 (ck (ld h1 (e.s k55 6)) t34 (ck (ld h2 (e.s k55 6)) t34 (ck (ld h3 (e.s k55 6)) t34 (ck (ld h4 (e.s k55 6)) t34 (ck (ld h (e.s k55 3)) t35 (ck (ld h t38) t39 (ck (ld h1 t38) t39 (ck (ld h (e.s k55 3)) t43 (ck (ld h1 (e.s k55 3)) t43 (ck (ld h2 (e.s k55 3)) t43 (ck (ld h t47) t48 (ck (ld h1 t47) t48 (ck (ld h2 t47) t48 (ck (ld h3 t47) t48 (ck (ld h (e.s k55 5)) t49 (ck (ld h1 (e.s k55 5)) t49 (ck (ld h2 (e.s k55 5)) t49 (ck (ld h3 (e.s k55 5)) t49 (some ⟨.nm, ⟨[(e.s k55 0), (e.s k55 1), (e.s k55 2), (e.s k55 3), (e.s k55 4), (e.s k55 5), (e.s k55 6), (e.s k55 7), (e.s k55 10), t55], 11, t55⟩, h4⟩)))))))))))))))))))) fun e h =>
 sq (bd (ld h (e.s k55 7)) fun t57 =>
 bd (binK 0 .sub t57 (.int .i64 1)) fun t58 =>
 bd (binK 0 .shl (.int .i64 1) t58) fun t59 =>
 bd (binK 0 .add (e.s k55 11) t59) fun t60 =>
 bd (ld h (e.s k55 7)) fun t61 =>
 bd (binK 0 .shr t60 t61) fun t62 =>
 ck (ld h (e.s k55 7)) t57 (ck (ld h (e.s k55 7)) t61 (some ⟨.nm, ⟨[(e.s k55 0), (e.s k55 1), (e.s k55 2), (e.s k55 3), (e.s k55 4), (e.s k55 5), (e.s k55 6), (e.s k55 7), t62, (e.s k55 11)], 10, t62⟩, h⟩))) fun e h =>
 some ⟨.rt, e, h⟩
noncomputable def f55 (K : Oracle) (L : Looper) (p0 p1 p2 p3 p4 p5 p6 p7 : V) (h : H) : Option (Rv × H) := fin Try.prog k55 [.tmp 10] (s55 K L ⟨[p0, p1, p2, p3, p4, p5, p6, p7, V.und, V.und], 0, p0⟩ h)
theorem r55 : (fun K L p0 p1 p2 p3 p4 p5 p6 p7 h => runFF Try.prog kp K L 55 [p0, p1, p2, p3, p4, p5, p6, p7] h) = f55 := by kernel_rfl
theorem c55 (p0 p1 p2 p3 p4 p5 p6 p7 : V) (h : H) : callZ Try.prog kp 55 [p0, p1, p2, p3, p4, p5, p6, p7] h = f55 (callZ Try.prog kp) loopZ p0 p1 p2 p3 p4 p5 p6 p7 h :=
  (callZ_eqF _ _ _ _ _).trans (congrFun (congrFun (congrFun (congrFun (congrFun (congrFun (congrFun (congrFun (congrFun (congrFun (congrFun (r55) _) _) p0) p1) p2) p3) p4) p5) p6) p7) h)

/-- (zoetrope/zoetroperef12.Edge).at -/
@[simp] def k56 : List Nat := [0, 1, 2, 4]
noncomputable def s56 (K : Oracle) (L : Looper) (e : E) (h : H) : Out :=
 sq (bf (bx h 68 (e.s k56 0)) fun t2 h1 =>
 some ⟨.nm, ⟨[(e.s k56 0), (e.s k56 1), t2, (.int .i64 0)], 4, (.int .i64 0)⟩, h1⟩) fun e h =>
 sq (bd (binK 0 .add (e.s k56 1) (.int .i64 4)) fun t8 =>
 bd (fa 0 (e.s k56 2)) fun t9 =>
 bd (ld h t9) fun t10 =>
 bd (lnS t10) fun t11 =>
 bd (binK 0 .sub t11 (.int .i64 1)) fun t12 =>
 bn (K 57 [t8, (.int .i64 0), t12] h) fun t13 h1 =>
 bd (fa 0 (e.s k56 2)) fun t5 =>
 bd (ld h1 t5) fun t6 =>
 bd (iaS 1 t6 t13) fun t14 =>
 bd (ld h1 t14) fun t15 =>
 ck (ld h t5) t6 (ck (ld h1 t5) t6 (ck (ld h t9) t10 (ck (ld h1 t14) t15 (some ⟨.nm, ⟨[(e.s k56 0), (e.s k56 1), (e.s k56 2), t15], 4, t15⟩, h1⟩))))) fun e h =>
 some ⟨.rt, e, h⟩
noncomputable def f56 (K : Oracle) (L : Looper) (p0 p1 : V) (h : H) : Option (Rv × H) := fin Try.prog k56 [.tmp 4] (s56 K L ⟨[p0, p1, V.und, V.und], 0, p0⟩ h)
theorem r56 : (fun K L p0 p1 h => runFF Try.prog kp K L 56 [p0, p1] h) = f56 := by kernel_rfl
theorem c56 (p0 p1 : V) (h : H) : callZ Try.prog kp 56 [p0, p1] h = f56 (callZ Try.prog kp) loopZ p0 p1 h :=
  (callZ_eqF _ _ _ _ _).trans (congrFun (congrFun (congrFun (congrFun (congrFun (r56) _) _) p0) p1) h)

/-- zoetrope/zoetroperef00.Clip -/
@[simp] def k57 : List Nat := [0, 1, 2, 6]
noncomputable def s57 (K : Oracle) (L : Looper) (e : E) (h : H) : Out :=
 sq (some ⟨.nm, ⟨[(e.s k57 0), (e.s k57 1), (e.s k57 2), (.int .i64 0)], 6, (.int .i64 0)⟩, h⟩) fun e h =>
 sq (sq (bd (binK 0 .lss (e.s k57 0) (e.s k57 1)) fun t9 =>
 some ⟨.nm, ⟨[(e.s k57 0), (e.s k57 1), (e.s k57 2), (e.s k57 6)], 9, t9⟩, h⟩) fun e h =>
 br (e.s k57 9) (sq (some ⟨.nm, ⟨[(e.s k57 0), (e.s k57 1), (e.s k57 2), (e.s k57 1)], 6, (e.s k57 1)⟩, h⟩) fun e h =>
 some ⟨.rt, e, h⟩)
 (some ⟨.nm, e, h⟩)) fun e h =>
 sq (sq (bd (binK 0 .gtr (e.s k57 0) (e.s k57 2)) fun t13 =>
 some ⟨.nm, ⟨[(e.s k57 0), (e.s k57 1), (e.s k57 2), (e.s k57 6)], 13, t13⟩, h⟩) fun e h =>
 br (e.s k57 13) (sq (some ⟨.nm, ⟨[(e.s k57 0), (e.s k57 1), (e.s k57 2), (e.s k57 2)], 6, (e.s k57 2)⟩, h⟩) fun e h =>
 some ⟨.rt, e, h⟩)
 (some ⟨.nm, e, h⟩)) fun e h =>
 sq (some ⟨.nm, ⟨[(e.s k57 0), (e.s k57 1), (e.s k57 2), (e.s k57 0)], 6, (e.s k57 0)⟩, h⟩) fun e h =>
 some ⟨.rt, e, h⟩
noncomputable def f57 (K : Oracle) (L : Looper) (p0 p1 p2 : V) (h : H) : Option (Rv × H) := fin Try.prog k57 [.tmp 6] (s57 K L ⟨[p0, p1, p2, V.und], 0, p0⟩ h)
theorem r57 : (fun K L p0 p1 p2 h => runFF Try.prog kp K L 57 [p0, p1, p2] h) = f57 := by kernel_rfl
theorem c57 (p0 p1 p2 : V) (h : H) : callZ Try.prog kp 57 [p0, p1, p2] h = f57 (callZ Try.prog kp) loopZ p0 p1 p2 h :=
  (callZ_eqF _ _ _ _ _).trans (congrFun (congrFun (congrFun (congrFun (congrFun (congrFun (r57) _) _) p0) p1) p2) h)

/-- zoetrope/zoetroperef00.Abs -/
@[simp] def k58 : List Nat := [0, 2]
noncomputable def s58 (K : Oracle) (L : Looper) (e : E) (h : H) : Out :=
 sq (some ⟨.nm, ⟨[(e.s k58 0), (.int .i64 0)], 2, (.int .i64 0)⟩, h⟩) fun e h =>
 sq (sq (bd (binK 0 .lss (e.s k58 0) (.int .i64 0)) fun t4 =>
 some ⟨.nm, ⟨[(e.s k58 0), (e.s k58 2)], 4, t4⟩, h⟩) fun e h =>
 br (e.s k58 4) (sq (bd (unV .neg (e.s k58 0)) fun t6 =>
 some ⟨.nm, ⟨[(e.s k58 0), t6], 2, t6⟩, h⟩) fun e h =>
 some ⟨.rt, e, h⟩)
 (some ⟨.nm, e, h⟩)) fun e h =>
 sq (some ⟨.nm, ⟨[(e.s k58 0), (e.s k58 0)], 2, (e.s k58 0)⟩, h⟩) fun e h =>
 some ⟨.rt, e, h⟩
noncomputable def f58 (K : Oracle) (L : Looper) (p0 : V) (h : H) : Option (Rv × H) := fin Try.prog k58 [.tmp 2] (s58 K L ⟨[p0, V.und], 0, p0⟩ h)
theorem r58 : (fun K L p0 h => runFF Try.prog kp K L 58 [p0] h) = f58 := by kernel_rfl
theorem c58 (p0 : V) (h : H) : callZ Try.prog kp 58 [p0] h = f58 (callZ Try.prog kp) loopZ p0 h :=
  (callZ_eqF _ _ _ _ _).trans (congrFun (congrFun (congrFun (congrFun (r58) _) _) p0) h)

/-- (zoetrope/zoetroperef12.Edge).between -/
@[simp] def k59 : List Nat := [0, 1, 2, 3, 4, 8, 9, 10, 11]
noncomputable def s59 (K : Oracle) (L : Looper) (e : E) (h : H) : Out :=
 sq (bf (bx h 68 (e.s k59 0)) fun t4 h1 =>
 some ⟨.nm, ⟨[(e.s k59 0), (e.s k59 1), (e.s k59 2), (e.s k59 3), t4, (.int .i64 0), (e.s k59 9), (e.s k59 10), (e.s k59 11)], 8, (.int .i64 0)⟩, h1⟩) fun e h =>
 sq (bd (binK 0 .mul (.int .i64 2) (e.s k59 1)) fun t13 =>
 bd (binK 0 .sub t13 (.int .i64 1)) fun t14 =>
 bd (fa 1 (e.s k59 4)) fun t15 =>
 bd (ld h t15) fun t16 =>
 bd (binK 0 .shl t14 t16) fun t17 =>
 some ⟨.nm, ⟨[(e.s k59 0), (e.s k59 1), (e.s k59 2), (e.s k59 3), (e.s k59 4), (e.s k59 8), t17, (e.s k59 10), (e.s k59 11)], 9, t17⟩, h⟩) fun e h =>
 sq (bd (fa 1 (e.s k59 4)) fun t19 =>
 bd (ld h t19) fun t20 =>
 bd (binK 0 .sub (.int .i64 6) t20) fun t21 =>
 bd (binK 0 .shr (e.s k59 2) t21) fun t22 =>
 bd (fa 1 (e.s k59 4)) fun t24 =>
 bd (ld h t24) fun t25 =>
 bd (binK 0 .shl (e.s k59 3) t25) fun t26 =>
 bd (binK 0 .add t22 t26) fun t27 =>
 ck (ld h t19) t20 (ck (ld h t24) t25 (some ⟨.nm, ⟨[(e.s k59 0), (e.s k59 1), (e.s k59 2), (e.s k59 3), (e.s k59 4), (e.s k59 8), (e.s k59 9), t27, (e.s k59 11)], 10, t27⟩, h⟩))) fun e h =>
 sq (bd (fa 1 (e.s k59 4)) fun t29 =>
 bd (ld h t29) fun t30 =>
 bd (binK 0 .shl (e.s k59 2) t30) fun t31 =>
 bd (binK 0 .shr t31 (.int .u64 1)) fun t32 =>
 bd (binK 0 .and t32 (.int .i64 31)) fun t33 =>
 some ⟨.nm, ⟨[(e.s k59 0), (e.s k59 1), (e.s k59 2), (e.s k59 3), (e.s k59 4), (e.s k59 8), (e.s k59 9), (e.s k59 10), t33], 11, t33⟩, h⟩) fun e h =>
 sq (sq (bd (binK 0 .geq (e.s k59 10) (e.s k59 9)) fun t36 =>
 some ⟨.nm, ⟨[(e.s k59 0), (e.s k59 1), (e.s k59 2), (e.s k59 3), (e.s k59 4), (e.s k59 8), (e.s k59 9), (e.s k59 10), (e.s k59 11)], 36, t36⟩, h⟩) fun e h =>
 br (e.s k59 36) (sq (bd (ldn 2 h (e.s k59 4)) fun t37 =>
 bc k59 [37, 38, 39, 8] e (K 56 [t37, (e.s k59 9)] h) fun t39 h1 =>
 some ⟨.nm, ⟨[(e.s k59 0), (e.s k59 1), (e.s k59 2), (e.s k59 3), (e.s k59 4), t39, (e.s k59 9), (e.s k59 10), (e.s k59 11)], 8, t39⟩, h1⟩) fun e h =>
 some ⟨.rt, e, h⟩)
 (some ⟨.nm, e, h⟩)) fun e h =>
 sq (bd (ldn 2 h (e.s k59 4)) fun t42 =>
 bn (K 56 [t42, (e.s k59 10)] h) fun t44 h1 =>
 bd (ldn 2 h1 (e.s k59 4)) fun t47 =>
 bd (binK 0 .add (e.s k59 10) (.int .i64 1)) fun t49 =>
 bn (K 56 [t47, t49] h1) fun t50 h2 =>
 bd (binK 0 .sub (.int .i64 32) (e.s k59 11)) fun t41 =>
 bd (binK 0 .mul t41 t44) fun t45 =>
 bd (binK 0 .mul (e.s k59 11) t50) fun t51 =>
 bd (binK 0 .add t45 t51) fun t52 =>
 bd (binK 0 .add t52 (.int .i64 16)) fun t53 =>
 bd (binK 0 .shr t53 (.int .u64 5)) fun t54 =>
 ck (ldn 2 h (e.s k59 4)) t42 (ck (ldn 2 h (e.s k59 4)) t47 (ck (ldn 2 h1 (e.s k59 4)) t47 (some ⟨.nm, ⟨[(e.s k59 0), (e.s k59 1), (e.s k59 2), (e.s k59 3), (e.s k59 4), t54, (e.s k59 9), (e.s k59 10), (e.s k59 11)], 8, t54⟩, h2⟩)))) fun e h =>
 some ⟨.rt, e, h⟩
noncomputable def f59 (K : Oracle) (L : Looper) (p0 p1 p2 p3 : V) (h : H) : Option (Rv × H) := fin Try.prog k59 [.tmp 8] (s59 K L ⟨[p0, p1, p2, p3, V.und, V.und, V.und, V.und, V.und], 0, p0⟩ h)
theorem r59 : (fun K L p0 p1 p2 p3 h => runFF Try.prog kp K L 59 [p0, p1, p2, p3] h) = f59 := by kernel_rfl
theorem c59 (p0 p1 p2 p3 : V) (h : H) : callZ Try.prog kp 59 [p0, p1, p2, p3] h = f59 (callZ Try.prog kp) loopZ p0 p1 p2 p3 h :=
  (callZ_eqF _ _ _ _ _).trans (congrFun (congrFun (congrFun (congrFun (congrFun (congrFun (congrFun (r59) _) _) p0) p1) p2) p3) h)


end Go.Proofs.Ytpjcmgmmolediaa
