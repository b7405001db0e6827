/- The functions of the cut, printed by a program of ours: each is shown to be the interpreter's run. -/
import Derived.Test.YtpikblkbeoophaaKp
set_option linter.unusedVariables false
set_option linter.unusedSimpArgs false
namespace Go.Proofs.Ytpikblkbeoophaa
open Go Go.Zf
/-- gosem.cut.init -/
@[simp] def k2 : List Nat := []
noncomputable def s2 (K : Oracle) (L : Looper) (e : E) (h : H) : Out :=
 bc k2 [0] e (K 1 [] h) fun t0 h1 =>
 some ⟨.nm, ⟨[], 0, t0⟩, h1⟩
noncomputable def f2 (K : Oracle) (L : Looper) (h : H) : Option (Rv × H) := fin Try.prog k2 [] (s2 K L ⟨[], 0, V.und⟩ h)
theorem r2 : (fun K L h => runFF Try.prog kp K L 2 [] h) = f2 := by kernel_rfl
theorem c2 (h : H) : callZ Try.prog kp 2 [] h = f2 (callZ Try.prog kp) loopZ h :=
  (callZ_eqF _ _ _ _ _).trans (congrFun (congrFun (congrFun (r2) _) _) h)

/-- zoetrope/zoetropelaw02.RacPuts -/
@[simp] def k3 : List Nat := [0, 2, 3, 4, 5, 6, 7]
noncomputable def l3_0 (K : Oracle) (L : Looper) (e : E) (h : H) : Out :=
 sq (sq (bd (lnS (e.s k3 6)) fun t61 =>
 bd (binK 0 .lss (e.s k3 7) t61) fun t62 =>
 some ⟨.nm, ⟨[(e.s k3 0), (e.s k3 2), (e.s k3 3), (e.s k3 4), (e.s k3 5), (e.s k3 6), (e.s k3 7)], 62, t62⟩, h⟩) fun e h =>
 br (e.s k3 62) (some ⟨.nm, e, h⟩)
 (some ⟨.ex 2, e, h⟩)) fun e h =>
 sq (blk 3 (bd (iaS 1 (e.s k3 6) (e.s k3 7)) fun t69 =>
 bd (ld h t69) fun t70 =>
 bd (binK 0 .xor t70 (.int .u8 255)) fun t71 =>
 bd (iaS 1 (e.s k3 6) (e.s k3 7)) fun t72 =>
 bf (stZ 1 h t72 t71) fun _ h1 =>
 some ⟨.nm, ⟨[(e.s k3 0), (e.s k3 2), (e.s k3 3), (e.s k3 4), (e.s k3 5), (e.s k3 6), (e.s k3 7)], 0, (e.s k3 0)⟩, h1⟩)) fun e h =>
 bd (binK 0 .add (e.s k3 7) (.int .i64 1)) fun t64 =>
 some ⟨.nm, ⟨[(e.s k3 0), (e.s k3 2), (e.s k3 3), (e.s k3 4), (e.s k3 5), (e.s k3 6), t64], 7, t64⟩, h⟩
noncomputable def l3_1 (K : Oracle) (L : Looper) (e : E) (h : H) : Out :=
 sq (sq (bd (lnS (e.s k3 0)) fun t12 =>
 bd (binK 0 .lss (e.s k3 5) t12) fun t13 =>
 bd (gl t13 true (some (e.s k3 5))) fun t15 =>
 bd (gl t13 true (binK 0 .lss t15 (.int .i64 300))) fun t16 =>
 bd (pk t13 t16 (.bool false)) fun t17 =>
 some ⟨.nm, ⟨[(e.s k3 0), (e.s k3 2), (e.s k3 3), (e.s k3 4), (e.s k3 5), (e.s k3 6), (e.s k3 7)], 17, t17⟩, h⟩) fun e h =>
 br (e.s k3 17) (some ⟨.nm, e, h⟩)
 (some ⟨.ex 0, e, h⟩)) fun e h =>
 sq (blk 1 (sq (sq (bd (iaS 2 (e.s k3 0) (e.s k3 5)) fun t23 =>
 bd (fa 0 t23) fun t24 =>
 bd (ld h t24) fun t25 =>
 bd (iaS 2 (e.s k3 0) (e.s k3 5)) fun t28 =>
 bd (fa 1 t28) fun t29 =>
 bd (ld h t29) fun t30 =>
 bn (K 12 [(e.s k3 3), t25, t30] h) fun t31 h1 =>
 bd (iaS 2 (e.s k3 0) (e.s k3 5)) fun t35 =>
 bd (fa 0 t35) fun t36 =>
 bd (ld h1 t36) fun t37 =>
 bd (iaS 2 (e.s k3 0) (e.s k3 5)) fun t40 =>
 bd (fa 1 t40) fun t41 =>
 bd (ld h1 t41) fun t42 =>
 bn (K 13 [(e.s k3 4), t37, t42] h1) fun t43 h2 =>
 bd (binK 0 .neq t31 t43) fun t44 =>
 ck (ld h t24) t25 (ck (ld h t29) t30 (ck (ld h t36) t37 (ck (ld h1 t36) t37 (ck (ld h t41) t42 (ck (ld h1 t41) t42 (some ⟨.nm, ⟨[(e.s k3 0), (e.s k3 2), (e.s k3 3), (e.s k3 4), (e.s k3 5), (e.s k3 6), (e.s k3 7)], 44, t44⟩, h2⟩))))))) fun e h =>
 br (e.s k3 44) (sq (some ⟨.nm, ⟨[(e.s k3 0), (.bool false), (e.s k3 3), (e.s k3 4), (e.s k3 5), (e.s k3 6), (e.s k3 7)], 2, (.bool false)⟩, h⟩) fun e h =>
 some ⟨.rt, e, h⟩)
 (some ⟨.nm, e, h⟩)) fun e h =>
 sq (bd (binK 0 .lss (e.s k3 5) (.int .i64 20)) fun t46 =>
 bd (gl t46 false (some (e.s k3 5))) fun t48 =>
 bd (gl t46 false (binK 0 .rem t48 (.int .i64 16))) fun t49 =>
 bd (gl t46 false (binK 0 .eql t49 (.int .i64 0))) fun t50 =>
 bd (pk t46 (.bool true) t50) fun t51 =>
 some ⟨.nm, ⟨[(e.s k3 0), (e.s k3 2), (e.s k3 3), (e.s k3 4), (e.s k3 5), (e.s k3 6), (e.s k3 7)], 51, t51⟩, h⟩) fun e h =>
 br (e.s k3 51) (sq (bc k3 [52, 53, 6] e (K 14 [(e.s k3 3)] h) fun t53 h1 =>
 some ⟨.nm, ⟨[(e.s k3 0), (e.s k3 2), (e.s k3 3), (e.s k3 4), (e.s k3 5), t53, (e.s k3 7)], 6, t53⟩, h1⟩) fun e h =>
 sq (sq (bc k3 [54, 55, 56, 57, 58] e (K 16 [(e.s k3 4)] h) fun t56 h1 =>
 bc k3 [54, 55, 56, 57, 58] e (K 15 [(e.s k3 6), t56] h1) fun t57 h2 =>
 bd (unV .not t57) fun t58 =>
 some ⟨.nm, ⟨[(e.s k3 0), (e.s k3 2), (e.s k3 3), (e.s k3 4), (e.s k3 5), (e.s k3 6), (e.s k3 7)], 58, t58⟩, h2⟩) fun e h =>
 br (e.s k3 58) (sq (some ⟨.nm, ⟨[(e.s k3 0), (.bool false), (e.s k3 3), (e.s k3 4), (e.s k3 5), (e.s k3 6), (e.s k3 7)], 2, (.bool false)⟩, h⟩) fun e h =>
 some ⟨.rt, e, h⟩)
 (some ⟨.nm, e, h⟩)) fun e h =>
 sq (some ⟨.nm, ⟨[(e.s k3 0), (e.s k3 2), (e.s k3 3), (e.s k3 4), (e.s k3 5), (e.s k3 6), (.int .i64 0)], 7, (.int .i64 0)⟩, h⟩) fun e h =>
 blk 2 (L (l3_0 K L) e h))
 (some ⟨.nm, e, h⟩))) fun e h =>
 bd (binK 0 .add (e.s k3 5) (.int .i64 1)) fun t19 =>
 some ⟨.nm, ⟨[(e.s k3 0), (e.s k3 2), (e.s k3 3), (e.s k3 4), t19, (e.s k3 6), (e.s k3 7)], 5, t19⟩, h⟩
noncomputable def s3 (K : Oracle) (L : Looper) (e : E) (h : H) : Out :=
 sq (some ⟨.nm, ⟨[(e.s k3 0), (.bool false), (e.s k3 3), (e.s k3 4), (e.s k3 5), (e.s k3 6), (e.s k3 7)], 2, (.bool false)⟩, h⟩) fun e h =>
 sq (bc k3 [8, 3] e (K 10 [] h) fun t8 h1 =>
 some ⟨.nm, ⟨[(e.s k3 0), (e.s k3 2), t8, (e.s k3 4), (e.s k3 5), (e.s k3 6), (e.s k3 7)], 3, t8⟩, h1⟩) fun e h =>
 sq (bc k3 [9, 4] e (K 11 [] h) fun t9 h1 =>
 some ⟨.nm, ⟨[(e.s k3 0), (e.s k3 2), (e.s k3 3), t9, (e.s k3 5), (e.s k3 6), (e.s k3 7)], 4, t9⟩, h1⟩) fun e h =>
 sq (sq (some ⟨.nm, ⟨[(e.s k3 0), (e.s k3 2), (e.s k3 3), (e.s k3 4), (.int .i64 0), (e.s k3 6), (e.s k3 7)], 5, (.int .i64 0)⟩, h⟩) fun e h =>
 blk 0 (L (l3_1 K L) e h)) fun e h =>
 sq (bc k3 [73, 74, 75, 76, 77, 78, 79, 80, 2] e (K 14 [(e.s k3 3)] h) fun t74 h1 =>
 bc k3 [73, 74, 75, 76, 77, 78, 79, 80, 2] e (K 16 [(e.s k3 4)] h1) fun t76 h2 =>
 bc k3 [73, 74, 75, 76, 77, 78, 79, 80, 2] e (K 15 [t74, t76] h2) fun t77 h3 =>
 bc k3 [73, 74, 75, 76, 77, 78, 79, 80, 2] e (gk t77 true h3 (K 17 [] h3)) fun t79 h4 =>
 bd (pk t77 t79 (.bool false)) fun t80 =>
 some ⟨.nm, ⟨[(e.s k3 0), t80, (e.s k3 3), (e.s k3 4), (e.s k3 5), (e.s k3 6), (e.s k3 7)], 2, t80⟩, h4⟩) fun e h =>
 some ⟨.rt, e, h⟩
noncomputable def f3 (K : Oracle) (L : Looper) (p0 : V) (h : H) : Option (Rv × H) := fin Try.prog k3 [.tmp 2] (s3 K L ⟨[p0, V.und, V.und, V.und, V.und, V.und, V.und], 0, p0⟩ h)
theorem r3 : (fun K L p0 h => runFF Try.prog kp K L 3 [p0] h) = f3 := by kernel_rfl
theorem c3 (p0 : V) (h : H) : callZ Try.prog kp 3 [p0] h = f3 (callZ Try.prog kp) loopZ p0 h :=
  (callZ_eqF _ _ _ _ _).trans (congrFun (congrFun (congrFun (congrFun (r3) _) _) p0) h)

/-- zoetrope/zoetropelaw02.RacTakes -/
@[simp] def k4 : List Nat := [0, 1, 4, 5, 6, 7, 8, 9, 10, 11, 12, 13, 14, 15, 17]
noncomputable def l4_0 (K : Oracle) (L : Looper) (e : E) (h : H) : Out :=
 sq (sq (bd (lnS (e.s k4 5)) fun t27 =>
 bd (binK 0 .lss (e.s k4 8) t27) fun t28 =>
 some ⟨.nm, ⟨[(e.s k4 0), (e.s k4 1), (e.s k4 4), (e.s k4 5), (e.s k4 6), (e.s k4 7), (e.s k4 8), (e.s k4 9), (e.s k4 10), (e.s k4 11), (e.s k4 12), (e.s k4 13), (e.s k4 14), (e.s k4 15), (e.s k4 17)], 28, t28⟩, h⟩) fun e h =>
 br (e.s k4 28) (some ⟨.nm, e, h⟩)
 (some ⟨.ex 0, e, h⟩)) fun e h =>
 sq (blk 1 (bd (iaS 1 (e.s k4 5) (e.s k4 8)) fun t35 =>
 bd (ld h t35) fun t36 =>
 bd (binK 0 .xor t36 (.int .u8 255)) fun t37 =>
 bd (iaS 1 (e.s k4 5) (e.s k4 8)) fun t38 =>
 bf (stZ 1 h t38 t37) fun _ h1 =>
 some ⟨.nm, ⟨[(e.s k4 0), (e.s k4 1), (e.s k4 4), (e.s k4 5), (e.s k4 6), (e.s k4 7), (e.s k4 8), (e.s k4 9), (e.s k4 10), (e.s k4 11), (e.s k4 12), (e.s k4 13), (e.s k4 14), (e.s k4 15), (e.s k4 17)], 0, (e.s k4 0)⟩, h1⟩)) fun e h =>
 bd (binK 0 .add (e.s k4 8) (.int .i64 1)) fun t30 =>
 some ⟨.nm, ⟨[(e.s k4 0), (e.s k4 1), (e.s k4 4), (e.s k4 5), (e.s k4 6), (e.s k4 7), t30, (e.s k4 9), (e.s k4 10), (e.s k4 11), (e.s k4 12), (e.s k4 13), (e.s k4 14), (e.s k4 15), (e.s k4 17)], 8, t30⟩, h⟩
noncomputable def l4_1 (K : Oracle) (L : Looper) (e : E) (h : H) : Out :=
 sq (sq (bd (lnS (e.s k4 1)) fun t41 =>
 bd (binK 0 .lss (e.s k4 9) t41) fun t42 =>
 bd (gl t42 true (some (e.s k4 9))) fun t44 =>
 bd (gl t42 true (binK 0 .lss t44 (.int .i64 300))) fun t45 =>
 bd (pk t42 t45 (.bool false)) fun t46 =>
 some ⟨.nm, ⟨[(e.s k4 0), (e.s k4 1), (e.s k4 4), (e.s k4 5), (e.s k4 6), (e.s k4 7), (e.s k4 8), (e.s k4 9), (e.s k4 10), (e.s k4 11), (e.s k4 12), (e.s k4 13), (e.s k4 14), (e.s k4 15), (e.s k4 17)], 46, t46⟩, h⟩) fun e h =>
 br (e.s k4 46) (some ⟨.nm, e, h⟩)
 (some ⟨.ex 2, e, h⟩)) fun e h =>
 sq (blk 3 (sq (bc k4 [50, 51, 49, 52, 53, 10, 11] e (K 21 [(e.s k4 6)] h) fun t51 h1 =>
 bd (exV t51 0) fun t52 =>
 bd (exV t51 1) fun t53 =>
 some ⟨.nm, ⟨[(e.s k4 0), (e.s k4 1), (e.s k4 4), (e.s k4 5), (e.s k4 6), (e.s k4 7), (e.s k4 8), (e.s k4 9), t52, t53, (e.s k4 12), (e.s k4 13), (e.s k4 14), (e.s k4 15), (e.s k4 17)], 11, t53⟩, h1⟩) fun e h =>
 sq (bc k4 [55, 56, 54, 57, 58, 12, 13] e (K 22 [(e.s k4 7)] h) fun t56 h1 =>
 bd (exV t56 0) fun t57 =>
 bd (exV t56 1) fun t58 =>
 some ⟨.nm, ⟨[(e.s k4 0), (e.s k4 1), (e.s k4 4), (e.s k4 5), (e.s k4 6), (e.s k4 7), (e.s k4 8), (e.s k4 9), (e.s k4 10), (e.s k4 11), t57, t58, (e.s k4 14), (e.s k4 15), (e.s k4 17)], 13, t58⟩, h1⟩) fun e h =>
 sq (sq (bd (binK 0 .neq (e.s k4 10) (e.s k4 12)) fun t61 =>
 bd (gl t61 false (some (e.s k4 11))) fun t63 =>
 bd (gl t61 false (some (e.s k4 13))) fun t64 =>
 bd (gl t61 false (binK 0 .neq t63 t64)) fun t65 =>
 bd (pk t61 (.bool true) t65) fun t66 =>
 some ⟨.nm, ⟨[(e.s k4 0), (e.s k4 1), (e.s k4 4), (e.s k4 5), (e.s k4 6), (e.s k4 7), (e.s k4 8), (e.s k4 9), (e.s k4 10), (e.s k4 11), (e.s k4 12), (e.s k4 13), (e.s k4 14), (e.s k4 15), (e.s k4 17)], 66, t66⟩, h⟩) fun e h =>
 br (e.s k4 66) (sq (some ⟨.nm, ⟨[(e.s k4 0), (e.s k4 1), (.bool false), (e.s k4 5), (e.s k4 6), (e.s k4 7), (e.s k4 8), (e.s k4 9), (e.s k4 10), (e.s k4 11), (e.s k4 12), (e.s k4 13), (e.s k4 14), (e.s k4 15), (e.s k4 17)], 4, (.bool false)⟩, h⟩) fun e h =>
 some ⟨.rt, e, h⟩)
 (some ⟨.nm, e, h⟩)) fun e h =>
 sq (bd (iaS 2 (e.s k4 1) (e.s k4 9)) fun t69 =>
 bd (ldn 2 h t69) fun t70 =>
 bf (nw h 31 [(.int .u32 0), (.int .u32 0)]) fun t14 h1 =>
 bf (stZ 2 h1 t14 t70) fun _ h2 =>
 some ⟨.nm, ⟨[(e.s k4 0), (e.s k4 1), (e.s k4 4), (e.s k4 5), (e.s k4 6), (e.s k4 7), (e.s k4 8), (e.s k4 9), (e.s k4 10), (e.s k4 11), (e.s k4 12), (e.s k4 13), t14, (e.s k4 15), (e.s k4 17)], 0, (e.s k4 0)⟩, h2⟩) fun e h =>
 sq (sq (bd (binK 0 .rem (e.s k4 9) (.int .i64 4)) fun t72 =>
 bd (binK 0 .gtr t72 (.int .i64 0)) fun t73 =>
 some ⟨.nm, ⟨[(e.s k4 0), (e.s k4 1), (e.s k4 4), (e.s k4 5), (e.s k4 6), (e.s k4 7), (e.s k4 8), (e.s k4 9), (e.s k4 10), (e.s k4 11), (e.s k4 12), (e.s k4 13), (e.s k4 14), (e.s k4 15), (e.s k4 17)], 73, t73⟩, h⟩) fun e h =>
 br (e.s k4 73) (bd (ldn 2 h (e.s k4 14)) fun t75 =>
 bc k4 [74, 75, 76] e (K 23 [(e.s k4 10), t75] h) fun t76 h1 =>
 bf (stZ 2 h1 (e.s k4 14) t76) fun _ h2 =>
 some ⟨.nm, ⟨[(e.s k4 0), (e.s k4 1), (e.s k4 4), (e.s k4 5), (e.s k4 6), (e.s k4 7), (e.s k4 8), (e.s k4 9), (e.s k4 10), (e.s k4 11), (e.s k4 12), (e.s k4 13), (e.s k4 14), (e.s k4 15), (e.s k4 17)], 0, (e.s k4 0)⟩, h2⟩)
 (some ⟨.nm, e, h⟩)) fun e h =>
 sq (bd (fa 0 (e.s k4 14)) fun t78 =>
 bd (ld h t78) fun t79 =>
 bd (fa 1 (e.s k4 14)) fun t80 =>
 bd (ld h t80) fun t81 =>
 bn (K 24 [(e.s k4 6), t79, t81] h) fun t82 h1 =>
 bd (fa 0 (e.s k4 14)) fun t84 =>
 bd (ld h1 t84) fun t85 =>
 bd (fa 1 (e.s k4 14)) fun t86 =>
 bd (ld h1 t86) fun t87 =>
 bn (K 25 [(e.s k4 7), t85, t87] h1) fun t88 h2 =>
 bd (binK 0 .neq t82 t88) fun t89 =>
 ck (ld h t78) t79 (ck (ld h t80) t81 (ck (ld h t84) t85 (ck (ld h1 t84) t85 (ck (ld h t86) t87 (ck (ld h1 t86) t87 (some ⟨.nm, ⟨[(e.s k4 0), (e.s k4 1), (e.s k4 4), (e.s k4 5), (e.s k4 6), (e.s k4 7), (e.s k4 8), (e.s k4 9), (e.s k4 10), (e.s k4 11), (e.s k4 12), (e.s k4 13), (e.s k4 14), (e.s k4 15), (e.s k4 17)], 89, t89⟩, h2⟩))))))) fun e h =>
 br (e.s k4 89) (sq (some ⟨.nm, ⟨[(e.s k4 0), (e.s k4 1), (.bool false), (e.s k4 5), (e.s k4 6), (e.s k4 7), (e.s k4 8), (e.s k4 9), (e.s k4 10), (e.s k4 11), (e.s k4 12), (e.s k4 13), (e.s k4 14), (e.s k4 15), (e.s k4 17)], 4, (.bool false)⟩, h⟩) fun e h =>
 some ⟨.rt, e, h⟩)
 (some ⟨.nm, e, h⟩))) fun e h =>
 bd (binK 0 .add (e.s k4 9) (.int .i64 1)) fun t48 =>
 some ⟨.nm, ⟨[(e.s k4 0), (e.s k4 1), (e.s k4 4), (e.s k4 5), (e.s k4 6), (e.s k4 7), (e.s k4 8), t48, (e.s k4 10), (e.s k4 11), (e.s k4 12), (e.s k4 13), (e.s k4 14), (e.s k4 15), (e.s k4 17)], 9, t48⟩, h⟩
noncomputable def s4 (K : Oracle) (L : Looper) (e : E) (h : H) : Out :=
 sq (some ⟨.nm, ⟨[(e.s k4 0), (e.s k4 1), (.bool false), (e.s k4 5), (e.s k4 6), (e.s k4 7), (e.s k4 8), (e.s k4 9), (e.s k4 10), (e.s k4 11), (e.s k4 12), (e.s k4 13), (e.s k4 14), (e.s k4 15), (e.s k4 17)], 4, (.bool false)⟩, h⟩) fun e h =>
 sq (bc k4 [19, 20, 5] e (K 18 [(e.s k4 0)] h) fun t20 h1 =>
 some ⟨.nm, ⟨[(e.s k4 0), (e.s k4 1), (e.s k4 4), t20, (e.s k4 6), (e.s k4 7), (e.s k4 8), (e.s k4 9), (e.s k4 10), (e.s k4 11), (e.s k4 12), (e.s k4 13), (e.s k4 14), (e.s k4 15), (e.s k4 17)], 5, t20⟩, h1⟩) fun e h =>
 sq (bc k4 [21, 22, 6] e (K 19 [(e.s k4 5)] h) fun t22 h1 =>
 some ⟨.nm, ⟨[(e.s k4 0), (e.s k4 1), (e.s k4 4), (e.s k4 5), t22, (e.s k4 7), (e.s k4 8), (e.s k4 9), (e.s k4 10), (e.s k4 11), (e.s k4 12), (e.s k4 13), (e.s k4 14), (e.s k4 15), (e.s k4 17)], 6, t22⟩, h1⟩) fun e h =>
 sq (bc k4 [23, 24, 7] e (K 20 [(e.s k4 0)] h) fun t24 h1 =>
 some ⟨.nm, ⟨[(e.s k4 0), (e.s k4 1), (e.s k4 4), (e.s k4 5), (e.s k4 6), t24, (e.s k4 8), (e.s k4 9), (e.s k4 10), (e.s k4 11), (e.s k4 12), (e.s k4 13), (e.s k4 14), (e.s k4 15), (e.s k4 17)], 7, t24⟩, h1⟩) fun e h =>
 sq (sq (some ⟨.nm, ⟨[(e.s k4 0), (e.s k4 1), (e.s k4 4), (e.s k4 5), (e.s k4 6), (e.s k4 7), (.int .i64 0), (e.s k4 9), (e.s k4 10), (e.s k4 11), (e.s k4 12), (e.s k4 13), (e.s k4 14), (e.s k4 15), (e.s k4 17)], 8, (.int .i64 0)⟩, h⟩) fun e h =>
 blk 0 (L (l4_0 K L) e h)) fun e h =>
 sq (sq (some ⟨.nm, ⟨[(e.s k4 0), (e.s k4 1), (e.s k4 4), (e.s k4 5), (e.s k4 6), (e.s k4 7), (e.s k4 8), (.int .i64 0), (e.s k4 10), (e.s k4 11), (e.s k4 12), (e.s k4 13), (e.s k4 14), (e.s k4 15), (e.s k4 17)], 9, (.int .i64 0)⟩, h⟩) fun e h =>
 blk 2 (L (l4_1 K L) e h)) fun e h =>
 sq (bc k4 [91, 92, 90, 93, 94, 15, 16] e (K 21 [(e.s k4 6)] h) fun t92 h1 =>
 bd (exV t92 0) fun t93 =>
 bd (exV t92 1) fun t94 =>
 some ⟨.nm, ⟨[(e.s k4 0), (e.s k4 1), (e.s k4 4), (e.s k4 5), (e.s k4 6), (e.s k4 7), (e.s k4 8), (e.s k4 9), (e.s k4 10), (e.s k4 11), (e.s k4 12), (e.s k4 13), (e.s k4 14), t93, (e.s k4 17)], 16, t94⟩, h1⟩) fun e h =>
 sq (bc k4 [96, 97, 95, 98, 99, 17, 18] e (K 22 [(e.s k4 7)] h) fun t97 h1 =>
 bd (exV t97 0) fun t98 =>
 bd (exV t97 1) fun t99 =>
 some ⟨.nm, ⟨[(e.s k4 0), (e.s k4 1), (e.s k4 4), (e.s k4 5), (e.s k4 6), (e.s k4 7), (e.s k4 8), (e.s k4 9), (e.s k4 10), (e.s k4 11), (e.s k4 12), (e.s k4 13), (e.s k4 14), (e.s k4 15), t98], 18, t99⟩, h1⟩) fun e h =>
 sq (bd (binK 0 .eql (e.s k4 15) (e.s k4 17)) fun t102 =>
 bc k4 [100, 101, 102, 103, 104, 105, 4] e (gk t102 true h (K 17 [] h)) fun t104 h1 =>
 bd (pk t102 t104 (.bool false)) fun t105 =>
 some ⟨.nm, ⟨[(e.s k4 0), (e.s k4 1), t105, (e.s k4 5), (e.s k4 6), (e.s k4 7), (e.s k4 8), (e.s k4 9), (e.s k4 10), (e.s k4 11), (e.s k4 12), (e.s k4 13), (e.s k4 14), (e.s k4 15), (e.s k4 17)], 4, t105⟩, h1⟩) fun e h =>
 some ⟨.rt, e, h⟩
noncomputable def f4 (K : Oracle) (L : Looper) (p0 p1 : V) (h : H) : Option (Rv × H) := fin Try.prog k4 [.tmp 4] (s4 K L ⟨[p0, p1, V.und, V.und, V.und, V.und, V.und, V.und, V.und, V.und, V.und, V.und, V.und, V.und, V.und], 0, p0⟩ h)
theorem r4 : (fun K L p0 p1 h => runFF Try.prog kp K L 4 [p0, p1] h) = f4 := by kernel_rfl
theorem c4 (p0 p1 : V) (h : H) : callZ Try.prog kp 4 [p0, p1] h = f4 (callZ Try.prog kp) loopZ p0 p1 h :=
  (callZ_eqF _ _ _ _ _).trans (congrFun (congrFun (congrFun (congrFun (congrFun (r4) _) _) p0) p1) h)

/-- zoetrope/zoetropelaw02.RacBack -/
@[simp] def k5 : List Nat := [0, 2, 3, 4, 5, 6, 7, 8, 9, 10, 11, 12]
noncomputable def l5_0 (K : Oracle) (L : Looper) (e : E) (h : H) : Out :=
 sq (sq (bd (binK 0 .lss (e.s k5 5) (e.s k5 4)) fun t21 =>
 some ⟨.nm, ⟨[(e.s k5 0), (e.s k5 2), (e.s k5 3), (e.s k5 4), (e.s k5 5), (e.s k5 6), (e.s k5 7), (e.s k5 8), (e.s k5 9), (e.s k5 10), (e.s k5 11), (e.s k5 12)], 21, t21⟩, h⟩) fun e h =>
 br (e.s k5 21) (some ⟨.nm, e, h⟩)
 (some ⟨.ex 0, e, h⟩)) fun e h =>
 sq (blk 1 (sq (bd (iaS 2 (e.s k5 0) (e.s k5 5)) fun t26 =>
 bd (ldn 2 h t26) fun t27 =>
 bc k5 [24, 25, 26, 27, 28, 6] e (K 26 [t27] h) fun t28 h1 =>
 bf (nw h1 31 [(.int .u32 0), (.int .u32 0)]) fun t6 h2 =>
 bf (stZ 2 h2 t6 t28) fun _ h3 =>
 some ⟨.nm, ⟨[(e.s k5 0), (e.s k5 2), (e.s k5 3), (e.s k5 4), (e.s k5 5), t6, (e.s k5 7), (e.s k5 8), (e.s k5 9), (e.s k5 10), (e.s k5 11), (e.s k5 12)], 0, (e.s k5 0)⟩, h3⟩) fun e h =>
 sq (bd (fa 0 (e.s k5 6)) fun t30 =>
 bd (ld h t30) fun t31 =>
 bd (fa 1 (e.s k5 6)) fun t32 =>
 bd (ld h t32) fun t33 =>
 bc k5 [29, 30, 31, 32, 33, 34, 35] e (K 12 [(e.s k5 3), t31, t33] h) fun t34 h1 =>
 bd (binK 0 .neq t34 (.int .i64 0)) fun t35 =>
 some ⟨.nm, ⟨[(e.s k5 0), (e.s k5 2), (e.s k5 3), (e.s k5 4), (e.s k5 5), (e.s k5 6), (e.s k5 7), (e.s k5 8), (e.s k5 9), (e.s k5 10), (e.s k5 11), (e.s k5 12)], 35, t35⟩, h1⟩) fun e h =>
 br (e.s k5 35) (sq (some ⟨.nm, ⟨[(e.s k5 0), (.bool false), (e.s k5 3), (e.s k5 4), (e.s k5 5), (e.s k5 6), (e.s k5 7), (e.s k5 8), (e.s k5 9), (e.s k5 10), (e.s k5 11), (e.s k5 12)], 2, (.bool false)⟩, h⟩) fun e h =>
 some ⟨.rt, e, h⟩)
 (some ⟨.nm, e, h⟩))) fun e h =>
 bd (binK 0 .add (e.s k5 5) (.int .i64 1)) fun t23 =>
 some ⟨.nm, ⟨[(e.s k5 0), (e.s k5 2), (e.s k5 3), (e.s k5 4), t23, (e.s k5 6), (e.s k5 7), (e.s k5 8), (e.s k5 9), (e.s k5 10), (e.s k5 11), (e.s k5 12)], 5, t23⟩, h⟩
noncomputable def l5_1 (K : Oracle) (L : Looper) (e : E) (h : H) : Out :=
 sq (sq (bd (binK 0 .lss (e.s k5 9) (e.s k5 4)) fun t62 =>
 some ⟨.nm, ⟨[(e.s k5 0), (e.s k5 2), (e.s k5 3), (e.s k5 4), (e.s k5 5), (e.s k5 6), (e.s k5 7), (e.s k5 8), (e.s k5 9), (e.s k5 10), (e.s k5 11), (e.s k5 12)], 62, t62⟩, h⟩) fun e h =>
 br (e.s k5 62) (some ⟨.nm, e, h⟩)
 (some ⟨.ex 2, e, h⟩)) fun e h =>
 sq (blk 3 (sq (bd (iaS 2 (e.s k5 0) (e.s k5 9)) fun t67 =>
 bd (ldn 2 h t67) fun t68 =>
 bc k5 [65, 66, 67, 68, 69, 10] e (K 26 [t68] h) fun t69 h1 =>
 bf (nw h1 31 [(.int .u32 0), (.int .u32 0)]) fun t10 h2 =>
 bf (stZ 2 h2 t10 t69) fun _ h3 =>
 some ⟨.nm, ⟨[(e.s k5 0), (e.s k5 2), (e.s k5 3), (e.s k5 4), (e.s k5 5), (e.s k5 6), (e.s k5 7), (e.s k5 8), (e.s k5 9), t10, (e.s k5 11), (e.s k5 12)], 0, (e.s k5 0)⟩, h3⟩) fun e h =>
 sq (bc k5 [71, 72, 70, 73, 74, 11, 12] e (K 21 [(e.s k5 8)] h) fun t72 h1 =>
 bd (exV t72 0) fun t73 =>
 bd (exV t72 1) fun t74 =>
 some ⟨.nm, ⟨[(e.s k5 0), (e.s k5 2), (e.s k5 3), (e.s k5 4), (e.s k5 5), (e.s k5 6), (e.s k5 7), (e.s k5 8), (e.s k5 9), (e.s k5 10), t73, t74], 12, t74⟩, h1⟩) fun e h =>
 sq (bd (binK 0 .neq (e.s k5 12) (.int .i64 0)) fun t76 =>
 bd (gl t76 false (some (e.s k5 11))) fun t78 =>
 bd (gl t76 false (fa 0 (e.s k5 10))) fun t79 =>
 bd (gl t76 false (ld h t79)) fun t80 =>
 bd (gl t76 false (binK 0 .lss t78 t80)) fun t81 =>
 bd (pk t76 (.bool true) t81) fun t82 =>
 bd (gl t82 false (some (e.s k5 11))) fun t84 =>
 bd (gl t82 false (fa 1 (e.s k5 10))) fun t85 =>
 bd (gl t82 false (ld h t85)) fun t86 =>
 bd (gl t82 false (binK 0 .geq t84 t86)) fun t87 =>
 bd (pk t82 (.bool true) t87) fun t88 =>
 bd (gl t88 false (some (e.s k5 8))) fun t90 =>
 bd (gl t88 false (fa 0 (e.s k5 10))) fun t91 =>
 bd (gl t88 false (ld h t91)) fun t92 =>
 bd (gl t88 false (fa 1 (e.s k5 10))) fun t93 =>
 bd (gl t88 false (ld h t93)) fun t94 =>
 bc k5 [75, 76, 77, 78, 79, 80, 81, 82, 83, 84, 85, 86, 87, 88, 89, 90, 91, 92, 93, 94, 95, 96, 97] e (gk t88 false h (K 24 [t90, t92, t94] h)) fun t95 h1 =>
 bd (gl t88 false (binK 0 .neq t95 (.int .i64 0))) fun t96 =>
 bd (pk t88 (.bool true) t96) fun t97 =>
 some ⟨.nm, ⟨[(e.s k5 0), (e.s k5 2), (e.s k5 3), (e.s k5 4), (e.s k5 5), (e.s k5 6), (e.s k5 7), (e.s k5 8), (e.s k5 9), (e.s k5 10), (e.s k5 11), (e.s k5 12)], 97, t97⟩, h1⟩) fun e h =>
 br (e.s k5 97) (sq (some ⟨.nm, ⟨[(e.s k5 0), (.bool false), (e.s k5 3), (e.s k5 4), (e.s k5 5), (e.s k5 6), (e.s k5 7), (e.s k5 8), (e.s k5 9), (e.s k5 10), (e.s k5 11), (e.s k5 12)], 2, (.bool false)⟩, h⟩) fun e h =>
 some ⟨.rt, e, h⟩)
 (some ⟨.nm, e, h⟩))) fun e h =>
 bd (binK 0 .add (e.s k5 9) (.int .i64 1)) fun t64 =>
 some ⟨.nm, ⟨[(e.s k5 0), (e.s k5 2), (e.s k5 3), (e.s k5 4), (e.s k5 5), (e.s k5 6), (e.s k5 7), (e.s k5 8), t64, (e.s k5 10), (e.s k5 11), (e.s k5 12)], 9, t64⟩, h⟩
noncomputable def s5 (K : Oracle) (L : Looper) (e : E) (h : H) : Out :=
 sq (some ⟨.nm, ⟨[(e.s k5 0), (.bool false), (e.s k5 3), (e.s k5 4), (e.s k5 5), (e.s k5 6), (e.s k5 7), (e.s k5 8), (e.s k5 9), (e.s k5 10), (e.s k5 11), (e.s k5 12)], 2, (.bool false)⟩, h⟩) fun e h =>
 sq (sq (bc k5 [13, 14] e (K 17 [] h) fun t13 h1 =>
 bd (unV .not t13) fun t14 =>
 some ⟨.nm, ⟨[(e.s k5 0), (e.s k5 2), (e.s k5 3), (e.s k5 4), (e.s k5 5), (e.s k5 6), (e.s k5 7), (e.s k5 8), (e.s k5 9), (e.s k5 10), (e.s k5 11), (e.s k5 12)], 14, t14⟩, h1⟩) fun e h =>
 br (e.s k5 14) (sq (some ⟨.nm, ⟨[(e.s k5 0), (.bool false), (e.s k5 3), (e.s k5 4), (e.s k5 5), (e.s k5 6), (e.s k5 7), (e.s k5 8), (e.s k5 9), (e.s k5 10), (e.s k5 11), (e.s k5 12)], 2, (.bool false)⟩, h⟩) fun e h =>
 some ⟨.rt, e, h⟩)
 (some ⟨.nm, e, h⟩)) fun e h =>
 sq (bc k5 [15, 3] e (K 10 [] h) fun t15 h1 =>
 some ⟨.nm, ⟨[(e.s k5 0), (e.s k5 2), t15, (e.s k5 4), (e.s k5 5), (e.s k5 6), (e.s k5 7), (e.s k5 8), (e.s k5 9), (e.s k5 10), (e.s k5 11), (e.s k5 12)], 3, t15⟩, h1⟩) fun e h =>
 sq (bd (lnS (e.s k5 0)) fun t17 =>
 bd (minV [t17, (.int .i64 400)]) fun t18 =>
 some ⟨.nm, ⟨[(e.s k5 0), (e.s k5 2), (e.s k5 3), t18, (e.s k5 5), (e.s k5 6), (e.s k5 7), (e.s k5 8), (e.s k5 9), (e.s k5 10), (e.s k5 11), (e.s k5 12)], 4, t18⟩, h⟩) fun e h =>
 sq (sq (some ⟨.nm, ⟨[(e.s k5 0), (e.s k5 2), (e.s k5 3), (e.s k5 4), (.int .i64 0), (e.s k5 6), (e.s k5 7), (e.s k5 8), (e.s k5 9), (e.s k5 10), (e.s k5 11), (e.s k5 12)], 5, (.int .i64 0)⟩, h⟩) fun e h =>
 blk 0 (L (l5_0 K L) e h)) fun e h =>
 sq (bc k5 [36, 37, 7] e (K 14 [(e.s k5 3)] h) fun t37 h1 =>
 some ⟨.nm, ⟨[(e.s k5 0), (e.s k5 2), (e.s k5 3), (e.s k5 4), (e.s k5 5), (e.s k5 6), t37, (e.s k5 8), (e.s k5 9), (e.s k5 10), (e.s k5 11), (e.s k5 12)], 7, t37⟩, h1⟩) fun e h =>
 sq (sq (bd (lnS (e.s k5 7)) fun t39 =>
 bd (binK 0 .gtr t39 (.int .i64 0)) fun t40 =>
 bd (gl t40 true (some (e.s k5 7))) fun t42 =>
 bd (gl t40 true (some (e.s k5 7))) fun t43 =>
 bd (gl t40 true (lnS t43)) fun t44 =>
 bd (gl t40 true (binK 0 .sub t44 (.int .i64 1))) fun t45 =>
 bd (gl t40 true (iaS 1 t42 t45)) fun t46 =>
 bd (gl t40 true (ld h t46)) fun t47 =>
 bd (gl t40 true (binK 0 .eql t47 (.int .u8 0))) fun t48 =>
 bd (pk t40 t48 (.bool false)) fun t49 =>
 bd (gl t49 false (some (e.s k5 7))) fun t51 =>
 bd (gl t49 false (lnS t51)) fun t52 =>
 bd (gl t49 false (some (e.s k5 4))) fun t53 =>
 bd (gl t49 false (binK 0 .mul (.int .i64 2) t53)) fun t54 =>
 bd (gl t49 false (binK 0 .add (.int .i64 4) t54)) fun t55 =>
 bd (gl t49 false (binK 0 .gtr t52 t55)) fun t56 =>
 bd (pk t49 (.bool true) t56) fun t57 =>
 some ⟨.nm, ⟨[(e.s k5 0), (e.s k5 2), (e.s k5 3), (e.s k5 4), (e.s k5 5), (e.s k5 6), (e.s k5 7), (e.s k5 8), (e.s k5 9), (e.s k5 10), (e.s k5 11), (e.s k5 12)], 57, t57⟩, h⟩) fun e h =>
 br (e.s k5 57) (sq (some ⟨.nm, ⟨[(e.s k5 0), (.bool false), (e.s k5 3), (e.s k5 4), (e.s k5 5), (e.s k5 6), (e.s k5 7), (e.s k5 8), (e.s k5 9), (e.s k5 10), (e.s k5 11), (e.s k5 12)], 2, (.bool false)⟩, h⟩) fun e h =>
 some ⟨.rt, e, h⟩)
 (some ⟨.nm, e, h⟩)) fun e h =>
 sq (bc k5 [58, 59, 8] e (K 19 [(e.s k5 7)] h) fun t59 h1 =>
 some ⟨.nm, ⟨[(e.s k5 0), (e.s k5 2), (e.s k5 3), (e.s k5 4), (e.s k5 5), (e.s k5 6), (e.s k5 7), t59, (e.s k5 9), (e.s k5 10), (e.s k5 11), (e.s k5 12)], 8, t59⟩, h1⟩) fun e h =>
 sq (sq (some ⟨.nm, ⟨[(e.s k5 0), (e.s k5 2), (e.s k5 3), (e.s k5 4), (e.s k5 5), (e.s k5 6), (e.s k5 7), (e.s k5 8), (.int .i64 0), (e.s k5 10), (e.s k5 11), (e.s k5 12)], 9, (.int .i64 0)⟩, h⟩) fun e h =>
 blk 2 (L (l5_1 K L) e h)) fun e h =>
 sq (some ⟨.nm, ⟨[(e.s k5 0), (.bool true), (e.s k5 3), (e.s k5 4), (e.s k5 5), (e.s k5 6), (e.s k5 7), (e.s k5 8), (e.s k5 9), (e.s k5 10), (e.s k5 11), (e.s k5 12)], 2, (.bool true)⟩, h⟩) fun e h =>
 some ⟨.rt, e, h⟩
noncomputable def f5 (K : Oracle) (L : Looper) (p0 : V) (h : H) : Option (Rv × H) := fin Try.prog k5 [.tmp 2] (s5 K L ⟨[p0, V.und, V.und, V.und, V.und, V.und, V.und, V.und, V.und, V.und, V.und, V.und], 0, p0⟩ h)
theorem r5 : (fun K L p0 h => runFF Try.prog kp K L 5 [p0] h) = f5 := by kernel_rfl
theorem c5 (p0 : V) (h : H) : callZ Try.prog kp 5 [p0] h = f5 (callZ Try.prog kp) loopZ p0 h :=
  (callZ_eqF _ _ _ _ _).trans (congrFun (congrFun (congrFun (congrFun (r5) _) _) p0) h)

/-- zoetrope/zoetropelaw02.RacEndless -/
@[simp] def k6 : List Nat := [0, 1, 4, 5, 6, 7, 8, 9, 11]
noncomputable def l6_0 (K : Oracle) (L : Looper) (e : E) (h : H) : Out :=
 sq (sq (bd (lnS (e.s k6 1)) fun t18 =>
 bd (binK 0 .lss (e.s k6 6) t18) fun t19 =>
 bd (gl t19 true (some (e.s k6 6))) fun t21 =>
 bd (gl t19 true (binK 0 .lss t21 (.int .i64 500))) fun t22 =>
 bd (pk t19 t22 (.bool false)) fun t23 =>
 some ⟨.nm, ⟨[(e.s k6 0), (e.s k6 1), (e.s k6 4), (e.s k6 5), (e.s k6 6), (e.s k6 7), (e.s k6 8), (e.s k6 9), (e.s k6 11)], 23, t23⟩, h⟩) fun e h =>
 br (e.s k6 23) (some ⟨.nm, e, h⟩)
 (some ⟨.ex 0, e, h⟩)) fun e h =>
 sq (blk 1 (sq (bc k6 [27, 28, 26, 29, 30, 7, 8] e (K 21 [(e.s k6 5)] h) fun t28 h1 =>
 bd (exV t28 0) fun t29 =>
 bd (exV t28 1) fun t30 =>
 some ⟨.nm, ⟨[(e.s k6 0), (e.s k6 1), (e.s k6 4), (e.s k6 5), (e.s k6 6), t29, t30, (e.s k6 9), (e.s k6 11)], 8, t30⟩, h1⟩) fun e h =>
 sq (sq (bd (binK 0 .neq (e.s k6 8) (.int .i64 0)) fun t32 =>
 bd (gl t32 false (some (e.s k6 7))) fun t34 =>
 bd (gl t32 false (binK 0 .gtr t34 (.int .u32 32767))) fun t35 =>
 bd (pk t32 (.bool true) t35) fun t36 =>
 some ⟨.nm, ⟨[(e.s k6 0), (e.s k6 1), (e.s k6 4), (e.s k6 5), (e.s k6 6), (e.s k6 7), (e.s k6 8), (e.s k6 9), (e.s k6 11)], 36, t36⟩, h⟩) fun e h =>
 br (e.s k6 36) (sq (some ⟨.nm, ⟨[(e.s k6 0), (e.s k6 1), (.bool false), (e.s k6 5), (e.s k6 6), (e.s k6 7), (e.s k6 8), (e.s k6 9), (e.s k6 11)], 4, (.bool false)⟩, h⟩) fun e h =>
 some ⟨.rt, e, h⟩)
 (some ⟨.nm, e, h⟩)) fun e h =>
 sq (sq (bd (binK 0 .gtr (e.s k6 7) (.int .u32 0)) fun t38 =>
 bd (gl t38 true (some (e.s k6 5))) fun t40 =>
 bd (gl t38 true (some (e.s k6 7))) fun t41 =>
 bc k6 [37, 38, 39, 40, 41, 42, 43, 44, 45, 46, 47, 48, 49, 50, 51, 52, 53, 54, 55, 56, 57, 58, 59, 60, 61, 62, 63, 64, 65, 66, 67, 68] e (gk t38 true h (K 24 [t40, (.int .u32 0), t41] h)) fun t42 h1 =>
 bd (gl t38 true (binK 0 .neq t42 (.int .i64 2))) fun t43 =>
 bd (pk t38 t43 (.bool false)) fun t44 =>
 bd (gl t44 false (some (e.s k6 7))) fun t46 =>
 bd (gl t44 false (binK 0 .lss t46 (.int .u32 32767))) fun t47 =>
 bd (gl t44 false (some t47)) fun t48 =>
 bd (gl t48 true (some (e.s k6 5))) fun t49 =>
 bd (gl t48 true (some (e.s k6 7))) fun t50 =>
 bd (gl t48 true (binK 0 .add t50 (.int .u32 1))) fun t51 =>
 bc k6 [37, 38, 39, 40, 41, 42, 43, 44, 45, 46, 47, 48, 49, 50, 51, 52, 53, 54, 55, 56, 57, 58, 59, 60, 61, 62, 63, 64, 65, 66, 67, 68] e (gk t48 true h1 (K 24 [t49, t51, (.int .u32 32768)] h1)) fun t52 h2 =>
 bd (gl t48 true (binK 0 .neq t52 (.int .i64 2))) fun t53 =>
 bd (gl t44 false (pk t48 t53 (.bool false))) fun t54 =>
 bd (pk t44 (.bool true) t54) fun t55 =>
 bd (gl t55 false (some (e.s k6 5))) fun t57 =>
 bd (gl t55 false (some (e.s k6 7))) fun t58 =>
 bd (gl t55 false (some (e.s k6 7))) fun t59 =>
 bc k6 [37, 38, 39, 40, 41, 42, 43, 44, 45, 46, 47, 48, 49, 50, 51, 52, 53, 54, 55, 56, 57, 58, 59, 60, 61, 62, 63, 64, 65, 66, 67, 68] e (gk t55 false h2 (K 24 [t57, t58, t59] h2)) fun t60 h3 =>
 bd (gl t55 false (binK 0 .neq t60 (.int .i64 2))) fun t61 =>
 bd (pk t55 (.bool true) t61) fun t62 =>
 bd (gl t62 false (some (e.s k6 5))) fun t64 =>
 bd (gl t62 false (some (e.s k6 7))) fun t65 =>
 bc k6 [37, 38, 39, 40, 41, 42, 43, 44, 45, 46, 47, 48, 49, 50, 51, 52, 53, 54, 55, 56, 57, 58, 59, 60, 61, 62, 63, 64, 65, 66, 67, 68] e (gk t62 false h3 (K 24 [t64, t65, (.int .u32 32769)] h3)) fun t66 h4 =>
 bd (gl t62 false (binK 0 .neq t66 (.int .i64 2))) fun t67 =>
 bd (pk t62 (.bool true) t67) fun t68 =>
 some ⟨.nm, ⟨[(e.s k6 0), (e.s k6 1), (e.s k6 4), (e.s k6 5), (e.s k6 6), (e.s k6 7), (e.s k6 8), (e.s k6 9), (e.s k6 11)], 68, t68⟩, h4⟩) fun e h =>
 br (e.s k6 68) (sq (some ⟨.nm, ⟨[(e.s k6 0), (e.s k6 1), (.bool false), (e.s k6 5), (e.s k6 6), (e.s k6 7), (e.s k6 8), (e.s k6 9), (e.s k6 11)], 4, (.bool false)⟩, h⟩) fun e h =>
 some ⟨.rt, e, h⟩)
 (some ⟨.nm, e, h⟩)) fun e h =>
 sq (bc k6 [70, 71, 69, 72, 73, 9, 10] e (K 21 [(e.s k6 5)] h) fun t71 h1 =>
 bd (exV t71 0) fun t72 =>
 bd (exV t71 1) fun t73 =>
 some ⟨.nm, ⟨[(e.s k6 0), (e.s k6 1), (e.s k6 4), (e.s k6 5), (e.s k6 6), (e.s k6 7), (e.s k6 8), t72, (e.s k6 11)], 10, t73⟩, h1⟩) fun e h =>
 sq (bd (iaS 2 (e.s k6 1) (e.s k6 6)) fun t77 =>
 bd (ldn 2 h t77) fun t78 =>
 bc k6 [74, 75, 76, 77, 78, 79, 11] e (K 23 [(e.s k6 7), t78] h) fun t79 h1 =>
 bf (nw h1 31 [(.int .u32 0), (.int .u32 0)]) fun t11 h2 =>
 bf (stZ 2 h2 t11 t79) fun _ h3 =>
 some ⟨.nm, ⟨[(e.s k6 0), (e.s k6 1), (e.s k6 4), (e.s k6 5), (e.s k6 6), (e.s k6 7), (e.s k6 8), (e.s k6 9), t11], 0, (e.s k6 0)⟩, h3⟩) fun e h =>
 sq (bd (binK 0 .neq (e.s k6 9) (e.s k6 7)) fun t82 =>
 bd (gl t82 false (some (e.s k6 5))) fun t84 =>
 bd (gl t82 false (fa 0 (e.s k6 11))) fun t85 =>
 bd (gl t82 false (ld h t85)) fun t86 =>
 bd (gl t82 false (fa 1 (e.s k6 11))) fun t87 =>
 bd (gl t82 false (ld h t87)) fun t88 =>
 bc k6 [80, 81, 82, 83, 84, 85, 86, 87, 88, 89, 90, 91] e (gk t82 false h (K 24 [t84, t86, t88] h)) fun t89 h1 =>
 bd (gl t82 false (binK 0 .neq t89 (.int .i64 0))) fun t90 =>
 bd (pk t82 (.bool true) t90) fun t91 =>
 some ⟨.nm, ⟨[(e.s k6 0), (e.s k6 1), (e.s k6 4), (e.s k6 5), (e.s k6 6), (e.s k6 7), (e.s k6 8), (e.s k6 9), (e.s k6 11)], 91, t91⟩, h1⟩) fun e h =>
 br (e.s k6 91) (sq (some ⟨.nm, ⟨[(e.s k6 0), (e.s k6 1), (.bool false), (e.s k6 5), (e.s k6 6), (e.s k6 7), (e.s k6 8), (e.s k6 9), (e.s k6 11)], 4, (.bool false)⟩, h⟩) fun e h =>
 some ⟨.rt, e, h⟩)
 (some ⟨.nm, e, h⟩))) fun e h =>
 bd (binK 0 .add (e.s k6 6) (.int .i64 1)) fun t25 =>
 some ⟨.nm, ⟨[(e.s k6 0), (e.s k6 1), (e.s k6 4), (e.s k6 5), t25, (e.s k6 7), (e.s k6 8), (e.s k6 9), (e.s k6 11)], 6, t25⟩, h⟩
noncomputable def s6 (K : Oracle) (L : Looper) (e : E) (h : H) : Out :=
 sq (some ⟨.nm, ⟨[(e.s k6 0), (e.s k6 1), (.bool false), (e.s k6 5), (e.s k6 6), (e.s k6 7), (e.s k6 8), (e.s k6 9), (e.s k6 11)], 4, (.bool false)⟩, h⟩) fun e h =>
 sq (sq (bc k6 [12, 13] e (K 17 [] h) fun t12 h1 =>
 bd (unV .not t12) fun t13 =>
 some ⟨.nm, ⟨[(e.s k6 0), (e.s k6 1), (e.s k6 4), (e.s k6 5), (e.s k6 6), (e.s k6 7), (e.s k6 8), (e.s k6 9), (e.s k6 11)], 13, t13⟩, h1⟩) fun e h =>
 br (e.s k6 13) (sq (some ⟨.nm, ⟨[(e.s k6 0), (e.s k6 1), (.bool false), (e.s k6 5), (e.s k6 6), (e.s k6 7), (e.s k6 8), (e.s k6 9), (e.s k6 11)], 4, (.bool false)⟩, h⟩) fun e h =>
 some ⟨.rt, e, h⟩)
 (some ⟨.nm, e, h⟩)) fun e h =>
 sq (bc k6 [14, 15, 5] e (K 19 [(e.s k6 0)] h) fun t15 h1 =>
 some ⟨.nm, ⟨[(e.s k6 0), (e.s k6 1), (e.s k6 4), t15, (e.s k6 6), (e.s k6 7), (e.s k6 8), (e.s k6 9), (e.s k6 11)], 5, t15⟩, h1⟩) fun e h =>
 sq (sq (some ⟨.nm, ⟨[(e.s k6 0), (e.s k6 1), (e.s k6 4), (e.s k6 5), (.int .i64 0), (e.s k6 7), (e.s k6 8), (e.s k6 9), (e.s k6 11)], 6, (.int .i64 0)⟩, h⟩) fun e h =>
 blk 0 (L (l6_0 K L) e h)) fun e h =>
 sq (some ⟨.nm, ⟨[(e.s k6 0), (e.s k6 1), (.bool true), (e.s k6 5), (e.s k6 6), (e.s k6 7), (e.s k6 8), (e.s k6 9), (e.s k6 11)], 4, (.bool true)⟩, h⟩) fun e h =>
 some ⟨.rt, e, h⟩
noncomputable def f6 (K : Oracle) (L : Looper) (p0 p1 : V) (h : H) : Option (Rv × H) := fin Try.prog k6 [.tmp 4] (s6 K L ⟨[p0, p1, V.und, V.und, V.und, V.und, V.und, V.und, V.und], 0, p0⟩ h)
theorem r6 : (fun K L p0 p1 h => runFF Try.prog kp K L 6 [p0, p1] h) = f6 := by kernel_rfl
theorem c6 (p0 p1 : V) (h : H) : callZ Try.prog kp 6 [p0, p1] h = f6 (callZ Try.prog kp) loopZ p0 p1 h :=
  (callZ_eqF _ _ _ _ _).trans (congrFun (congrFun (congrFun (congrFun (congrFun (r6) _) _) p0) p1) h)

/-- zoetrope/zoetropelaw02.RacNoughts -/
@[simp] def k7 : List Nat := [0, 1, 2, 6, 7, 8, 9, 10, 11, 12, 13, 15, 17, 19]
noncomputable def l7_0 (K : Oracle) (L : Looper) (e : E) (h : H) : Out :=
 sq (sq (bd (binK 0 .gtr (e.s k7 7) (.int .i64 0)) fun t25 =>
 bd (gl t25 true (some (e.s k7 0))) fun t27 =>
 bd (gl t25 true (some (e.s k7 7))) fun t28 =>
 bd (gl t25 true (binK 0 .sub t28 (.int .i64 1))) fun t29 =>
 bd (gl t25 true (iaS 1 t27 t29)) fun t30 =>
 bd (gl t25 true (ld h t30)) fun t31 =>
 bd (gl t25 true (binK 0 .eql t31 (.int .u8 0))) fun t32 =>
 bd (pk t25 t32 (.bool false)) fun t33 =>
 some ⟨.nm, ⟨[(e.s k7 0), (e.s k7 1), (e.s k7 2), (e.s k7 6), (e.s k7 7), (e.s k7 8), (e.s k7 9), (e.s k7 10), (e.s k7 11), (e.s k7 12), (e.s k7 13), (e.s k7 15), (e.s k7 17), (e.s k7 19)], 33, t33⟩, h⟩) fun e h =>
 br (e.s k7 33) (some ⟨.nm, e, h⟩)
 (some ⟨.ex 0, e, h⟩)) fun e h =>
 blk 1 (bd (binK 0 .sub (e.s k7 7) (.int .i64 1)) fun t35 =>
 some ⟨.nm, ⟨[(e.s k7 0), (e.s k7 1), (e.s k7 2), (e.s k7 6), t35, (e.s k7 8), (e.s k7 9), (e.s k7 10), (e.s k7 11), (e.s k7 12), (e.s k7 13), (e.s k7 15), (e.s k7 17), (e.s k7 19)], 7, t35⟩, h⟩)
noncomputable def l7_1 (K : Oracle) (L : Looper) (e : E) (h : H) : Out :=
 sq (sq (bd (lnS (e.s k7 2)) fun t51 =>
 bd (binK 0 .lss (e.s k7 12) t51) fun t52 =>
 bd (gl t52 true (some (e.s k7 12))) fun t54 =>
 bd (gl t52 true (binK 0 .lss t54 (.int .i64 200))) fun t55 =>
 bd (pk t52 t55 (.bool false)) fun t56 =>
 some ⟨.nm, ⟨[(e.s k7 0), (e.s k7 1), (e.s k7 2), (e.s k7 6), (e.s k7 7), (e.s k7 8), (e.s k7 9), (e.s k7 10), (e.s k7 11), (e.s k7 12), (e.s k7 13), (e.s k7 15), (e.s k7 17), (e.s k7 19)], 56, t56⟩, h⟩) fun e h =>
 br (e.s k7 56) (some ⟨.nm, e, h⟩)
 (some ⟨.ex 2, e, h⟩)) fun e h =>
 sq (blk 3 (sq (bc k7 [60, 61, 59, 62, 63, 13, 14] e (K 21 [(e.s k7 9)] h) fun t61 h1 =>
 bd (exV t61 0) fun t62 =>
 bd (exV t61 1) fun t63 =>
 some ⟨.nm, ⟨[(e.s k7 0), (e.s k7 1), (e.s k7 2), (e.s k7 6), (e.s k7 7), (e.s k7 8), (e.s k7 9), (e.s k7 10), (e.s k7 11), (e.s k7 12), t62, (e.s k7 15), (e.s k7 17), (e.s k7 19)], 14, t63⟩, h1⟩) fun e h =>
 sq (bc k7 [65, 66, 64, 67, 68, 15, 16] e (K 21 [(e.s k7 10)] h) fun t66 h1 =>
 bd (exV t66 0) fun t67 =>
 bd (exV t66 1) fun t68 =>
 some ⟨.nm, ⟨[(e.s k7 0), (e.s k7 1), (e.s k7 2), (e.s k7 6), (e.s k7 7), (e.s k7 8), (e.s k7 9), (e.s k7 10), (e.s k7 11), (e.s k7 12), (e.s k7 13), t67, (e.s k7 17), (e.s k7 19)], 16, t68⟩, h1⟩) fun e h =>
 sq (bc k7 [70, 71, 69, 72, 73, 17, 18] e (K 21 [(e.s k7 11)] h) fun t71 h1 =>
 bd (exV t71 0) fun t72 =>
 bd (exV t71 1) fun t73 =>
 some ⟨.nm, ⟨[(e.s k7 0), (e.s k7 1), (e.s k7 2), (e.s k7 6), (e.s k7 7), (e.s k7 8), (e.s k7 9), (e.s k7 10), (e.s k7 11), (e.s k7 12), (e.s k7 13), (e.s k7 15), t72, (e.s k7 19)], 18, t73⟩, h1⟩) fun e h =>
 sq (bd (iaS 2 (e.s k7 2) (e.s k7 12)) fun t77 =>
 bd (ldn 2 h t77) fun t78 =>
 bc k7 [74, 75, 76, 77, 78, 79, 19] e (K 23 [(e.s k7 13), t78] h) fun t79 h1 =>
 bf (nw h1 31 [(.int .u32 0), (.int .u32 0)]) fun t19 h2 =>
 bf (stZ 2 h2 t19 t79) fun _ h3 =>
 some ⟨.nm, ⟨[(e.s k7 0), (e.s k7 1), (e.s k7 2), (e.s k7 6), (e.s k7 7), (e.s k7 8), (e.s k7 9), (e.s k7 10), (e.s k7 11), (e.s k7 12), (e.s k7 13), (e.s k7 15), (e.s k7 17), t19], 0, (e.s k7 0)⟩, h3⟩) fun e h =>
 sq (bd (binK 0 .neq (e.s k7 13) (e.s k7 15)) fun t82 =>
 bd (gl t82 false (some (e.s k7 13))) fun t84 =>
 bd (gl t82 false (some (e.s k7 17))) fun t85 =>
 bd (gl t82 false (binK 0 .neq t84 t85)) fun t86 =>
 bd (pk t82 (.bool true) t86) fun t87 =>
 bd (gl t87 false (some (e.s k7 9))) fun t89 =>
 bd (gl t87 false (fa 0 (e.s k7 19))) fun t90 =>
 bd (gl t87 false (ld h t90)) fun t91 =>
 bd (gl t87 false (fa 1 (e.s k7 19))) fun t92 =>
 bd (gl t87 false (ld h t92)) fun t93 =>
 bc k7 [80, 81, 82, 83, 84, 85, 86, 87, 88, 89, 90, 91, 92, 93, 94, 95, 96, 97, 98, 99, 100, 101, 102, 103, 104, 105, 106, 107, 108, 109, 110, 111, 112, 113, 114] e (gk t87 false h (K 24 [t89, t91, t93] h)) fun t94 h1 =>
 bd (gl t87 false (binK 0 .neq t94 (.int .i64 0))) fun t95 =>
 bd (pk t87 (.bool true) t95) fun t96 =>
 bd (gl t96 false (some (e.s k7 10))) fun t98 =>
 bd (gl t96 false (fa 0 (e.s k7 19))) fun t99 =>
 bd (gl t96 false (ld h1 t99)) fun t100 =>
 bd (gl t96 false (fa 1 (e.s k7 19))) fun t101 =>
 bd (gl t96 false (ld h1 t101)) fun t102 =>
 bc k7 [80, 81, 82, 83, 84, 85, 86, 87, 88, 89, 90, 91, 92, 93, 94, 95, 96, 97, 98, 99, 100, 101, 102, 103, 104, 105, 106, 107, 108, 109, 110, 111, 112, 113, 114] e (gk t96 false h1 (K 24 [t98, t100, t102] h1)) fun t103 h2 =>
 bd (gl t96 false (binK 0 .neq t103 (.int .i64 0))) fun t104 =>
 bd (pk t96 (.bool true) t104) fun t105 =>
 bd (gl t105 false (some (e.s k7 11))) fun t107 =>
 bd (gl t105 false (fa 0 (e.s k7 19))) fun t108 =>
 bd (gl t105 false (ld h2 t108)) fun t109 =>
 bd (gl t105 false (fa 1 (e.s k7 19))) fun t110 =>
 bd (gl t105 false (ld h2 t110)) fun t111 =>
 bc k7 [80, 81, 82, 83, 84, 85, 86, 87, 88, 89, 90, 91, 92, 93, 94, 95, 96, 97, 98, 99, 100, 101, 102, 103, 104, 105, 106, 107, 108, 109, 110, 111, 112, 113, 114] e (gk t105 false h2 (K 24 [t107, t109, t111] h2)) fun t112 h3 =>
 bd (gl t105 false (binK 0 .neq t112 (.int .i64 0))) fun t113 =>
 bd (pk t105 (.bool true) t113) fun t114 =>
 some ⟨.nm, ⟨[(e.s k7 0), (e.s k7 1), (e.s k7 2), (e.s k7 6), (e.s k7 7), (e.s k7 8), (e.s k7 9), (e.s k7 10), (e.s k7 11), (e.s k7 12), (e.s k7 13), (e.s k7 15), (e.s k7 17), (e.s k7 19)], 114, t114⟩, h3⟩) fun e h =>
 br (e.s k7 114) (sq (some ⟨.nm, ⟨[(e.s k7 0), (e.s k7 1), (e.s k7 2), (.bool false), (e.s k7 7), (e.s k7 8), (e.s k7 9), (e.s k7 10), (e.s k7 11), (e.s k7 12), (e.s k7 13), (e.s k7 15), (e.s k7 17), (e.s k7 19)], 6, (.bool false)⟩, h⟩) fun e h =>
 some ⟨.rt, e, h⟩)
 (some ⟨.nm, e, h⟩))) fun e h =>
 bd (binK 0 .add (e.s k7 12) (.int .i64 1)) fun t58 =>
 some ⟨.nm, ⟨[(e.s k7 0), (e.s k7 1), (e.s k7 2), (e.s k7 6), (e.s k7 7), (e.s k7 8), (e.s k7 9), (e.s k7 10), (e.s k7 11), t58, (e.s k7 13), (e.s k7 15), (e.s k7 17), (e.s k7 19)], 12, t58⟩, h⟩
noncomputable def s7 (K : Oracle) (L : Looper) (e : E) (h : H) : Out :=
 sq (some ⟨.nm, ⟨[(e.s k7 0), (e.s k7 1), (e.s k7 2), (.bool false), (e.s k7 7), (e.s k7 8), (e.s k7 9), (e.s k7 10), (e.s k7 11), (e.s k7 12), (e.s k7 13), (e.s k7 15), (e.s k7 17), (e.s k7 19)], 6, (.bool false)⟩, h⟩) fun e h =>
 sq (sq (bc k7 [20, 21] e (K 17 [] h) fun t20 h1 =>
 bd (unV .not t20) fun t21 =>
 some ⟨.nm, ⟨[(e.s k7 0), (e.s k7 1), (e.s k7 2), (e.s k7 6), (e.s k7 7), (e.s k7 8), (e.s k7 9), (e.s k7 10), (e.s k7 11), (e.s k7 12), (e.s k7 13), (e.s k7 15), (e.s k7 17), (e.s k7 19)], 21, t21⟩, h1⟩) fun e h =>
 br (e.s k7 21) (sq (some ⟨.nm, ⟨[(e.s k7 0), (e.s k7 1), (e.s k7 2), (.bool false), (e.s k7 7), (e.s k7 8), (e.s k7 9), (e.s k7 10), (e.s k7 11), (e.s k7 12), (e.s k7 13), (e.s k7 15), (e.s k7 17), (e.s k7 19)], 6, (.bool false)⟩, h⟩) fun e h =>
 some ⟨.rt, e, h⟩)
 (some ⟨.nm, e, h⟩)) fun e h =>
 sq (bd (lnS (e.s k7 0)) fun t23 =>
 some ⟨.nm, ⟨[(e.s k7 0), (e.s k7 1), (e.s k7 2), (e.s k7 6), t23, (e.s k7 8), (e.s k7 9), (e.s k7 10), (e.s k7 11), (e.s k7 12), (e.s k7 13), (e.s k7 15), (e.s k7 17), (e.s k7 19)], 7, t23⟩, h⟩) fun e h =>
 sq (blk 0 (L (l7_0 K L) e h)) fun e h =>
 sq (bc k7 [36, 37, 38, 39, 40, 8] e (K 18 [(e.s k7 0)] h) fun t37 h1 =>
 bc k7 [36, 37, 38, 39, 40, 8] e (K 27 [(e.s k7 1), (.int .i64 9)] h1) fun t39 h2 =>
 bf (apM [(.int .u8 0)] 5 1 1 h2 t37 t39) fun t40 h3 =>
 some ⟨.nm, ⟨[(e.s k7 0), (e.s k7 1), (e.s k7 2), (e.s k7 6), (e.s k7 7), t40, (e.s k7 9), (e.s k7 10), (e.s k7 11), (e.s k7 12), (e.s k7 13), (e.s k7 15), (e.s k7 17), (e.s k7 19)], 8, t40⟩, h3⟩) fun e h =>
 sq (bn (K 19 [(e.s k7 0)] h) fun t42 h1 =>
 bd (slS 1 (e.s k7 0) none (some (e.s k7 7)) none) fun t45 =>
 bn (K 19 [t45] h1) fun t46 h2 =>
 bn (K 19 [(e.s k7 8)] h2) fun t48 h3 =>
 some ⟨.nm, ⟨[(e.s k7 0), (e.s k7 1), (e.s k7 2), (e.s k7 6), (e.s k7 7), (e.s k7 8), t42, t46, t48, (e.s k7 12), (e.s k7 13), (e.s k7 15), (e.s k7 17), (e.s k7 19)], 11, t48⟩, h3⟩) fun e h =>
 sq (sq (some ⟨.nm, ⟨[(e.s k7 0), (e.s k7 1), (e.s k7 2), (e.s k7 6), (e.s k7 7), (e.s k7 8), (e.s k7 9), (e.s k7 10), (e.s k7 11), (.int .i64 0), (e.s k7 13), (e.s k7 15), (e.s k7 17), (e.s k7 19)], 12, (.int .i64 0)⟩, h⟩) fun e h =>
 blk 2 (L (l7_1 K L) e h)) fun e h =>
 sq (some ⟨.nm, ⟨[(e.s k7 0), (e.s k7 1), (e.s k7 2), (.bool true), (e.s k7 7), (e.s k7 8), (e.s k7 9), (e.s k7 10), (e.s k7 11), (e.s k7 12), (e.s k7 13), (e.s k7 15), (e.s k7 17), (e.s k7 19)], 6, (.bool true)⟩, h⟩) fun e h =>
 some ⟨.rt, e, h⟩
noncomputable def f7 (K : Oracle) (L : Looper) (p0 p1 p2 : V) (h : H) : Option (Rv × H) := fin Try.prog k7 [.tmp 6] (s7 K L ⟨[p0, p1, p2, V.und, V.und, V.und, V.und, V.und, V.und, V.und, V.und, V.und, V.und, V.und], 0, p0⟩ h)
theorem r7 : (fun K L p0 p1 p2 h => runFF Try.prog kp K L 7 [p0, p1, p2] h) = f7 := by kernel_rfl
theorem c7 (p0 p1 p2 : V) (h : H) : callZ Try.prog kp 7 [p0, p1, p2] h = f7 (callZ Try.prog kp) loopZ p0 p1 p2 h :=
  (callZ_eqF _ _ _ _ _).trans (congrFun (congrFun (congrFun (congrFun (congrFun (congrFun (r7) _) _) p0) p1) p2) h)

/-- zoetrope/zoetropelaw02.RacAll -/
@[simp] def k8 : List Nat := [0, 1, 4, 5, 6, 7, 8, 9, 10, 11, 13, 15]
noncomputable def l8_0 (K : Oracle) (L : Looper) (e : E) (h : H) : Out :=
 sq (sq (bd (lnS (e.s k8 0)) fun t26 =>
 bd (binK 0 .lss (e.s k8 9) t26) fun t27 =>
 bd (gl t27 true (some (e.s k8 9))) fun t29 =>
 bd (gl t27 true (binK 0 .lss t29 (.int .i64 100))) fun t30 =>
 bd (pk t27 t30 (.bool false)) fun t31 =>
 some ⟨.nm, ⟨[(e.s k8 0), (e.s k8 1), (e.s k8 4), (e.s k8 5), (e.s k8 6), (e.s k8 7), (e.s k8 8), (e.s k8 9), (e.s k8 10), (e.s k8 11), (e.s k8 13), (e.s k8 15)], 31, t31⟩, h⟩) fun e h =>
 br (e.s k8 31) (some ⟨.nm, e, h⟩)
 (some ⟨.ex 0, e, h⟩)) fun e h =>
 sq (blk 1 (sq (bd (iaS 2 (e.s k8 0) (e.s k8 9)) fun t36 =>
 bd (ldn 2 h t36) fun t37 =>
 bc k8 [34, 35, 36, 37, 38, 10] e (K 26 [t37] h) fun t38 h1 =>
 bf (nw h1 31 [(.int .u32 0), (.int .u32 0)]) fun t10 h2 =>
 bf (stZ 2 h2 t10 t38) fun _ h3 =>
 some ⟨.nm, ⟨[(e.s k8 0), (e.s k8 1), (e.s k8 4), (e.s k8 5), (e.s k8 6), (e.s k8 7), (e.s k8 8), (e.s k8 9), t10, (e.s k8 11), (e.s k8 13), (e.s k8 15)], 0, (e.s k8 0)⟩, h3⟩) fun e h =>
 sq (sq (bd (fa 0 (e.s k8 10)) fun t40 =>
 bd (ld h t40) fun t41 =>
 bd (fa 1 (e.s k8 10)) fun t42 =>
 bd (ld h t42) fun t43 =>
 bc k8 [39, 40, 41, 42, 43, 44, 45, 46, 47, 48, 49, 50, 51, 52, 53, 54, 55, 56, 57, 58, 59, 60, 61, 62, 63, 64, 65, 66, 67, 68, 69, 70, 71, 72, 73, 74, 75, 76] e (K 12 [(e.s k8 5), t41, t43] h) fun t44 h1 =>
 bd (binK 0 .neq t44 (.int .i64 0)) fun t45 =>
 bd (gl t45 false (some (e.s k8 6))) fun t47 =>
 bc k8 [39, 40, 41, 42, 43, 44, 45, 46, 47, 48, 49, 50, 51, 52, 53, 54, 55, 56, 57, 58, 59, 60, 61, 62, 63, 64, 65, 66, 67, 68, 69, 70, 71, 72, 73, 74, 75, 76] e (gk t45 false h1 (K 12 [t47, (.int .u32 0), (.int .u32 32768)] h1)) fun t48 h2 =>
 bd (gl t45 false (binK 0 .neq t48 (.int .i64 0))) fun t49 =>
 bd (pk t45 (.bool true) t49) fun t50 =>
 bd (gl t50 false (some (e.s k8 6))) fun t52 =>
 bd (gl t50 false (fa 1 (e.s k8 10))) fun t53 =>
 bd (gl t50 false (ld h2 t53)) fun t54 =>
 bd (gl t50 false (fa 0 (e.s k8 10))) fun t55 =>
 bd (gl t50 false (ld h2 t55)) fun t56 =>
 bc k8 [39, 40, 41, 42, 43, 44, 45, 46, 47, 48, 49, 50, 51, 52, 53, 54, 55, 56, 57, 58, 59, 60, 61, 62, 63, 64, 65, 66, 67, 68, 69, 70, 71, 72, 73, 74, 75, 76] e (gk t50 false h2 (K 12 [t52, t54, t56] h2)) fun t57 h3 =>
 bd (gl t50 false (binK 0 .neq t57 (.int .i64 2))) fun t58 =>
 bd (pk t50 (.bool true) t58) fun t59 =>
 bd (gl t59 false (some (e.s k8 6))) fun t61 =>
 bd (gl t59 false (fa 0 (e.s k8 10))) fun t62 =>
 bd (gl t59 false (ld h3 t62)) fun t63 =>
 bd (gl t59 false (fa 1 (e.s k8 10))) fun t64 =>
 bd (gl t59 false (ld h3 t64)) fun t65 =>
 bc k8 [39, 40, 41, 42, 43, 44, 45, 46, 47, 48, 49, 50, 51, 52, 53, 54, 55, 56, 57, 58, 59, 60, 61, 62, 63, 64, 65, 66, 67, 68, 69, 70, 71, 72, 73, 74, 75, 76] e (gk t59 false h3 (K 12 [t61, t63, t65] h3)) fun t66 h4 =>
 bd (gl t59 false (binK 0 .neq t66 (.int .i64 0))) fun t67 =>
 bd (pk t59 (.bool true) t67) fun t68 =>
 bd (gl t68 false (some (e.s k8 5))) fun t70 =>
 bc k8 [39, 40, 41, 42, 43, 44, 45, 46, 47, 48, 49, 50, 51, 52, 53, 54, 55, 56, 57, 58, 59, 60, 61, 62, 63, 64, 65, 66, 67, 68, 69, 70, 71, 72, 73, 74, 75, 76] e (gk t68 false h4 (K 14 [t70] h4)) fun t71 h5 =>
 bd (gl t68 false (some (e.s k8 6))) fun t72 =>
 bc k8 [39, 40, 41, 42, 43, 44, 45, 46, 47, 48, 49, 50, 51, 52, 53, 54, 55, 56, 57, 58, 59, 60, 61, 62, 63, 64, 65, 66, 67, 68, 69, 70, 71, 72, 73, 74, 75, 76] e (gk t68 false h5 (K 14 [t72] h5)) fun t73 h6 =>
 bc k8 [39, 40, 41, 42, 43, 44, 45, 46, 47, 48, 49, 50, 51, 52, 53, 54, 55, 56, 57, 58, 59, 60, 61, 62, 63, 64, 65, 66, 67, 68, 69, 70, 71, 72, 73, 74, 75, 76] e (gk t68 false h6 (K 15 [t71, t73] h6)) fun t74 h7 =>
 bd (gl t68 false (unV .not t74)) fun t75 =>
 bd (pk t68 (.bool true) t75) fun t76 =>
 some ⟨.nm, ⟨[(e.s k8 0), (e.s k8 1), (e.s k8 4), (e.s k8 5), (e.s k8 6), (e.s k8 7), (e.s k8 8), (e.s k8 9), (e.s k8 10), (e.s k8 11), (e.s k8 13), (e.s k8 15)], 76, t76⟩, h7⟩) fun e h =>
 br (e.s k8 76) (sq (some ⟨.nm, ⟨[(e.s k8 0), (e.s k8 1), (.bool false), (e.s k8 5), (e.s k8 6), (e.s k8 7), (e.s k8 8), (e.s k8 9), (e.s k8 10), (e.s k8 11), (e.s k8 13), (e.s k8 15)], 4, (.bool false)⟩, h⟩) fun e h =>
 some ⟨.rt, e, h⟩)
 (some ⟨.nm, e, h⟩)) fun e h =>
 sq (bc k8 [78, 79, 77, 80, 81, 11, 12] e (K 21 [(e.s k8 7)] h) fun t79 h1 =>
 bd (exV t79 0) fun t80 =>
 bd (exV t79 1) fun t81 =>
 some ⟨.nm, ⟨[(e.s k8 0), (e.s k8 1), (e.s k8 4), (e.s k8 5), (e.s k8 6), (e.s k8 7), (e.s k8 8), (e.s k8 9), (e.s k8 10), t80, (e.s k8 13), (e.s k8 15)], 12, t81⟩, h1⟩) fun e h =>
 sq (bc k8 [83, 84, 82, 85, 86, 13, 14] e (K 21 [(e.s k8 8)] h) fun t84 h1 =>
 bd (exV t84 0) fun t85 =>
 bd (exV t84 1) fun t86 =>
 some ⟨.nm, ⟨[(e.s k8 0), (e.s k8 1), (e.s k8 4), (e.s k8 5), (e.s k8 6), (e.s k8 7), (e.s k8 8), (e.s k8 9), (e.s k8 10), (e.s k8 11), t85, (e.s k8 15)], 14, t86⟩, h1⟩) fun e h =>
 sq (bd (iaS 2 (e.s k8 0) (e.s k8 9)) fun t90 =>
 bd (ldn 2 h t90) fun t91 =>
 bc k8 [87, 88, 89, 90, 91, 92, 15] e (K 23 [(e.s k8 11), t91] h) fun t92 h1 =>
 bf (nw h1 31 [(.int .u32 0), (.int .u32 0)]) fun t15 h2 =>
 bf (stZ 2 h2 t15 t92) fun _ h3 =>
 some ⟨.nm, ⟨[(e.s k8 0), (e.s k8 1), (e.s k8 4), (e.s k8 5), (e.s k8 6), (e.s k8 7), (e.s k8 8), (e.s k8 9), (e.s k8 10), (e.s k8 11), (e.s k8 13), t15], 0, (e.s k8 0)⟩, h3⟩) fun e h =>
 sq (bd (binK 0 .neq (e.s k8 11) (e.s k8 13)) fun t95 =>
 bd (gl t95 false (some (e.s k8 7))) fun t97 =>
 bd (gl t95 false (fa 0 (e.s k8 15))) fun t98 =>
 bd (gl t95 false (ld h t98)) fun t99 =>
 bd (gl t95 false (fa 1 (e.s k8 15))) fun t100 =>
 bd (gl t95 false (ld h t100)) fun t101 =>
 bc k8 [93, 94, 95, 96, 97, 98, 99, 100, 101, 102, 103, 104, 105, 106, 107, 108, 109, 110, 111, 112, 113, 114, 115, 116, 117, 118] e (gk t95 false h (K 24 [t97, t99, t101] h)) fun t102 h1 =>
 bd (gl t95 false (binK 0 .neq t102 (.int .i64 0))) fun t103 =>
 bd (pk t95 (.bool true) t103) fun t104 =>
 bd (gl t104 false (some (e.s k8 8))) fun t106 =>
 bc k8 [93, 94, 95, 96, 97, 98, 99, 100, 101, 102, 103, 104, 105, 106, 107, 108, 109, 110, 111, 112, 113, 114, 115, 116, 117, 118] e (gk t104 false h1 (K 24 [t106, (.int .u32 0), (.int .u32 32768)] h1)) fun t107 h2 =>
 bd (gl t104 false (binK 0 .neq t107 (.int .i64 0))) fun t108 =>
 bd (pk t104 (.bool true) t108) fun t109 =>
 bd (gl t109 false (some (e.s k8 8))) fun t111 =>
 bd (gl t109 false (fa 0 (e.s k8 15))) fun t112 =>
 bd (gl t109 false (ld h2 t112)) fun t113 =>
 bd (gl t109 false (fa 1 (e.s k8 15))) fun t114 =>
 bd (gl t109 false (ld h2 t114)) fun t115 =>
 bc k8 [93, 94, 95, 96, 97, 98, 99, 100, 101, 102, 103, 104, 105, 106, 107, 108, 109, 110, 111, 112, 113, 114, 115, 116, 117, 118] e (gk t109 false h2 (K 24 [t111, t113, t115] h2)) fun t116 h3 =>
 bd (gl t109 false (binK 0 .neq t116 (.int .i64 0))) fun t117 =>
 bd (pk t109 (.bool true) t117) fun t118 =>
 some ⟨.nm, ⟨[(e.s k8 0), (e.s k8 1), (e.s k8 4), (e.s k8 5), (e.s k8 6), (e.s k8 7), (e.s k8 8), (e.s k8 9), (e.s k8 10), (e.s k8 11), (e.s k8 13), (e.s k8 15)], 118, t118⟩, h3⟩) fun e h =>
 br (e.s k8 118) (sq (some ⟨.nm, ⟨[(e.s k8 0), (e.s k8 1), (.bool false), (e.s k8 5), (e.s k8 6), (e.s k8 7), (e.s k8 8), (e.s k8 9), (e.s k8 10), (e.s k8 11), (e.s k8 13), (e.s k8 15)], 4, (.bool false)⟩, h⟩) fun e h =>
 some ⟨.rt, e, h⟩)
 (some ⟨.nm, e, h⟩))) fun e h =>
 bd (binK 0 .add (e.s k8 9) (.int .i64 1)) fun t33 =>
 some ⟨.nm, ⟨[(e.s k8 0), (e.s k8 1), (e.s k8 4), (e.s k8 5), (e.s k8 6), (e.s k8 7), (e.s k8 8), t33, (e.s k8 10), (e.s k8 11), (e.s k8 13), (e.s k8 15)], 9, t33⟩, h⟩
noncomputable def s8 (K : Oracle) (L : Looper) (e : E) (h : H) : Out :=
 sq (some ⟨.nm, ⟨[(e.s k8 0), (e.s k8 1), (.bool false), (e.s k8 5), (e.s k8 6), (e.s k8 7), (e.s k8 8), (e.s k8 9), (e.s k8 10), (e.s k8 11), (e.s k8 13), (e.s k8 15)], 4, (.bool false)⟩, h⟩) fun e h =>
 sq (sq (bc k8 [16, 17] e (K 17 [] h) fun t16 h1 =>
 bd (unV .not t16) fun t17 =>
 some ⟨.nm, ⟨[(e.s k8 0), (e.s k8 1), (e.s k8 4), (e.s k8 5), (e.s k8 6), (e.s k8 7), (e.s k8 8), (e.s k8 9), (e.s k8 10), (e.s k8 11), (e.s k8 13), (e.s k8 15)], 17, t17⟩, h1⟩) fun e h =>
 br (e.s k8 17) (sq (some ⟨.nm, ⟨[(e.s k8 0), (e.s k8 1), (.bool false), (e.s k8 5), (e.s k8 6), (e.s k8 7), (e.s k8 8), (e.s k8 9), (e.s k8 10), (e.s k8 11), (e.s k8 13), (e.s k8 15)], 4, (.bool false)⟩, h⟩) fun e h =>
 some ⟨.rt, e, h⟩)
 (some ⟨.nm, e, h⟩)) fun e h =>
 sq (bc k8 [18, 19, 5, 6] e (K 10 [] h) fun t18 h1 =>
 bc k8 [18, 19, 5, 6] e (K 10 [] h1) fun t19 h2 =>
 some ⟨.nm, ⟨[(e.s k8 0), (e.s k8 1), (e.s k8 4), t18, t19, (e.s k8 7), (e.s k8 8), (e.s k8 9), (e.s k8 10), (e.s k8 11), (e.s k8 13), (e.s k8 15)], 6, t19⟩, h2⟩) fun e h =>
 sq (bc k8 [20, 21, 22, 23, 7, 8] e (K 19 [(e.s k8 1)] h) fun t21 h1 =>
 bc k8 [20, 21, 22, 23, 7, 8] e (K 19 [(e.s k8 1)] h1) fun t23 h2 =>
 some ⟨.nm, ⟨[(e.s k8 0), (e.s k8 1), (e.s k8 4), (e.s k8 5), (e.s k8 6), t21, t23, (e.s k8 9), (e.s k8 10), (e.s k8 11), (e.s k8 13), (e.s k8 15)], 8, t23⟩, h2⟩) fun e h =>
 sq (sq (some ⟨.nm, ⟨[(e.s k8 0), (e.s k8 1), (e.s k8 4), (e.s k8 5), (e.s k8 6), (e.s k8 7), (e.s k8 8), (.int .i64 0), (e.s k8 10), (e.s k8 11), (e.s k8 13), (e.s k8 15)], 9, (.int .i64 0)⟩, h⟩) fun e h =>
 blk 0 (L (l8_0 K L) e h)) fun e h =>
 sq (some ⟨.nm, ⟨[(e.s k8 0), (e.s k8 1), (.bool true), (e.s k8 5), (e.s k8 6), (e.s k8 7), (e.s k8 8), (e.s k8 9), (e.s k8 10), (e.s k8 11), (e.s k8 13), (e.s k8 15)], 4, (.bool true)⟩, h⟩) fun e h =>
 some ⟨.rt, e, h⟩
noncomputable def f8 (K : Oracle) (L : Looper) (p0 p1 : V) (h : H) : Option (Rv × H) := fin Try.prog k8 [.tmp 4] (s8 K L ⟨[p0, p1, V.und, V.und, V.und, V.und, V.und, V.und, V.und, V.und, V.und, V.und], 0, p0⟩ h)
theorem r8 : (fun K L p0 p1 h => runFF Try.prog kp K L 8 [p0, p1] h) = f8 := by kernel_rfl
theorem c8 (p0 p1 : V) (h : H) : callZ Try.prog kp 8 [p0, p1] h = f8 (callZ Try.prog kp) loopZ p0 p1 h :=
  (callZ_eqF _ _ _ _ _).trans (congrFun (congrFun (congrFun (congrFun (congrFun (r8) _) _) p0) p1) h)

/-- zoetrope/zoetropelaw02.RacKnown -/
@[simp] def k9 : List Nat := [0, 1, 2, 3, 4, 5, 6, 7, 8, 9, 10, 11, 12, 14, 15, 17, 18, 19, 20, 22, 23, 24, 25, 26, 27, 29]
noncomputable def l9_0 (K : Oracle) (L : Looper) (e : E) (h : H) : Out :=
 sq (sq (bd (binK 0 .lss (e.s k9 19) (.int .i64 40)) fun t130 =>
 some ⟨.nm, ⟨[(e.s k9 0), (e.s k9 1), (e.s k9 2), (e.s k9 3), (e.s k9 4), (e.s k9 5), (e.s k9 6), (e.s k9 7), (e.s k9 8), (e.s k9 9), (e.s k9 10), (e.s k9 11), (e.s k9 12), (e.s k9 14), (e.s k9 15), (e.s k9 17), (e.s k9 18), (e.s k9 19), (e.s k9 20), (e.s k9 22), (e.s k9 23), (e.s k9 24), (e.s k9 25), (e.s k9 26), (e.s k9 27), (e.s k9 29)], 130, t130⟩, h⟩) fun e h =>
 br (e.s k9 130) (some ⟨.nm, e, h⟩)
 (some ⟨.ex 0, e, h⟩)) fun e h =>
 sq (blk 1 (sq (bc k9 [134, 135, 133, 136, 137, 20, 21] e (K 21 [(e.s k9 18)] h) fun t135 h1 =>
 bd (exV t135 0) fun t136 =>
 bd (exV t135 1) fun t137 =>
 some ⟨.nm, ⟨[(e.s k9 0), (e.s k9 1), (e.s k9 2), (e.s k9 3), (e.s k9 4), (e.s k9 5), (e.s k9 6), (e.s k9 7), (e.s k9 8), (e.s k9 9), (e.s k9 10), (e.s k9 11), (e.s k9 12), (e.s k9 14), (e.s k9 15), (e.s k9 17), (e.s k9 18), (e.s k9 19), t136, (e.s k9 22), (e.s k9 23), (e.s k9 24), (e.s k9 25), (e.s k9 26), (e.s k9 27), (e.s k9 29)], 21, t137⟩, h1⟩) fun e h =>
 sq (bd (binK 0 .gtr (e.s k9 20) (.int .u32 32767)) fun t139 =>
 bd (gl t139 false (some (e.s k9 18))) fun t141 =>
 bd (gl t139 false (some (e.s k9 20))) fun t142 =>
 bc k9 [138, 139, 140, 141, 142, 143, 144, 145] e (gk t139 false h (K 24 [t141, t142, (.int .u32 32768)] h)) fun t143 h1 =>
 bd (gl t139 false (binK 0 .neq t143 (.int .i64 0))) fun t144 =>
 bd (pk t139 (.bool true) t144) fun t145 =>
 some ⟨.nm, ⟨[(e.s k9 0), (e.s k9 1), (e.s k9 2), (e.s k9 3), (e.s k9 4), (e.s k9 5), (e.s k9 6), (e.s k9 7), (e.s k9 8), (e.s k9 9), (e.s k9 10), (e.s k9 11), (e.s k9 12), (e.s k9 14), (e.s k9 15), (e.s k9 17), (e.s k9 18), (e.s k9 19), (e.s k9 20), (e.s k9 22), (e.s k9 23), (e.s k9 24), (e.s k9 25), (e.s k9 26), (e.s k9 27), (e.s k9 29)], 145, t145⟩, h1⟩) fun e h =>
 br (e.s k9 145) (sq (some ⟨.nm, ⟨[(.bool false), (e.s k9 1), (e.s k9 2), (e.s k9 3), (e.s k9 4), (e.s k9 5), (e.s k9 6), (e.s k9 7), (e.s k9 8), (e.s k9 9), (e.s k9 10), (e.s k9 11), (e.s k9 12), (e.s k9 14), (e.s k9 15), (e.s k9 17), (e.s k9 18), (e.s k9 19), (e.s k9 20), (e.s k9 22), (e.s k9 23), (e.s k9 24), (e.s k9 25), (e.s k9 26), (e.s k9 27), (e.s k9 29)], 0, (.bool false)⟩, h⟩) fun e h =>
 some ⟨.rt, e, h⟩)
 (some ⟨.nm, e, h⟩))) fun e h =>
 bd (binK 0 .add (e.s k9 19) (.int .i64 1)) fun t132 =>
 some ⟨.nm, ⟨[(e.s k9 0), (e.s k9 1), (e.s k9 2), (e.s k9 3), (e.s k9 4), (e.s k9 5), (e.s k9 6), (e.s k9 7), (e.s k9 8), (e.s k9 9), (e.s k9 10), (e.s k9 11), (e.s k9 12), (e.s k9 14), (e.s k9 15), (e.s k9 17), (e.s k9 18), t132, (e.s k9 20), (e.s k9 22), (e.s k9 23), (e.s k9 24), (e.s k9 25), (e.s k9 26), (e.s k9 27), (e.s k9 29)], 19, t132⟩, h⟩
noncomputable def l9_1 (K : Oracle) (L : Looper) (e : E) (h : H) : Out :=
 sq (sq (bd (binK 0 .lss (e.s k9 23) (.int .i64 9)) fun t148 =>
 some ⟨.nm, ⟨[(e.s k9 0), (e.s k9 1), (e.s k9 2), (e.s k9 3), (e.s k9 4), (e.s k9 5), (e.s k9 6), (e.s k9 7), (e.s k9 8), (e.s k9 9), (e.s k9 10), (e.s k9 11), (e.s k9 12), (e.s k9 14), (e.s k9 15), (e.s k9 17), (e.s k9 18), (e.s k9 19), (e.s k9 20), (e.s k9 22), (e.s k9 23), (e.s k9 24), (e.s k9 25), (e.s k9 26), (e.s k9 27), (e.s k9 29)], 148, t148⟩, h⟩) fun e h =>
 br (e.s k9 148) (some ⟨.nm, e, h⟩)
 (some ⟨.ex 2, e, h⟩)) fun e h =>
 sq (blk 3 (sq (bc k9 [151, 152, 153] e (K 12 [(e.s k9 22), (.int .u32 32767), (.int .u32 32768)] h) fun t152 h1 =>
 bd (binK 0 .neq t152 (.int .i64 0)) fun t153 =>
 some ⟨.nm, ⟨[(e.s k9 0), (e.s k9 1), (e.s k9 2), (e.s k9 3), (e.s k9 4), (e.s k9 5), (e.s k9 6), (e.s k9 7), (e.s k9 8), (e.s k9 9), (e.s k9 10), (e.s k9 11), (e.s k9 12), (e.s k9 14), (e.s k9 15), (e.s k9 17), (e.s k9 18), (e.s k9 19), (e.s k9 20), (e.s k9 22), (e.s k9 23), (e.s k9 24), (e.s k9 25), (e.s k9 26), (e.s k9 27), (e.s k9 29)], 153, t153⟩, h1⟩) fun e h =>
 br (e.s k9 153) (sq (some ⟨.nm, ⟨[(.bool false), (e.s k9 1), (e.s k9 2), (e.s k9 3), (e.s k9 4), (e.s k9 5), (e.s k9 6), (e.s k9 7), (e.s k9 8), (e.s k9 9), (e.s k9 10), (e.s k9 11), (e.s k9 12), (e.s k9 14), (e.s k9 15), (e.s k9 17), (e.s k9 18), (e.s k9 19), (e.s k9 20), (e.s k9 22), (e.s k9 23), (e.s k9 24), (e.s k9 25), (e.s k9 26), (e.s k9 27), (e.s k9 29)], 0, (.bool false)⟩, h⟩) fun e h =>
 some ⟨.rt, e, h⟩)
 (some ⟨.nm, e, h⟩))) fun e h =>
 bd (binK 0 .add (e.s k9 23) (.int .i64 1)) fun t150 =>
 some ⟨.nm, ⟨[(e.s k9 0), (e.s k9 1), (e.s k9 2), (e.s k9 3), (e.s k9 4), (e.s k9 5), (e.s k9 6), (e.s k9 7), (e.s k9 8), (e.s k9 9), (e.s k9 10), (e.s k9 11), (e.s k9 12), (e.s k9 14), (e.s k9 15), (e.s k9 17), (e.s k9 18), (e.s k9 19), (e.s k9 20), (e.s k9 22), t150, (e.s k9 24), (e.s k9 25), (e.s k9 26), (e.s k9 27), (e.s k9 29)], 23, t150⟩, h⟩
noncomputable def l9_2 (K : Oracle) (L : Looper) (e : E) (h : H) : Out :=
 sq (sq (bd (binK 0 .lss (e.s k9 27) (.int .i64 2)) fun t155 =>
 some ⟨.nm, ⟨[(e.s k9 0), (e.s k9 1), (e.s k9 2), (e.s k9 3), (e.s k9 4), (e.s k9 5), (e.s k9 6), (e.s k9 7), (e.s k9 8), (e.s k9 9), (e.s k9 10), (e.s k9 11), (e.s k9 12), (e.s k9 14), (e.s k9 15), (e.s k9 17), (e.s k9 18), (e.s k9 19), (e.s k9 20), (e.s k9 22), (e.s k9 23), (e.s k9 24), (e.s k9 25), (e.s k9 26), (e.s k9 27), (e.s k9 29)], 155, t155⟩, h⟩) fun e h =>
 br (e.s k9 155) (some ⟨.nm, e, h⟩)
 (some ⟨.ex 4, e, h⟩)) fun e h =>
 sq (blk 5 (sq (bc k9 [159, 160, 158, 161, 162, 28, 29] e (K 21 [(e.s k9 25)] h) fun t160 h1 =>
 bd (exV t160 0) fun t161 =>
 bd (exV t160 1) fun t162 =>
 some ⟨.nm, ⟨[(e.s k9 0), (e.s k9 1), (e.s k9 2), (e.s k9 3), (e.s k9 4), (e.s k9 5), (e.s k9 6), (e.s k9 7), (e.s k9 8), (e.s k9 9), (e.s k9 10), (e.s k9 11), (e.s k9 12), (e.s k9 14), (e.s k9 15), (e.s k9 17), (e.s k9 18), (e.s k9 19), (e.s k9 20), (e.s k9 22), (e.s k9 23), (e.s k9 24), (e.s k9 25), (e.s k9 26), (e.s k9 27), t162], 29, t162⟩, h1⟩) fun e h =>
 sq (bd (gl (e.s k9 26) true (some (e.s k9 24))) fun t165 =>
 bc k9 [163, 164, 165, 166, 167, 168, 169, 170, 171, 172, 173, 174, 175, 176, 177, 178, 179, 180, 181, 182, 183, 26] e (gk (e.s k9 26) true h (K 12 [t165, (.int .u32 9), (.int .u32 1)] h)) fun t166 h1 =>
 bd (gl (e.s k9 26) true (binK 0 .eql t166 (.int .i64 1))) fun t167 =>
 bd (pk (e.s k9 26) t167 (.bool false)) fun t168 =>
 bd (gl t168 true (some (e.s k9 24))) fun t170 =>
 bc k9 [163, 164, 165, 166, 167, 168, 169, 170, 171, 172, 173, 174, 175, 176, 177, 178, 179, 180, 181, 182, 183, 26] e (gk t168 true h1 (K 14 [t170] h1)) fun t171 h2 =>
 bd (gl t168 true (lnS t171)) fun t172 =>
 bd (gl t168 true (binK 0 .eql t172 (.int .i64 0))) fun t173 =>
 bd (pk t168 t173 (.bool false)) fun t174 =>
 bd (gl t174 true (some (e.s k9 29))) fun t176 =>
 bd (gl t174 true (binK 0 .eql t176 (.int .i64 1))) fun t177 =>
 bd (pk t174 t177 (.bool false)) fun t178 =>
 bd (gl t178 true (some (e.s k9 25))) fun t180 =>
 bc k9 [163, 164, 165, 166, 167, 168, 169, 170, 171, 172, 173, 174, 175, 176, 177, 178, 179, 180, 181, 182, 183, 26] e (gk t178 true h2 (K 24 [t180, (.int .u32 9), (.int .u32 1)] h2)) fun t181 h3 =>
 bd (gl t178 true (binK 0 .eql t181 (.int .i64 1))) fun t182 =>
 bd (pk t178 t182 (.bool false)) fun t183 =>
 some ⟨.nm, ⟨[(e.s k9 0), (e.s k9 1), (e.s k9 2), (e.s k9 3), (e.s k9 4), (e.s k9 5), (e.s k9 6), (e.s k9 7), (e.s k9 8), (e.s k9 9), (e.s k9 10), (e.s k9 11), (e.s k9 12), (e.s k9 14), (e.s k9 15), (e.s k9 17), (e.s k9 18), (e.s k9 19), (e.s k9 20), (e.s k9 22), (e.s k9 23), (e.s k9 24), (e.s k9 25), t183, (e.s k9 27), (e.s k9 29)], 26, t183⟩, h3⟩) fun e h =>
 sq (bd (bl [.nils, (.int .u64 0), (.int .u32 0)] []) fun t184 =>
 bf (bx h 52 t184) fun t185 h1 =>
 some ⟨.nm, ⟨[(e.s k9 0), (e.s k9 1), (e.s k9 2), (e.s k9 3), (e.s k9 4), (e.s k9 5), (e.s k9 6), (e.s k9 7), (e.s k9 8), (e.s k9 9), (e.s k9 10), (e.s k9 11), (e.s k9 12), (e.s k9 14), (e.s k9 15), (e.s k9 17), (e.s k9 18), (e.s k9 19), (e.s k9 20), (e.s k9 22), (e.s k9 23), t185, (e.s k9 25), (e.s k9 26), (e.s k9 27), (e.s k9 29)], 24, t185⟩, h1⟩) fun e h =>
 bd (bl [.nils, (.int .u32 0), (.int .u32 0)] []) fun t186 =>
 bf (bx h 54 t186) fun t187 h1 =>
 some ⟨.nm, ⟨[(e.s k9 0), (e.s k9 1), (e.s k9 2), (e.s k9 3), (e.s k9 4), (e.s k9 5), (e.s k9 6), (e.s k9 7), (e.s k9 8), (e.s k9 9), (e.s k9 10), (e.s k9 11), (e.s k9 12), (e.s k9 14), (e.s k9 15), (e.s k9 17), (e.s k9 18), (e.s k9 19), (e.s k9 20), (e.s k9 22), (e.s k9 23), (e.s k9 24), t187, (e.s k9 26), (e.s k9 27), (e.s k9 29)], 25, t187⟩, h1⟩)) fun e h =>
 bd (binK 0 .add (e.s k9 27) (.int .i64 1)) fun t157 =>
 some ⟨.nm, ⟨[(e.s k9 0), (e.s k9 1), (e.s k9 2), (e.s k9 3), (e.s k9 4), (e.s k9 5), (e.s k9 6), (e.s k9 7), (e.s k9 8), (e.s k9 9), (e.s k9 10), (e.s k9 11), (e.s k9 12), (e.s k9 14), (e.s k9 15), (e.s k9 17), (e.s k9 18), (e.s k9 19), (e.s k9 20), (e.s k9 22), (e.s k9 23), (e.s k9 24), (e.s k9 25), (e.s k9 26), t157, (e.s k9 29)], 27, t157⟩, h⟩
noncomputable def s9 (K : Oracle) (L : Looper) (e : E) (h : H) : Out :=
 sq (some ⟨.nm, ⟨[(.bool false), (e.s k9 1), (e.s k9 2), (e.s k9 3), (e.s k9 4), (e.s k9 5), (e.s k9 6), (e.s k9 7), (e.s k9 8), (e.s k9 9), (e.s k9 10), (e.s k9 11), (e.s k9 12), (e.s k9 14), (e.s k9 15), (e.s k9 17), (e.s k9 18), (e.s k9 19), (e.s k9 20), (e.s k9 22), (e.s k9 23), (e.s k9 24), (e.s k9 25), (e.s k9 26), (e.s k9 27), (e.s k9 29)], 0, (.bool false)⟩, h⟩) fun e h =>
 sq (bc k9 [30, 1] e (K 10 [] h) fun t30 h1 =>
 some ⟨.nm, ⟨[(e.s k9 0), t30, (e.s k9 2), (e.s k9 3), (e.s k9 4), (e.s k9 5), (e.s k9 6), (e.s k9 7), (e.s k9 8), (e.s k9 9), (e.s k9 10), (e.s k9 11), (e.s k9 12), (e.s k9 14), (e.s k9 15), (e.s k9 17), (e.s k9 18), (e.s k9 19), (e.s k9 20), (e.s k9 22), (e.s k9 23), (e.s k9 24), (e.s k9 25), (e.s k9 26), (e.s k9 27), (e.s k9 29)], 1, t30⟩, h1⟩) fun e h =>
 sq (bc k9 [31, 32, 33, 34, 35, 36, 37, 38, 39, 40, 41, 42, 43, 44, 45, 46, 47, 48, 49, 50, 51, 52, 53, 54, 55, 56, 57, 58, 59, 60, 61, 62, 63, 64, 65, 2] e (K 12 [(e.s k9 1), (.int .u32 5), (.int .u32 5)] h) fun t32 h1 =>
 bd (binK 0 .eql t32 (.int .i64 2)) fun t33 =>
 bd (gl t33 true (some (e.s k9 1))) fun t35 =>
 bc k9 [31, 32, 33, 34, 35, 36, 37, 38, 39, 40, 41, 42, 43, 44, 45, 46, 47, 48, 49, 50, 51, 52, 53, 54, 55, 56, 57, 58, 59, 60, 61, 62, 63, 64, 65, 2] e (gk t33 true h1 (K 12 [t35, (.int .u32 6), (.int .u32 5)] h1)) fun t36 h2 =>
 bd (gl t33 true (binK 0 .eql t36 (.int .i64 2))) fun t37 =>
 bd (pk t33 t37 (.bool false)) fun t38 =>
 bd (gl t38 true (some (e.s k9 1))) fun t40 =>
 bc k9 [31, 32, 33, 34, 35, 36, 37, 38, 39, 40, 41, 42, 43, 44, 45, 46, 47, 48, 49, 50, 51, 52, 53, 54, 55, 56, 57, 58, 59, 60, 61, 62, 63, 64, 65, 2] e (gk t38 true h2 (K 12 [t40, (.int .u32 0), (.int .u32 32769)] h2)) fun t41 h3 =>
 bd (gl t38 true (binK 0 .eql t41 (.int .i64 2))) fun t42 =>
 bd (pk t38 t42 (.bool false)) fun t43 =>
 bd (gl t43 true (some (e.s k9 1))) fun t45 =>
 bc k9 [31, 32, 33, 34, 35, 36, 37, 38, 39, 40, 41, 42, 43, 44, 45, 46, 47, 48, 49, 50, 51, 52, 53, 54, 55, 56, 57, 58, 59, 60, 61, 62, 63, 64, 65, 2] e (gk t43 true h3 (K 14 [t45] h3)) fun t46 h4 =>
 bd (gl t43 true (lnS t46)) fun t47 =>
 bd (gl t43 true (binK 0 .eql t47 (.int .i64 0))) fun t48 =>
 bd (pk t43 t48 (.bool false)) fun t49 =>
 bd (gl t49 true (some (e.s k9 1))) fun t51 =>
 bc k9 [31, 32, 33, 34, 35, 36, 37, 38, 39, 40, 41, 42, 43, 44, 45, 46, 47, 48, 49, 50, 51, 52, 53, 54, 55, 56, 57, 58, 59, 60, 61, 62, 63, 64, 65, 2] e (gk t49 true h4 (K 12 [t51, (.int .u32 0), (.int .u32 16384)] h4)) fun t52 h5 =>
 bd (gl t49 true (binK 0 .eql t52 (.int .i64 0))) fun t53 =>
 bd (pk t49 t53 (.bool false)) fun t54 =>
 bd (gl t54 true (some (e.s k9 1))) fun t56 =>
 bc k9 [31, 32, 33, 34, 35, 36, 37, 38, 39, 40, 41, 42, 43, 44, 45, 46, 47, 48, 49, 50, 51, 52, 53, 54, 55, 56, 57, 58, 59, 60, 61, 62, 63, 64, 65, 2] e (gk t54 true h5 (K 14 [t56] h5)) fun t57 h6 =>
 bd (gl t54 true (lnS t57)) fun t58 =>
 bd (gl t54 true (binK 0 .eql t58 (.int .i64 0))) fun t59 =>
 bd (pk t54 t59 (.bool false)) fun t60 =>
 bd (gl t60 true (some (e.s k9 1))) fun t62 =>
 bc k9 [31, 32, 33, 34, 35, 36, 37, 38, 39, 40, 41, 42, 43, 44, 45, 46, 47, 48, 49, 50, 51, 52, 53, 54, 55, 56, 57, 58, 59, 60, 61, 62, 63, 64, 65, 2] e (gk t60 true h6 (K 12 [t62, (.int .u32 32767), (.int .u32 32768)] h6)) fun t63 h7 =>
 bd (gl t60 true (binK 0 .eql t63 (.int .i64 0))) fun t64 =>
 bd (pk t60 t64 (.bool false)) fun t65 =>
 some ⟨.nm, ⟨[(e.s k9 0), (e.s k9 1), t65, (e.s k9 3), (e.s k9 4), (e.s k9 5), (e.s k9 6), (e.s k9 7), (e.s k9 8), (e.s k9 9), (e.s k9 10), (e.s k9 11), (e.s k9 12), (e.s k9 14), (e.s k9 15), (e.s k9 17), (e.s k9 18), (e.s k9 19), (e.s k9 20), (e.s k9 22), (e.s k9 23), (e.s k9 24), (e.s k9 25), (e.s k9 26), (e.s k9 27), (e.s k9 29)], 2, t65⟩, h7⟩) fun e h =>
 sq (bc k9 [66, 3] e (K 19 [.nils] h) fun t66 h1 =>
 some ⟨.nm, ⟨[(e.s k9 0), (e.s k9 1), (e.s k9 2), t66, (e.s k9 4), (e.s k9 5), (e.s k9 6), (e.s k9 7), (e.s k9 8), (e.s k9 9), (e.s k9 10), (e.s k9 11), (e.s k9 12), (e.s k9 14), (e.s k9 15), (e.s k9 17), (e.s k9 18), (e.s k9 19), (e.s k9 20), (e.s k9 22), (e.s k9 23), (e.s k9 24), (e.s k9 25), (e.s k9 26), (e.s k9 27), (e.s k9 29)], 3, t66⟩, h1⟩) fun e h =>
 sq (bc k9 [68, 69, 67, 70, 71, 4, 5] e (K 21 [(e.s k9 3)] h) fun t69 h1 =>
 bd (exV t69 0) fun t70 =>
 bd (exV t69 1) fun t71 =>
 some ⟨.nm, ⟨[(e.s k9 0), (e.s k9 1), (e.s k9 2), (e.s k9 3), t70, t71, (e.s k9 6), (e.s k9 7), (e.s k9 8), (e.s k9 9), (e.s k9 10), (e.s k9 11), (e.s k9 12), (e.s k9 14), (e.s k9 15), (e.s k9 17), (e.s k9 18), (e.s k9 19), (e.s k9 20), (e.s k9 22), (e.s k9 23), (e.s k9 24), (e.s k9 25), (e.s k9 26), (e.s k9 27), (e.s k9 29)], 5, t71⟩, h1⟩) fun e h =>
 sq (bc k9 [72, 73, 6] e (K 24 [(e.s k9 3), (.int .u32 1), (.int .u32 2)] h) fun t73 h1 =>
 some ⟨.nm, ⟨[(e.s k9 0), (e.s k9 1), (e.s k9 2), (e.s k9 3), (e.s k9 4), (e.s k9 5), t73, (e.s k9 7), (e.s k9 8), (e.s k9 9), (e.s k9 10), (e.s k9 11), (e.s k9 12), (e.s k9 14), (e.s k9 15), (e.s k9 17), (e.s k9 18), (e.s k9 19), (e.s k9 20), (e.s k9 22), (e.s k9 23), (e.s k9 24), (e.s k9 25), (e.s k9 26), (e.s k9 27), (e.s k9 29)], 6, t73⟩, h1⟩) fun e h =>
 sq (bc k9 [74, 75, 7] e (K 24 [(e.s k9 3), (.int .u32 0), (.int .u32 1)] h) fun t75 h1 =>
 some ⟨.nm, ⟨[(e.s k9 0), (e.s k9 1), (e.s k9 2), (e.s k9 3), (e.s k9 4), (e.s k9 5), (e.s k9 6), t75, (e.s k9 8), (e.s k9 9), (e.s k9 10), (e.s k9 11), (e.s k9 12), (e.s k9 14), (e.s k9 15), (e.s k9 17), (e.s k9 18), (e.s k9 19), (e.s k9 20), (e.s k9 22), (e.s k9 23), (e.s k9 24), (e.s k9 25), (e.s k9 26), (e.s k9 27), (e.s k9 29)], 7, t75⟩, h1⟩) fun e h =>
 sq (bc k9 [77, 78, 76, 79, 80, 8, 9] e (K 21 [(e.s k9 3)] h) fun t78 h1 =>
 bd (exV t78 0) fun t79 =>
 bd (exV t78 1) fun t80 =>
 some ⟨.nm, ⟨[(e.s k9 0), (e.s k9 1), (e.s k9 2), (e.s k9 3), (e.s k9 4), (e.s k9 5), (e.s k9 6), (e.s k9 7), t79, t80, (e.s k9 10), (e.s k9 11), (e.s k9 12), (e.s k9 14), (e.s k9 15), (e.s k9 17), (e.s k9 18), (e.s k9 19), (e.s k9 20), (e.s k9 22), (e.s k9 23), (e.s k9 24), (e.s k9 25), (e.s k9 26), (e.s k9 27), (e.s k9 29)], 9, t80⟩, h1⟩) fun e h =>
 sq (bd (binK 0 .eql (e.s k9 4) (.int .u32 0)) fun t82 =>
 bd (gl t82 true (some (e.s k9 5))) fun t84 =>
 bd (gl t82 true (binK 0 .eql t84 (.int .i64 0))) fun t85 =>
 bd (pk t82 t85 (.bool false)) fun t86 =>
 bd (gl t86 true (some (e.s k9 6))) fun t88 =>
 bd (gl t86 true (binK 0 .eql t88 (.int .i64 2))) fun t89 =>
 bd (pk t86 t89 (.bool false)) fun t90 =>
 bd (gl t90 true (some (e.s k9 7))) fun t92 =>
 bd (gl t90 true (binK 0 .eql t92 (.int .i64 0))) fun t93 =>
 bd (pk t90 t93 (.bool false)) fun t94 =>
 bd (gl t94 true (some (e.s k9 8))) fun t96 =>
 bd (gl t94 true (binK 0 .eql t96 (.int .u32 0))) fun t97 =>
 bd (pk t94 t97 (.bool false)) fun t98 =>
 bd (gl t98 true (some (e.s k9 9))) fun t100 =>
 bd (gl t98 true (binK 0 .eql t100 (.int .i64 0))) fun t101 =>
 bd (pk t98 t101 (.bool false)) fun t102 =>
 some ⟨.nm, ⟨[(e.s k9 0), (e.s k9 1), (e.s k9 2), (e.s k9 3), (e.s k9 4), (e.s k9 5), (e.s k9 6), (e.s k9 7), (e.s k9 8), (e.s k9 9), t102, (e.s k9 11), (e.s k9 12), (e.s k9 14), (e.s k9 15), (e.s k9 17), (e.s k9 18), (e.s k9 19), (e.s k9 20), (e.s k9 22), (e.s k9 23), (e.s k9 24), (e.s k9 25), (e.s k9 26), (e.s k9 27), (e.s k9 29)], 10, t102⟩, h⟩) fun e h =>
 sq (bf (bs h 5 4 [(.int .u8 0), (.int .u8 0), (.int .u8 0), (.int .u8 0)] [(some (0, 1), (.int .u8 255)), (some (1, 1), (.int .u8 255)), (some (2, 1), (.int .u8 255)), (some (3, 1), (.int .u8 255))]) fun t103 h1 =>
 bc k9 [103, 104, 11] e (K 19 [t103] h1) fun t104 h2 =>
 some ⟨.nm, ⟨[(e.s k9 0), (e.s k9 1), (e.s k9 2), (e.s k9 3), (e.s k9 4), (e.s k9 5), (e.s k9 6), (e.s k9 7), (e.s k9 8), (e.s k9 9), (e.s k9 10), t104, (e.s k9 12), (e.s k9 14), (e.s k9 15), (e.s k9 17), (e.s k9 18), (e.s k9 19), (e.s k9 20), (e.s k9 22), (e.s k9 23), (e.s k9 24), (e.s k9 25), (e.s k9 26), (e.s k9 27), (e.s k9 29)], 11, t104⟩, h2⟩) fun e h =>
 sq (bc k9 [106, 107, 105, 108, 109, 12, 13] e (K 21 [(e.s k9 11)] h) fun t107 h1 =>
 bd (exV t107 0) fun t108 =>
 bd (exV t107 1) fun t109 =>
 some ⟨.nm, ⟨[(e.s k9 0), (e.s k9 1), (e.s k9 2), (e.s k9 3), (e.s k9 4), (e.s k9 5), (e.s k9 6), (e.s k9 7), (e.s k9 8), (e.s k9 9), (e.s k9 10), (e.s k9 11), t108, (e.s k9 14), (e.s k9 15), (e.s k9 17), (e.s k9 18), (e.s k9 19), (e.s k9 20), (e.s k9 22), (e.s k9 23), (e.s k9 24), (e.s k9 25), (e.s k9 26), (e.s k9 27), (e.s k9 29)], 13, t109⟩, h1⟩) fun e h =>
 sq (bc k9 [110, 111, 14] e (K 24 [(e.s k9 11), (.int .u32 32767), (.int .u32 32768)] h) fun t111 h1 =>
 some ⟨.nm, ⟨[(e.s k9 0), (e.s k9 1), (e.s k9 2), (e.s k9 3), (e.s k9 4), (e.s k9 5), (e.s k9 6), (e.s k9 7), (e.s k9 8), (e.s k9 9), (e.s k9 10), (e.s k9 11), (e.s k9 12), t111, (e.s k9 15), (e.s k9 17), (e.s k9 18), (e.s k9 19), (e.s k9 20), (e.s k9 22), (e.s k9 23), (e.s k9 24), (e.s k9 25), (e.s k9 26), (e.s k9 27), (e.s k9 29)], 14, t111⟩, h1⟩) fun e h =>
 sq (bc k9 [113, 114, 112, 115, 116, 15, 16] e (K 21 [(e.s k9 11)] h) fun t114 h1 =>
 bd (exV t114 0) fun t115 =>
 bd (exV t114 1) fun t116 =>
 some ⟨.nm, ⟨[(e.s k9 0), (e.s k9 1), (e.s k9 2), (e.s k9 3), (e.s k9 4), (e.s k9 5), (e.s k9 6), (e.s k9 7), (e.s k9 8), (e.s k9 9), (e.s k9 10), (e.s k9 11), (e.s k9 12), (e.s k9 14), t115, (e.s k9 17), (e.s k9 18), (e.s k9 19), (e.s k9 20), (e.s k9 22), (e.s k9 23), (e.s k9 24), (e.s k9 25), (e.s k9 26), (e.s k9 27), (e.s k9 29)], 16, t116⟩, h1⟩) fun e h =>
 sq (bd (binK 0 .eql (e.s k9 12) (.int .u32 32767)) fun t118 =>
 bd (gl t118 true (some (e.s k9 14))) fun t120 =>
 bd (gl t118 true (binK 0 .eql t120 (.int .i64 0))) fun t121 =>
 bd (pk t118 t121 (.bool false)) fun t122 =>
 bd (gl t122 true (some (e.s k9 15))) fun t124 =>
 bd (gl t122 true (binK 0 .eql t124 (.int .u32 32767))) fun t125 =>
 bd (pk t122 t125 (.bool false)) fun t126 =>
 some ⟨.nm, ⟨[(e.s k9 0), (e.s k9 1), (e.s k9 2), (e.s k9 3), (e.s k9 4), (e.s k9 5), (e.s k9 6), (e.s k9 7), (e.s k9 8), (e.s k9 9), (e.s k9 10), (e.s k9 11), (e.s k9 12), (e.s k9 14), (e.s k9 15), t126, (e.s k9 18), (e.s k9 19), (e.s k9 20), (e.s k9 22), (e.s k9 23), (e.s k9 24), (e.s k9 25), (e.s k9 26), (e.s k9 27), (e.s k9 29)], 17, t126⟩, h⟩) fun e h =>
 sq (bf (bs h 5 16 (List.replicate 16 (.int .u8 0)) [(some (0, 1), (.int .u8 255)), (some (1, 1), (.int .u8 255)), (some (2, 1), (.int .u8 255)), (some (3, 1), (.int .u8 255)), (some (4, 1), (.int .u8 255)), (some (5, 1), (.int .u8 255)), (some (6, 1), (.int .u8 255)), (some (7, 1), (.int .u8 255)), (some (8, 1), (.int .u8 255)), (some (9, 1), (.int .u8 255)), (some (10, 1), (.int .u8 255)), (some (11, 1), (.int .u8 255)), (some (12, 1), (.int .u8 255)), (some (13, 1), (.int .u8 255)), (some (14, 1), (.int .u8 255)), (some (15, 1), (.int .u8 255))]) fun t127 h1 =>
 bc k9 [127, 128, 18] e (K 19 [t127] h1) fun t128 h2 =>
 some ⟨.nm, ⟨[(e.s k9 0), (e.s k9 1), (e.s k9 2), (e.s k9 3), (e.s k9 4), (e.s k9 5), (e.s k9 6), (e.s k9 7), (e.s k9 8), (e.s k9 9), (e.s k9 10), (e.s k9 11), (e.s k9 12), (e.s k9 14), (e.s k9 15), (e.s k9 17), t128, (e.s k9 19), (e.s k9 20), (e.s k9 22), (e.s k9 23), (e.s k9 24), (e.s k9 25), (e.s k9 26), (e.s k9 27), (e.s k9 29)], 18, t128⟩, h2⟩) fun e h =>
 sq (sq (some ⟨.nm, ⟨[(e.s k9 0), (e.s k9 1), (e.s k9 2), (e.s k9 3), (e.s k9 4), (e.s k9 5), (e.s k9 6), (e.s k9 7), (e.s k9 8), (e.s k9 9), (e.s k9 10), (e.s k9 11), (e.s k9 12), (e.s k9 14), (e.s k9 15), (e.s k9 17), (e.s k9 18), (.int .i64 0), (e.s k9 20), (e.s k9 22), (e.s k9 23), (e.s k9 24), (e.s k9 25), (e.s k9 26), (e.s k9 27), (e.s k9 29)], 19, (.int .i64 0)⟩, h⟩) fun e h =>
 blk 0 (L (l9_0 K L) e h)) fun e h =>
 sq (bc k9 [146, 22] e (K 10 [] h) fun t146 h1 =>
 some ⟨.nm, ⟨[(e.s k9 0), (e.s k9 1), (e.s k9 2), (e.s k9 3), (e.s k9 4), (e.s k9 5), (e.s k9 6), (e.s k9 7), (e.s k9 8), (e.s k9 9), (e.s k9 10), (e.s k9 11), (e.s k9 12), (e.s k9 14), (e.s k9 15), (e.s k9 17), (e.s k9 18), (e.s k9 19), (e.s k9 20), t146, (e.s k9 23), (e.s k9 24), (e.s k9 25), (e.s k9 26), (e.s k9 27), (e.s k9 29)], 22, t146⟩, h1⟩) fun e h =>
 sq (sq (some ⟨.nm, ⟨[(e.s k9 0), (e.s k9 1), (e.s k9 2), (e.s k9 3), (e.s k9 4), (e.s k9 5), (e.s k9 6), (e.s k9 7), (e.s k9 8), (e.s k9 9), (e.s k9 10), (e.s k9 11), (e.s k9 12), (e.s k9 14), (e.s k9 15), (e.s k9 17), (e.s k9 18), (e.s k9 19), (e.s k9 20), (e.s k9 22), (.int .i64 0), (e.s k9 24), (e.s k9 25), (e.s k9 26), (e.s k9 27), (e.s k9 29)], 23, (.int .i64 0)⟩, h⟩) fun e h =>
 blk 2 (L (l9_1 K L) e h)) fun e h =>
 sq (some ⟨.nm, ⟨[(e.s k9 0), (e.s k9 1), (e.s k9 2), (e.s k9 3), (e.s k9 4), (e.s k9 5), (e.s k9 6), (e.s k9 7), (e.s k9 8), (e.s k9 9), (e.s k9 10), (e.s k9 11), (e.s k9 12), (e.s k9 14), (e.s k9 15), (e.s k9 17), (e.s k9 18), (e.s k9 19), (e.s k9 20), (e.s k9 22), (e.s k9 23), .nilp, (e.s k9 25), (e.s k9 26), (e.s k9 27), (e.s k9 29)], 24, .nilp⟩, h⟩) fun e h =>
 sq (some ⟨.nm, ⟨[(e.s k9 0), (e.s k9 1), (e.s k9 2), (e.s k9 3), (e.s k9 4), (e.s k9 5), (e.s k9 6), (e.s k9 7), (e.s k9 8), (e.s k9 9), (e.s k9 10), (e.s k9 11), (e.s k9 12), (e.s k9 14), (e.s k9 15), (e.s k9 17), (e.s k9 18), (e.s k9 19), (e.s k9 20), (e.s k9 22), (e.s k9 23), (e.s k9 24), .nilp, (e.s k9 26), (e.s k9 27), (e.s k9 29)], 25, .nilp⟩, h⟩) fun e h =>
 sq (some ⟨.nm, ⟨[(e.s k9 0), (e.s k9 1), (e.s k9 2), (e.s k9 3), (e.s k9 4), (e.s k9 5), (e.s k9 6), (e.s k9 7), (e.s k9 8), (e.s k9 9), (e.s k9 10), (e.s k9 11), (e.s k9 12), (e.s k9 14), (e.s k9 15), (e.s k9 17), (e.s k9 18), (e.s k9 19), (e.s k9 20), (e.s k9 22), (e.s k9 23), (e.s k9 24), (e.s k9 25), (.bool true), (e.s k9 27), (e.s k9 29)], 26, (.bool true)⟩, h⟩) fun e h =>
 sq (sq (some ⟨.nm, ⟨[(e.s k9 0), (e.s k9 1), (e.s k9 2), (e.s k9 3), (e.s k9 4), (e.s k9 5), (e.s k9 6), (e.s k9 7), (e.s k9 8), (e.s k9 9), (e.s k9 10), (e.s k9 11), (e.s k9 12), (e.s k9 14), (e.s k9 15), (e.s k9 17), (e.s k9 18), (e.s k9 19), (e.s k9 20), (e.s k9 22), (e.s k9 23), (e.s k9 24), (e.s k9 25), (e.s k9 26), (.int .i64 0), (e.s k9 29)], 27, (.int .i64 0)⟩, h⟩) fun e h =>
 blk 4 (L (l9_2 K L) e h)) fun e h =>
 sq (bc k9 [188, 189, 190, 191, 192, 193, 194, 195, 196, 197, 198, 199, 200, 201, 202, 203, 204, 205, 206, 207, 208, 0] e (gk (.bool true) true h (K 17 [] h)) fun t189 h1 =>
 bd (pk (.bool true) t189 (.bool false)) fun t190 =>
 bd (gl t190 true (some (e.s k9 2))) fun t192 =>
 bd (pk t190 t192 (.bool false)) fun t193 =>
 bd (gl t193 true (some (e.s k9 10))) fun t195 =>
 bd (pk t193 t195 (.bool false)) fun t196 =>
 bd (gl t196 true (some (e.s k9 17))) fun t198 =>
 bd (pk t196 t198 (.bool false)) fun t199 =>
 bd (gl t199 true (some (e.s k9 26))) fun t201 =>
 bd (pk t199 t201 (.bool false)) fun t202 =>
 bd (gl t202 true (some (e.s k9 22))) fun t204 =>
 bc k9 [188, 189, 190, 191, 192, 193, 194, 195, 196, 197, 198, 199, 200, 201, 202, 203, 204, 205, 206, 207, 208, 0] e (gk t202 true h1 (K 14 [t204] h1)) fun t205 h2 =>
 bd (gl t202 true (lnS t205)) fun t206 =>
 bd (gl t202 true (binK 0 .gtr t206 (.int .i64 9))) fun t207 =>
 bd (pk t202 t207 (.bool false)) fun t208 =>
 some ⟨.nm, ⟨[t208, (e.s k9 1), (e.s k9 2), (e.s k9 3), (e.s k9 4), (e.s k9 5), (e.s k9 6), (e.s k9 7), (e.s k9 8), (e.s k9 9), (e.s k9 10), (e.s k9 11), (e.s k9 12), (e.s k9 14), (e.s k9 15), (e.s k9 17), (e.s k9 18), (e.s k9 19), (e.s k9 20), (e.s k9 22), (e.s k9 23), (e.s k9 24), (e.s k9 25), (e.s k9 26), (e.s k9 27), (e.s k9 29)], 0, t208⟩, h2⟩) fun e h =>
 some ⟨.rt, e, h⟩
noncomputable def f9 (K : Oracle) (L : Looper) (h : H) : Option (Rv × H) := fin Try.prog k9 [.tmp 0] (s9 K L ⟨[V.und, V.und, V.und, V.und, V.und, V.und, V.und, V.und, V.und, V.und, V.und, V.und, V.und, V.und, V.und, V.und, V.und, V.und, V.und, V.und, V.und, V.und, V.und, V.und, V.und, V.und], 0, V.und⟩ h)
theorem r9 : (fun K L h => runFF Try.prog kp K L 9 [] h) = f9 := by kernel_rfl
theorem c9 (h : H) : callZ Try.prog kp 9 [] h = f9 (callZ Try.prog kp) loopZ h :=
  (callZ_eqF _ _ _ _ _).trans (congrFun (congrFun (congrFun (r9) _) _) h)

/-- zoetrope/rac.New -/
@[simp] def k10 : List Nat := [0]
noncomputable def s10 (K : Oracle) (L : Looper) (e : E) (h : H) : Out :=
 sq (some ⟨.nm, ⟨[.nilp], 0, .nilp⟩, h⟩) fun e h =>
 sq (bd (bl [.nils, (.int .u64 0), (.int .u32 0)] [(some (2, 1), (.int .u32 4294967295))]) fun t1 =>
 bf (bx h 52 t1) fun t2 h1 =>
 some ⟨.nm, ⟨[t2], 0, t2⟩, h1⟩) fun e h =>
 some ⟨.rt, e, h⟩
noncomputable def f10 (K : Oracle) (L : Looper) (h : H) : Option (Rv × H) := fin Try.prog k10 [.tmp 0] (s10 K L ⟨[V.und], 0, V.und⟩ h)
theorem r10 : (fun K L h => runFF Try.prog kp K L 10 [] h) = f10 := by kernel_rfl
theorem c10 (h : H) : callZ Try.prog kp 10 [] h = f10 (callZ Try.prog kp) loopZ h :=
  (callZ_eqF _ _ _ _ _).trans (congrFun (congrFun (congrFun (r10) _) _) h)

/-- zoetrope/zoetroperef02.New -/
@[simp] def k11 : List Nat := [0]
noncomputable def s11 (K : Oracle) (L : Looper) (e : E) (h : H) : Out :=
 sq (some ⟨.nm, ⟨[.nilp], 0, .nilp⟩, h⟩) fun e h =>
 sq (bd (bl [.nils, (.int .u64 0), (.int .u64 0)] [(some (2, 1), (.int .u64 4294967295))]) fun t1 =>
 bf (bx h 56 t1) fun t2 h1 =>
 some ⟨.nm, ⟨[t2], 0, t2⟩, h1⟩) fun e h =>
 some ⟨.rt, e, h⟩
noncomputable def f11 (K : Oracle) (L : Looper) (h : H) : Option (Rv × H) := fin Try.prog k11 [.tmp 0] (s11 K L ⟨[V.und], 0, V.und⟩ h)
theorem r11 : (fun K L h => runFF Try.prog kp K L 11 [] h) = f11 := by kernel_rfl
theorem c11 (h : H) : callZ Try.prog kp 11 [] h = f11 (callZ Try.prog kp) loopZ h :=
  (callZ_eqF _ _ _ _ _).trans (congrFun (congrFun (congrFun (r11) _) _) h)

/-- (*zoetrope/rac.Encoder).Put -/
@[simp] def k12 : List Nat := [0, 1, 2, 6, 7, 8]
noncomputable def l12_0 (K : Oracle) (L : Looper) (e : E) (h : H) : Out :=
 sq (sq (bd (binK 0 .leq (e.s k12 8) (.int .u32 16777215)) fun t47 =>
 some ⟨.nm, ⟨[(e.s k12 0), (e.s k12 1), (e.s k12 2), (e.s k12 6), (e.s k12 7), (e.s k12 8)], 47, t47⟩, h⟩) fun e h =>
 br (e.s k12 47) (some ⟨.nm, e, h⟩)
 (some ⟨.ex 1, e, h⟩)) fun e h =>
 sq (blk 2 (bc k12 [50, 51] e (K 29 [(e.s k12 0)] h) fun t51 h1 =>
 some ⟨.nm, ⟨[(e.s k12 0), (e.s k12 1), (e.s k12 2), (e.s k12 6), (e.s k12 7), (e.s k12 8)], 51, t51⟩, h1⟩)) fun e h =>
 bd (binK 0 .shl (e.s k12 8) (.int .u64 8)) fun t49 =>
 some ⟨.nm, ⟨[(e.s k12 0), (e.s k12 1), (e.s k12 2), (e.s k12 6), (e.s k12 7), t49], 8, t49⟩, h⟩
noncomputable def s12 (K : Oracle) (L : Looper) (e : E) (h : H) : Out :=
 sq (some ⟨.nm, ⟨[(e.s k12 0), (e.s k12 1), (e.s k12 2), (.int .i64 0), (e.s k12 7), (e.s k12 8)], 6, (.int .i64 0)⟩, h⟩) fun e h =>
 sq (blk 0 (sq (bd (binK 2 .eql (e.s k12 0) .nilp) fun t11 =>
 bd (gl t11 false (some (e.s k12 0))) fun t13 =>
 bd (gl t11 false (nilC t13)) fun t14 =>
 bd (gl t11 false (fa 2 t14)) fun t15 =>
 bd (gl t11 false (ld h t15)) fun t16 =>
 bd (gl t11 false (binK 0 .eql t16 (.int .u32 0))) fun t17 =>
 bd (pk t11 (.bool true) t17) fun t18 =>
 some ⟨.nm, ⟨[(e.s k12 0), (e.s k12 1), (e.s k12 2), (e.s k12 6), (e.s k12 7), (e.s k12 8)], 9, t18⟩, h⟩) fun e h =>
 br (e.s k12 9) (sq (some ⟨.nm, ⟨[(e.s k12 0), (e.s k12 1), (e.s k12 2), (.int .i64 1), (e.s k12 7), (e.s k12 8)], 6, (.int .i64 1)⟩, h⟩) fun e h =>
 some ⟨.rt, e, h⟩)
 (sq (bd (binK 0 .geq (e.s k12 1) (e.s k12 2)) fun t22 =>
 bd (gl t22 false (some (e.s k12 2))) fun t24 =>
 bd (gl t22 false (binK 0 .gtr t24 (.int .u32 32768))) fun t25 =>
 bd (pk t22 (.bool true) t25) fun t26 =>
 some ⟨.nm, ⟨[(e.s k12 0), (e.s k12 1), (e.s k12 2), (e.s k12 6), (e.s k12 7), (e.s k12 8)], 19, t26⟩, h⟩) fun e h =>
 br (e.s k12 19) (sq (some ⟨.nm, ⟨[(e.s k12 0), (e.s k12 1), (e.s k12 2), (.int .i64 2), (e.s k12 7), (e.s k12 8)], 6, (.int .i64 2)⟩, h⟩) fun e h =>
 some ⟨.rt, e, h⟩)
 (some ⟨.nm, e, h⟩)))) fun e h =>
 sq (bd (nilC (e.s k12 0)) fun t29 =>
 bd (fa 2 t29) fun t30 =>
 bd (ld h t30) fun t31 =>
 bc k12 [28, 29, 30, 31, 32, 33, 34, 27, 35, 36, 7, 8] e (K 28 [t31, (e.s k12 1), (e.s k12 2)] h) fun t34 h1 =>
 bd (exV t34 0) fun t35 =>
 bd (exV t34 1) fun t36 =>
 some ⟨.nm, ⟨[(e.s k12 0), (e.s k12 1), (e.s k12 2), (e.s k12 6), t35, t36], 8, t36⟩, h1⟩) fun e h =>
 sq (bd (nilC (e.s k12 0)) fun t38 =>
 bd (fa 1 t38) fun t39 =>
 bd (ld h t39) fun t40 =>
 bd (cv .u64 (e.s k12 7)) fun t42 =>
 bd (binK 0 .add t40 t42) fun t43 =>
 bd (nilC (e.s k12 0)) fun t44 =>
 bd (fa 1 t44) fun t45 =>
 bf (stZ 1 h t45 t43) fun _ h1 =>
 some ⟨.nm, ⟨[(e.s k12 0), (e.s k12 1), (e.s k12 2), (e.s k12 6), (e.s k12 7), (e.s k12 8)], 0, (e.s k12 0)⟩, h1⟩) fun e h =>
 sq (blk 1 (L (l12_0 K L) e h)) fun e h =>
 sq (bd (nilC (e.s k12 0)) fun t54 =>
 bd (fa 2 t54) fun t55 =>
 bf (stZ 1 h t55 (e.s k12 8)) fun _ h1 =>
 some ⟨.nm, ⟨[(e.s k12 0), (e.s k12 1), (e.s k12 2), (e.s k12 6), (e.s k12 7), (e.s k12 8)], 0, (e.s k12 0)⟩, h1⟩) fun e h =>
 sq (some ⟨.nm, ⟨[(e.s k12 0), (e.s k12 1), (e.s k12 2), (.int .i64 0), (e.s k12 7), (e.s k12 8)], 6, (.int .i64 0)⟩, h⟩) fun e h =>
 some ⟨.rt, e, h⟩
noncomputable def f12 (K : Oracle) (L : Looper) (p0 p1 p2 : V) (h : H) : Option (Rv × H) := fin Try.prog k12 [.tmp 6] (s12 K L ⟨[p0, p1, p2, V.und, V.und, V.und], 0, p0⟩ h)
theorem r12 : (fun K L p0 p1 p2 h => runFF Try.prog kp K L 12 [p0, p1, p2] h) = f12 := by kernel_rfl
theorem c12 (p0 p1 p2 : V) (h : H) : callZ Try.prog kp 12 [p0, p1, p2] h = f12 (callZ Try.prog kp) loopZ p0 p1 p2 h :=
  (callZ_eqF _ _ _ _ _).trans (congrFun (congrFun (congrFun (congrFun (congrFun (congrFun (r12) _) _) p0) p1) p2) h)

/-- (*zoetrope/zoetroperef02.Encoder).Put -/
@[simp] def k13 : List Nat := [0, 1, 2, 6, 7, 8]
noncomputable def l13_0 (K : Oracle) (L : Looper) (e : E) (h : H) : Out :=
 sq (sq (bd (nilC (e.s k13 0)) fun t40 =>
 bd (fa 2 t40) fun t41 =>
 bd (ld h t41) fun t42 =>
 bd (binK 0 .lss t42 (.int .u64 16777216)) fun t43 =>
 some ⟨.nm, ⟨[(e.s k13 0), (e.s k13 1), (e.s k13 2), (e.s k13 6), (e.s k13 7), (e.s k13 8)], 43, t43⟩, h⟩) fun e h =>
 br (e.s k13 43) (some ⟨.nm, e, h⟩)
 (some ⟨.ex 0, e, h⟩)) fun e h =>
 blk 1 (sq (bc k13 [44, 45] e (K 31 [(e.s k13 0)] h) fun t45 h1 =>
 some ⟨.nm, ⟨[(e.s k13 0), (e.s k13 1), (e.s k13 2), (e.s k13 6), (e.s k13 7), (e.s k13 8)], 45, t45⟩, h1⟩) fun e h =>
 bd (nilC (e.s k13 0)) fun t48 =>
 bd (fa 2 t48) fun t49 =>
 bd (ld h t49) fun t50 =>
 bd (binK 0 .mul t50 (.int .u64 256)) fun t51 =>
 bd (nilC (e.s k13 0)) fun t52 =>
 bd (fa 2 t52) fun t53 =>
 bf (stZ 1 h t53 t51) fun _ h1 =>
 some ⟨.nm, ⟨[(e.s k13 0), (e.s k13 1), (e.s k13 2), (e.s k13 6), (e.s k13 7), (e.s k13 8)], 0, (e.s k13 0)⟩, h1⟩)
noncomputable def s13 (K : Oracle) (L : Looper) (e : E) (h : H) : Out :=
 sq (some ⟨.nm, ⟨[(e.s k13 0), (e.s k13 1), (e.s k13 2), (.int .i64 0), (e.s k13 7), (e.s k13 8)], 6, (.int .i64 0)⟩, h⟩) fun e h =>
 sq (sq (bd (binK 0 .geq (e.s k13 1) (e.s k13 2)) fun t11 =>
 bd (gl t11 false (some (e.s k13 2))) fun t13 =>
 bd (gl t11 false (binK 0 .gtr t13 (.int .u32 32768))) fun t14 =>
 bd (pk t11 (.bool true) t14) fun t15 =>
 some ⟨.nm, ⟨[(e.s k13 0), (e.s k13 1), (e.s k13 2), (e.s k13 6), (e.s k13 7), (e.s k13 8)], 15, t15⟩, h⟩) fun e h =>
 br (e.s k13 15) (sq (some ⟨.nm, ⟨[(e.s k13 0), (e.s k13 1), (e.s k13 2), (.int .i64 2), (e.s k13 7), (e.s k13 8)], 6, (.int .i64 2)⟩, h⟩) fun e h =>
 some ⟨.rt, e, h⟩)
 (some ⟨.nm, e, h⟩)) fun e h =>
 sq (bd (nilC (e.s k13 0)) fun t18 =>
 bd (fa 2 t18) fun t19 =>
 bd (ld h t19) fun t20 =>
 bc k13 [17, 18, 19, 20, 21, 22, 23, 16, 24, 25, 7, 8] e (K 30 [t20, (e.s k13 1), (e.s k13 2)] h) fun t23 h1 =>
 bd (exV t23 0) fun t24 =>
 bd (exV t23 1) fun t25 =>
 some ⟨.nm, ⟨[(e.s k13 0), (e.s k13 1), (e.s k13 2), (e.s k13 6), t24, t25], 8, t25⟩, h1⟩) fun e h =>
 sq (bd (nilC (e.s k13 0)) fun t28 =>
 bd (fa 1 t28) fun t29 =>
 bd (ld h t29) fun t30 =>
 bd (binK 0 .add t30 (e.s k13 7)) fun t32 =>
 bd (nilC (e.s k13 0)) fun t33 =>
 bd (fa 1 t33) fun t34 =>
 bf (stZ 1 h t34 t32) fun _ h1 =>
 some ⟨.nm, ⟨[(e.s k13 0), (e.s k13 1), (e.s k13 2), (e.s k13 6), (e.s k13 7), (e.s k13 8)], 0, (e.s k13 0)⟩, h1⟩) fun e h =>
 sq (bd (nilC (e.s k13 0)) fun t37 =>
 bd (fa 2 t37) fun t38 =>
 bf (stZ 1 h t38 (e.s k13 8)) fun _ h1 =>
 some ⟨.nm, ⟨[(e.s k13 0), (e.s k13 1), (e.s k13 2), (e.s k13 6), (e.s k13 7), (e.s k13 8)], 0, (e.s k13 0)⟩, h1⟩) fun e h =>
 sq (blk 0 (L (l13_0 K L) e h)) fun e h =>
 sq (some ⟨.nm, ⟨[(e.s k13 0), (e.s k13 1), (e.s k13 2), (.int .i64 0), (e.s k13 7), (e.s k13 8)], 6, (.int .i64 0)⟩, h⟩) fun e h =>
 some ⟨.rt, e, h⟩
noncomputable def f13 (K : Oracle) (L : Looper) (p0 p1 p2 : V) (h : H) : Option (Rv × H) := fin Try.prog k13 [.tmp 6] (s13 K L ⟨[p0, p1, p2, V.und, V.und, V.und], 0, p0⟩ h)
theorem r13 : (fun K L p0 p1 p2 h => runFF Try.prog kp K L 13 [p0, p1, p2] h) = f13 := by kernel_rfl
theorem c13 (p0 p1 p2 : V) (h : H) : callZ Try.prog kp 13 [p0, p1, p2] h = f13 (callZ Try.prog kp) loopZ p0 p1 p2 h :=
  (callZ_eqF _ _ _ _ _).trans (congrFun (congrFun (congrFun (congrFun (congrFun (congrFun (r13) _) _) p0) p1) p2) h)

/-- (*zoetrope/rac.Encoder).Bytes -/
@[simp] def k14 : List Nat := [0, 2, 3, 4, 24]
noncomputable def l14_0 (K : Oracle) (L : Looper) (e : E) (h : H) : Out :=
 sq (bd (binK 0 .lss (e.s k14 24) (.int .i64 4)) fun t25 =>
 some ⟨.nm, ⟨[(e.s k14 0), (e.s k14 2), (e.s k14 3), (e.s k14 4), (e.s k14 24)], 25, t25⟩, h⟩) fun e h =>
 sq (br (e.s k14 25) (some ⟨.nm, e, h⟩)
 (some ⟨.ex 0, e, h⟩)) fun e h =>
 sq (blk 1 (bc k14 [26] e (K 29 [(e.s k14 3)] h) fun t26 h1 =>
 some ⟨.nm, ⟨[(e.s k14 0), (e.s k14 2), (e.s k14 3), (e.s k14 4), (e.s k14 24)], 26, t26⟩, h1⟩)) fun e h =>
 bd (binK 0 .add (e.s k14 24) (.int .i64 1)) fun t27 =>
 some ⟨.nm, ⟨[(e.s k14 0), (e.s k14 2), (e.s k14 3), (e.s k14 4), t27], 24, t27⟩, h⟩
noncomputable def l14_1 (K : Oracle) (L : Looper) (e : E) (h : H) : Out :=
 sq (sq (bd (binK 0 .gtr (e.s k14 4) (.int .i64 0)) fun t32 =>
 bd (gl t32 true (fa 0 (e.s k14 3))) fun t34 =>
 bd (gl t32 true (ld h t34)) fun t35 =>
 bd (gl t32 true (some (e.s k14 4))) fun t36 =>
 bd (gl t32 true (binK 0 .sub t36 (.int .i64 1))) fun t37 =>
 bd (gl t32 true (iaS 1 t35 t37)) fun t38 =>
 bd (gl t32 true (ld h t38)) fun t39 =>
 bd (gl t32 true (binK 0 .eql t39 (.int .u8 0))) fun t40 =>
 bd (pk t32 t40 (.bool false)) fun t41 =>
 some ⟨.nm, ⟨[(e.s k14 0), (e.s k14 2), (e.s k14 3), (e.s k14 4), (e.s k14 24)], 41, t41⟩, h⟩) fun e h =>
 br (e.s k14 41) (some ⟨.nm, e, h⟩)
 (some ⟨.ex 2, e, h⟩)) fun e h =>
 blk 3 (bd (binK 0 .sub (e.s k14 4) (.int .i64 1)) fun t43 =>
 some ⟨.nm, ⟨[(e.s k14 0), (e.s k14 2), (e.s k14 3), t43, (e.s k14 24)], 4, t43⟩, h⟩)
noncomputable def s14 (K : Oracle) (L : Looper) (e : E) (h : H) : Out :=
 sq (some ⟨.nm, ⟨[(e.s k14 0), .nils, (e.s k14 3), (e.s k14 4), (e.s k14 24)], 2, .nils⟩, h⟩) fun e h =>
 sq (sq (bd (binK 2 .eql (e.s k14 0) .nilp) fun t6 =>
 bd (gl t6 false (some (e.s k14 0))) fun t8 =>
 bd (gl t6 false (nilC t8)) fun t9 =>
 bd (gl t6 false (fa 2 t9)) fun t10 =>
 bd (gl t6 false (ld h t10)) fun t11 =>
 bd (gl t6 false (binK 0 .eql t11 (.int .u32 0))) fun t12 =>
 bd (pk t6 (.bool true) t12) fun t13 =>
 some ⟨.nm, ⟨[(e.s k14 0), (e.s k14 2), (e.s k14 3), (e.s k14 4), (e.s k14 24)], 13, t13⟩, h⟩) fun e h =>
 br (e.s k14 13) (sq (some ⟨.nm, ⟨[(e.s k14 0), .nils, (e.s k14 3), (e.s k14 4), (e.s k14 24)], 2, .nils⟩, h⟩) fun e h =>
 some ⟨.rt, e, h⟩)
 (some ⟨.nm, e, h⟩)) fun e h =>
 sq (bd (nilC (e.s k14 0)) fun t15 =>
 bd (fa 0 t15) fun t16 =>
 bd (ld h t16) fun t17 =>
 bn (K 32 [t17] h) fun t18 h1 =>
 bd (nilC (e.s k14 0)) fun t20 =>
 bd (fa 1 t20) fun t21 =>
 bd (ld h1 t21) fun t22 =>
 bd (bl [.nils, (.int .u64 0), (.int .u32 0)] [(some (0, 1), t18), (some (1, 1), t22)]) fun t23 =>
 bf (nw h1 52 [.nils, (.int .u64 0), (.int .u32 0)]) fun t3 h2 =>
 bf (stZ 3 h2 t3 t23) fun _ h3 =>
 ck (ld h t16) t17 (ck (ld h t21) t22 (ck (ld h1 t21) t22 (some ⟨.nm, ⟨[(e.s k14 0), (e.s k14 2), t3, (e.s k14 4), (e.s k14 24)], 0, (e.s k14 0)⟩, h3⟩)))) fun e h =>
 sq (sq (some ⟨.nm, ⟨[(e.s k14 0), (e.s k14 2), (e.s k14 3), (e.s k14 4), (.int .i64 0)], 24, (.int .i64 0)⟩, h⟩) fun e h =>
 blk 0 (L (l14_0 K L) e h)) fun e h =>
 sq (bd (fa 0 (e.s k14 3)) fun t28 =>
 bd (ld h t28) fun t29 =>
 bd (lnS t29) fun t30 =>
 some ⟨.nm, ⟨[(e.s k14 0), (e.s k14 2), (e.s k14 3), t30, (e.s k14 24)], 4, t30⟩, h⟩) fun e h =>
 sq (blk 2 (L (l14_1 K L) e h)) fun e h =>
 sq (bd (fa 0 (e.s k14 3)) fun t44 =>
 bd (ld h t44) fun t45 =>
 bd (slS 1 t45 none (some (e.s k14 4)) (some (e.s k14 4))) fun t48 =>
 some ⟨.nm, ⟨[(e.s k14 0), t48, (e.s k14 3), (e.s k14 4), (e.s k14 24)], 2, t48⟩, h⟩) fun e h =>
 some ⟨.rt, e, h⟩
noncomputable def f14 (K : Oracle) (L : Looper) (p0 : V) (h : H) : Option (Rv × H) := fin Try.prog k14 [.tmp 2] (s14 K L ⟨[p0, V.und, V.und, V.und, V.und], 0, p0⟩ h)
theorem r14 : (fun K L p0 h => runFF Try.prog kp K L 14 [p0] h) = f14 := by kernel_rfl
theorem c14 (p0 : V) (h : H) : callZ Try.prog kp 14 [p0] h = f14 (callZ Try.prog kp) loopZ p0 h :=
  (callZ_eqF _ _ _ _ _).trans (congrFun (congrFun (congrFun (congrFun (r14) _) _) p0) h)

/-- zoetrope/zoetroperef00.EqBytes -/
@[simp] def k15 : List Nat := [0, 1, 4, 5]
noncomputable def l15_0 (K : Oracle) (L : Looper) (e : E) (h : H) : Out :=
 sq (sq (bd (lnS (e.s k15 0)) fun t13 =>
 bd (binK 0 .lss (e.s k15 5) t13) fun t14 =>
 some ⟨.nm, ⟨[(e.s k15 0), (e.s k15 1), (e.s k15 4), (e.s k15 5)], 14, t14⟩, h⟩) fun e h =>
 br (e.s k15 14) (some ⟨.nm, e, h⟩)
 (some ⟨.ex 0, e, h⟩)) fun e h =>
 sq (blk 1 (sq (bd (iaS 1 (e.s k15 0) (e.s k15 5)) fun t19 =>
 bd (ld h t19) fun t20 =>
 bd (iaS 1 (e.s k15 1) (e.s k15 5)) fun t23 =>
 bd (ld h t23) fun t24 =>
 bd (binK 0 .neq t20 t24) fun t25 =>
 ck (ld h t19) t20 (ck (ld h t23) t24 (some ⟨.nm, ⟨[(e.s k15 0), (e.s k15 1), (e.s k15 4), (e.s k15 5)], 25, t25⟩, h⟩))) fun e h =>
 br (e.s k15 25) (sq (some ⟨.nm, ⟨[(e.s k15 0), (e.s k15 1), (.bool false), (e.s k15 5)], 4, (.bool false)⟩, h⟩) fun e h =>
 some ⟨.rt, e, h⟩)
 (some ⟨.nm, e, h⟩))) fun e h =>
 bd (binK 0 .add (e.s k15 5) (.int .i64 1)) fun t16 =>
 some ⟨.nm, ⟨[(e.s k15 0), (e.s k15 1), (e.s k15 4), t16], 5, t16⟩, h⟩
noncomputable def s15 (K : Oracle) (L : Looper) (e : E) (h : H) : Out :=
 sq (some ⟨.nm, ⟨[(e.s k15 0), (e.s k15 1), (.bool false), (e.s k15 5)], 4, (.bool false)⟩, h⟩) fun e h =>
 sq (sq (bd (lnS (e.s k15 0)) fun t7 =>
 bd (lnS (e.s k15 1)) fun t9 =>
 bd (binK 0 .neq t7 t9) fun t10 =>
 some ⟨.nm, ⟨[(e.s k15 0), (e.s k15 1), (e.s k15 4), (e.s k15 5)], 10, t10⟩, h⟩) fun e h =>
 br (e.s k15 10) (sq (some ⟨.nm, ⟨[(e.s k15 0), (e.s k15 1), (.bool false), (e.s k15 5)], 4, (.bool false)⟩, h⟩) fun e h =>
 some ⟨.rt, e, h⟩)
 (some ⟨.nm, e, h⟩)) fun e h =>
 sq (sq (some ⟨.nm, ⟨[(e.s k15 0), (e.s k15 1), (e.s k15 4), (.int .i64 0)], 5, (.int .i64 0)⟩, h⟩) fun e h =>
 blk 0 (L (l15_0 K L) e h)) fun e h =>
 sq (some ⟨.nm, ⟨[(e.s k15 0), (e.s k15 1), (.bool true), (e.s k15 5)], 4, (.bool true)⟩, h⟩) fun e h =>
 some ⟨.rt, e, h⟩
noncomputable def f15 (K : Oracle) (L : Looper) (p0 p1 : V) (h : H) : Option (Rv × H) := fin Try.prog k15 [.tmp 4] (s15 K L ⟨[p0, p1, V.und, V.und], 0, p0⟩ h)
theorem r15 : (fun K L p0 p1 h => runFF Try.prog kp K L 15 [p0, p1] h) = f15 := by kernel_rfl
theorem c15 (p0 p1 : V) (h : H) : callZ Try.prog kp 15 [p0, p1] h = f15 (callZ Try.prog kp) loopZ p0 p1 h :=
  (callZ_eqF _ _ _ _ _).trans (congrFun (congrFun (congrFun (congrFun (congrFun (r15) _) _) p0) p1) h)

/-- (*zoetrope/zoetroperef02.Encoder).Bytes -/
@[simp] def k16 : List Nat := [0, 2, 3, 4, 5]
noncomputable def l16_0 (K : Oracle) (L : Looper) (e : E) (h : H) : Out :=
 sq (sq (bd (binK 0 .lss (e.s k16 4) (.int .i64 4)) fun t25 =>
 some ⟨.nm, ⟨[(e.s k16 0), (e.s k16 2), (e.s k16 3), (e.s k16 4), (e.s k16 5)], 25, t25⟩, h⟩) fun e h =>
 br (e.s k16 25) (some ⟨.nm, e, h⟩)
 (some ⟨.ex 0, e, h⟩)) fun e h =>
 sq (blk 1 (bc k16 [28, 29] e (K 31 [(e.s k16 3)] h) fun t29 h1 =>
 some ⟨.nm, ⟨[(e.s k16 0), (e.s k16 2), (e.s k16 3), (e.s k16 4), (e.s k16 5)], 29, t29⟩, h1⟩)) fun e h =>
 bd (binK 0 .add (e.s k16 4) (.int .i64 1)) fun t27 =>
 some ⟨.nm, ⟨[(e.s k16 0), (e.s k16 2), (e.s k16 3), t27, (e.s k16 5)], 4, t27⟩, h⟩
noncomputable def l16_1 (K : Oracle) (L : Looper) (e : E) (h : H) : Out :=
 sq (sq (bd (binK 0 .gtr (e.s k16 5) (.int .i64 0)) fun t36 =>
 bd (gl t36 true (some (e.s k16 3))) fun t38 =>
 bd (gl t36 true (nilC t38)) fun t39 =>
 bd (gl t36 true (fa 0 t39)) fun t40 =>
 bd (gl t36 true (ld h t40)) fun t41 =>
 bd (gl t36 true (some (e.s k16 5))) fun t42 =>
 bd (gl t36 true (binK 0 .sub t42 (.int .i64 1))) fun t43 =>
 bd (gl t36 true (iaS 1 t41 t43)) fun t44 =>
 bd (gl t36 true (ld h t44)) fun t45 =>
 bd (gl t36 true (binK 0 .eql t45 (.int .u8 0))) fun t46 =>
 bd (pk t36 t46 (.bool false)) fun t47 =>
 some ⟨.nm, ⟨[(e.s k16 0), (e.s k16 2), (e.s k16 3), (e.s k16 4), (e.s k16 5)], 47, t47⟩, h⟩) fun e h =>
 br (e.s k16 47) (some ⟨.nm, e, h⟩)
 (some ⟨.ex 2, e, h⟩)) fun e h =>
 blk 3 (bd (binK 0 .sub (e.s k16 5) (.int .i64 1)) fun t49 =>
 some ⟨.nm, ⟨[(e.s k16 0), (e.s k16 2), (e.s k16 3), (e.s k16 4), t49], 5, t49⟩, h⟩)
noncomputable def s16 (K : Oracle) (L : Looper) (e : E) (h : H) : Out :=
 sq (some ⟨.nm, ⟨[(e.s k16 0), .nils, (e.s k16 3), (e.s k16 4), (e.s k16 5)], 2, .nils⟩, h⟩) fun e h =>
 sq (bd (nilC (e.s k16 0)) fun t7 =>
 bd (fa 1 t7) fun t8 =>
 bd (ld h t8) fun t9 =>
 bd (bl [.nils, (.int .u64 0), (.int .u64 0)] [(some (1, 1), t9)]) fun t10 =>
 bf (bx h 56 t10) fun t11 h1 =>
 some ⟨.nm, ⟨[(e.s k16 0), (e.s k16 2), t11, (e.s k16 4), (e.s k16 5)], 3, t11⟩, h1⟩) fun e h =>
 sq (bd (nilC (e.s k16 3)) fun t14 =>
 bd (fa 0 t14) fun t15 =>
 bd (ld h t15) fun t16 =>
 bd (nilC (e.s k16 0)) fun t18 =>
 bd (fa 0 t18) fun t19 =>
 bd (ld h t19) fun t20 =>
 bf (apZ 5 1 1 h t16 t20) fun t21 h1 =>
 bd (nilC (e.s k16 3)) fun t22 =>
 bd (fa 0 t22) fun t23 =>
 bf (stZ 1 h1 t23 t21) fun _ h2 =>
 ck (ld h t15) t16 (ck (ld h t19) t20 (some ⟨.nm, ⟨[(e.s k16 0), (e.s k16 2), (e.s k16 3), (e.s k16 4), (e.s k16 5)], 0, (e.s k16 0)⟩, h2⟩))) fun e h =>
 sq (sq (some ⟨.nm, ⟨[(e.s k16 0), (e.s k16 2), (e.s k16 3), (.int .i64 0), (e.s k16 5)], 4, (.int .i64 0)⟩, h⟩) fun e h =>
 blk 0 (L (l16_0 K L) e h)) fun e h =>
 sq (bd (nilC (e.s k16 3)) fun t31 =>
 bd (fa 0 t31) fun t32 =>
 bd (ld h t32) fun t33 =>
 bd (lnS t33) fun t34 =>
 some ⟨.nm, ⟨[(e.s k16 0), (e.s k16 2), (e.s k16 3), (e.s k16 4), t34], 5, t34⟩, h⟩) fun e h =>
 sq (blk 2 (L (l16_1 K L) e h)) fun e h =>
 sq (bd (nilC (e.s k16 3)) fun t51 =>
 bd (fa 0 t51) fun t52 =>
 bd (ld h t52) fun t53 =>
 bd (slS 1 t53 none (some (e.s k16 5)) none) fun t55 =>
 some ⟨.nm, ⟨[(e.s k16 0), t55, (e.s k16 3), (e.s k16 4), (e.s k16 5)], 2, t55⟩, h⟩) fun e h =>
 some ⟨.rt, e, h⟩
noncomputable def f16 (K : Oracle) (L : Looper) (p0 : V) (h : H) : Option (Rv × H) := fin Try.prog k16 [.tmp 2] (s16 K L ⟨[p0, V.und, V.und, V.und, V.und], 0, p0⟩ h)
theorem r16 : (fun K L p0 h => runFF Try.prog kp K L 16 [p0] h) = f16 := by kernel_rfl
theorem c16 (p0 : V) (h : H) : callZ Try.prog kp 16 [p0] h = f16 (callZ Try.prog kp) loopZ p0 h :=
  (callZ_eqF _ _ _ _ _).trans (congrFun (congrFun (congrFun (congrFun (r16) _) _) p0) h)

/-- zoetrope/zoetropelaw02.works -/
@[simp] def k17 : List Nat := [0, 1, 2, 3, 4, 5, 6, 7, 8, 9, 10, 11]
noncomputable def s17 (K : Oracle) (L : Looper) (e : E) (h : H) : Out :=
 sq (some ⟨.nm, ⟨[(.bool false), (e.s k17 1), (e.s k17 2), (e.s k17 3), (e.s k17 4), (e.s k17 5), (e.s k17 6), (e.s k17 7), (e.s k17 8), (e.s k17 9), (e.s k17 10), (e.s k17 11)], 0, (.bool false)⟩, h⟩) fun e h =>
 sq (bc k17 [12, 1] e (K 10 [] h) fun t12 h1 =>
 some ⟨.nm, ⟨[(e.s k17 0), t12, (e.s k17 2), (e.s k17 3), (e.s k17 4), (e.s k17 5), (e.s k17 6), (e.s k17 7), (e.s k17 8), (e.s k17 9), (e.s k17 10), (e.s k17 11)], 1, t12⟩, h1⟩) fun e h =>
 sq (bc k17 [13, 14, 15, 16, 2, 3] e (K 12 [(e.s k17 1), (.int .u32 16384), (.int .u32 32768)] h) fun t14 h1 =>
 bc k17 [13, 14, 15, 16, 2, 3] e (K 12 [(e.s k17 1), (.int .u32 7), (.int .u32 9)] h1) fun t16 h2 =>
 some ⟨.nm, ⟨[(e.s k17 0), (e.s k17 1), t14, t16, (e.s k17 4), (e.s k17 5), (e.s k17 6), (e.s k17 7), (e.s k17 8), (e.s k17 9), (e.s k17 10), (e.s k17 11)], 3, t16⟩, h2⟩) fun e h =>
 sq (bc k17 [17, 18, 19, 4] e (K 14 [(e.s k17 1)] h) fun t18 h1 =>
 bc k17 [17, 18, 19, 4] e (K 19 [t18] h1) fun t19 h2 =>
 some ⟨.nm, ⟨[(e.s k17 0), (e.s k17 1), (e.s k17 2), (e.s k17 3), t19, (e.s k17 5), (e.s k17 6), (e.s k17 7), (e.s k17 8), (e.s k17 9), (e.s k17 10), (e.s k17 11)], 4, t19⟩, h2⟩) fun e h =>
 sq (bc k17 [21, 22, 20, 23, 24, 5, 6] e (K 21 [(e.s k17 4)] h) fun t22 h1 =>
 bd (exV t22 0) fun t23 =>
 bd (exV t22 1) fun t24 =>
 some ⟨.nm, ⟨[(e.s k17 0), (e.s k17 1), (e.s k17 2), (e.s k17 3), (e.s k17 4), t23, t24, (e.s k17 7), (e.s k17 8), (e.s k17 9), (e.s k17 10), (e.s k17 11)], 6, t24⟩, h1⟩) fun e h =>
 sq (bc k17 [25, 26, 7] e (K 24 [(e.s k17 4), (.int .u32 16384), (.int .u32 32768)] h) fun t26 h1 =>
 some ⟨.nm, ⟨[(e.s k17 0), (e.s k17 1), (e.s k17 2), (e.s k17 3), (e.s k17 4), (e.s k17 5), (e.s k17 6), t26, (e.s k17 8), (e.s k17 9), (e.s k17 10), (e.s k17 11)], 7, t26⟩, h1⟩) fun e h =>
 sq (bc k17 [28, 29, 27, 30, 31, 8, 9] e (K 21 [(e.s k17 4)] h) fun t29 h1 =>
 bd (exV t29 0) fun t30 =>
 bd (exV t29 1) fun t31 =>
 some ⟨.nm, ⟨[(e.s k17 0), (e.s k17 1), (e.s k17 2), (e.s k17 3), (e.s k17 4), (e.s k17 5), (e.s k17 6), (e.s k17 7), t30, t31, (e.s k17 10), (e.s k17 11)], 9, t31⟩, h1⟩) fun e h =>
 sq (bc k17 [32, 10] e (K 10 [] h) fun t32 h1 =>
 some ⟨.nm, ⟨[(e.s k17 0), (e.s k17 1), (e.s k17 2), (e.s k17 3), (e.s k17 4), (e.s k17 5), (e.s k17 6), (e.s k17 7), (e.s k17 8), (e.s k17 9), t32, (e.s k17 11)], 10, t32⟩, h1⟩) fun e h =>
 sq (bc k17 [33, 34, 11] e (K 12 [(e.s k17 10), (.int .u32 16384), (.int .u32 32768)] h) fun t34 h1 =>
 some ⟨.nm, ⟨[(e.s k17 0), (e.s k17 1), (e.s k17 2), (e.s k17 3), (e.s k17 4), (e.s k17 5), (e.s k17 6), (e.s k17 7), (e.s k17 8), (e.s k17 9), (e.s k17 10), t34], 11, t34⟩, h1⟩) fun e h =>
 sq (bd (binK 0 .eql (e.s k17 2) (.int .i64 0)) fun t36 =>
 bd (gl t36 true (some (e.s k17 3))) fun t38 =>
 bd (gl t36 true (binK 0 .eql t38 (.int .i64 0))) fun t39 =>
 bd (pk t36 t39 (.bool false)) fun t40 =>
 bd (gl t40 true (some (e.s k17 6))) fun t42 =>
 bd (gl t40 true (binK 0 .eql t42 (.int .i64 0))) fun t43 =>
 bd (pk t40 t43 (.bool false)) fun t44 =>
 bd (gl t44 true (some (e.s k17 7))) fun t46 =>
 bd (gl t44 true (binK 0 .eql t46 (.int .i64 0))) fun t47 =>
 bd (pk t44 t47 (.bool false)) fun t48 =>
 bd (gl t48 true (some (e.s k17 9))) fun t50 =>
 bd (gl t48 true (binK 0 .eql t50 (.int .i64 0))) fun t51 =>
 bd (pk t48 t51 (.bool false)) fun t52 =>
 bd (gl t52 true (some (e.s k17 11))) fun t54 =>
 bd (gl t52 true (binK 0 .eql t54 (.int .i64 0))) fun t55 =>
 bd (pk t52 t55 (.bool false)) fun t56 =>
 bd (gl t56 true (some (e.s k17 5))) fun t58 =>
 bd (gl t56 true (binK 0 .geq t58 (.int .u32 16384))) fun t59 =>
 bd (pk t56 t59 (.bool false)) fun t60 =>
 bd (gl t60 true (some (e.s k17 8))) fun t62 =>
 bd (gl t60 true (binK 0 .eql t62 (.int .u32 7))) fun t63 =>
 bd (gl t60 true (some t63)) fun t64 =>
 bd (gl t64 false (some (e.s k17 8))) fun t65 =>
 bd (gl t64 false (binK 0 .eql t65 (.int .u32 8))) fun t66 =>
 bd (gl t60 true (pk t64 (.bool true) t66)) fun t67 =>
 bd (pk t60 t67 (.bool false)) fun t68 =>
 bd (gl t68 true (some (e.s k17 10))) fun t70 =>
 bc k17 [35, 36, 37, 38, 39, 40, 41, 42, 43, 44, 45, 46, 47, 48, 49, 50, 51, 52, 53, 54, 55, 56, 57, 58, 59, 60, 61, 62, 63, 64, 65, 66, 67, 68, 69, 70, 71, 72, 73, 74, 0] e (gk t68 true h (K 14 [t70] h)) fun t71 h1 =>
 bf (gf t68 true h1 (bs h1 5 3 [(.int .u8 0), (.int .u8 0), (.int .u8 0)] [(some (0, 1), (.int .u8 127)), (some (1, 1), (.int .u8 255)), (some (2, 1), (.int .u8 192))])) fun t72 h2 =>
 bc k17 [35, 36, 37, 38, 39, 40, 41, 42, 43, 44, 45, 46, 47, 48, 49, 50, 51, 52, 53, 54, 55, 56, 57, 58, 59, 60, 61, 62, 63, 64, 65, 66, 67, 68, 69, 70, 71, 72, 73, 74, 0] e (gk t68 true h2 (K 15 [t71, t72] h2)) fun t73 h3 =>
 bd (pk t68 t73 (.bool false)) fun t74 =>
 some ⟨.nm, ⟨[t74, (e.s k17 1), (e.s k17 2), (e.s k17 3), (e.s k17 4), (e.s k17 5), (e.s k17 6), (e.s k17 7), (e.s k17 8), (e.s k17 9), (e.s k17 10), (e.s k17 11)], 0, t74⟩, h3⟩) fun e h =>
 some ⟨.rt, e, h⟩
noncomputable def f17 (K : Oracle) (L : Looper) (h : H) : Option (Rv × H) := fin Try.prog k17 [.tmp 0] (s17 K L ⟨[V.und, V.und, V.und, V.und, V.und, V.und, V.und, V.und, V.und, V.und, V.und, V.und], 0, V.und⟩ h)
theorem r17 : (fun K L h => runFF Try.prog kp K L 17 [] h) = f17 := by kernel_rfl
theorem c17 (h : H) : callZ Try.prog kp 17 [] h = f17 (callZ Try.prog kp) loopZ h :=
  (callZ_eqF _ _ _ _ _).trans (congrFun (congrFun (congrFun (r17) _) _) h)

/-- zoetrope/zoetroperef00.CopyBytes -/
@[simp] def k18 : List Nat := [0, 2, 3]
noncomputable def s18 (K : Oracle) (L : Looper) (e : E) (h : H) : Out :=
 sq (some ⟨.nm, ⟨[(e.s k18 0), .nils, (e.s k18 3)], 2, .nils⟩, h⟩) fun e h =>
 sq (some ⟨.nm, ⟨[(e.s k18 0), (e.s k18 2), .nils], 3, .nils⟩, h⟩) fun e h =>
 sq (bf (apZ 5 1 1 h (e.s k18 3) (e.s k18 0)) fun t6 h1 =>
 some ⟨.nm, ⟨[(e.s k18 0), (e.s k18 2), t6], 3, t6⟩, h1⟩) fun e h =>
 sq (some ⟨.nm, ⟨[(e.s k18 0), (e.s k18 3), (e.s k18 3)], 2, (e.s k18 3)⟩, h⟩) fun e h =>
 some ⟨.rt, e, h⟩
noncomputable def f18 (K : Oracle) (L : Looper) (p0 : V) (h : H) : Option (Rv × H) := fin Try.prog k18 [.tmp 2] (s18 K L ⟨[p0, V.und, V.und], 0, p0⟩ h)
theorem r18 : (fun K L p0 h => runFF Try.prog kp K L 18 [p0] h) = f18 := by kernel_rfl
theorem c18 (p0 : V) (h : H) : callZ Try.prog kp 18 [p0] h = f18 (callZ Try.prog kp) loopZ p0 h :=
  (callZ_eqF _ _ _ _ _).trans (congrFun (congrFun (congrFun (congrFun (r18) _) _) p0) h)

/-- zoetrope/rac.Read -/
@[simp] def k19 : List Nat := [0, 2, 3, 8]
noncomputable def l19_0 (K : Oracle) (L : Looper) (e : E) (h : H) : Out :=
 sq (bd (binK 0 .lss (e.s k19 8) (.int .i64 4)) fun t9 =>
 some ⟨.nm, ⟨[(e.s k19 0), (e.s k19 2), (e.s k19 3), (e.s k19 8)], 9, t9⟩, h⟩) fun e h =>
 sq (br (e.s k19 9) (some ⟨.nm, e, h⟩)
 (some ⟨.ex 0, e, h⟩)) fun e h =>
 sq (blk 1 (bc k19 [10, 11] e (K 33 [(e.s k19 3)] h) fun t11 h1 =>
 some ⟨.nm, ⟨[(e.s k19 0), (e.s k19 2), (e.s k19 3), (e.s k19 8)], 11, t11⟩, h1⟩)) fun e h =>
 bd (binK 0 .add (e.s k19 8) (.int .i64 1)) fun t12 =>
 some ⟨.nm, ⟨[(e.s k19 0), (e.s k19 2), (e.s k19 3), t12], 8, t12⟩, h⟩
noncomputable def s19 (K : Oracle) (L : Looper) (e : E) (h : H) : Out :=
 sq (some ⟨.nm, ⟨[(e.s k19 0), .nilp, (e.s k19 3), (e.s k19 8)], 2, .nilp⟩, h⟩) fun e h =>
 sq (bc k19 [4, 5, 6, 7, 3] e (K 32 [(e.s k19 0)] h) fun t5 h1 =>
 bd (bl [.nils, (.int .u32 0), (.int .u32 0)] [(some (0, 1), t5), (some (2, 1), (.int .u32 4294967295))]) fun t6 =>
 bf (bx h1 54 t6) fun t7 h2 =>
 some ⟨.nm, ⟨[(e.s k19 0), (e.s k19 2), t7, (e.s k19 8)], 3, t7⟩, h2⟩) fun e h =>
 sq (sq (some ⟨.nm, ⟨[(e.s k19 0), (e.s k19 2), (e.s k19 3), (.int .i64 0)], 8, (.int .i64 0)⟩, h⟩) fun e h =>
 blk 0 (L (l19_0 K L) e h)) fun e h =>
 sq (bd (nilC (e.s k19 3)) fun t15 =>
 bd (fa 1 t15) fun t16 =>
 bd (ld h t16) fun t17 =>
 bd (minV [t17, (.int .u32 4294967294)]) fun t18 =>
 bd (nilC (e.s k19 3)) fun t19 =>
 bd (fa 1 t19) fun t20 =>
 bf (stZ 1 h t20 t18) fun _ h1 =>
 some ⟨.nm, ⟨[(e.s k19 0), (e.s k19 2), (e.s k19 3), (e.s k19 8)], 0, (e.s k19 0)⟩, h1⟩) fun e h =>
 sq (some ⟨.nm, ⟨[(e.s k19 0), (e.s k19 3), (e.s k19 3), (e.s k19 8)], 2, (e.s k19 3)⟩, h⟩) fun e h =>
 some ⟨.rt, e, h⟩
noncomputable def f19 (K : Oracle) (L : Looper) (p0 : V) (h : H) : Option (Rv × H) := fin Try.prog k19 [.tmp 2] (s19 K L ⟨[p0, V.und, V.und, V.und], 0, p0⟩ h)
theorem r19 : (fun K L p0 h => runFF Try.prog kp K L 19 [p0] h) = f19 := by kernel_rfl
theorem c19 (p0 : V) (h : H) : callZ Try.prog kp 19 [p0] h = f19 (callZ Try.prog kp) loopZ p0 h :=
  (callZ_eqF _ _ _ _ _).trans (congrFun (congrFun (congrFun (congrFun (r19) _) _) p0) h)

/-- zoetrope/zoetroperef02.Read -/
@[simp] def k20 : List Nat := [0, 2, 3, 4]
noncomputable def l20_0 (K : Oracle) (L : Looper) (e : E) (h : H) : Out :=
 sq (sq (bd (binK 0 .lss (e.s k20 4) (.int .i64 4)) fun t17 =>
 some ⟨.nm, ⟨[(e.s k20 0), (e.s k20 2), (e.s k20 3), (e.s k20 4)], 17, t17⟩, h⟩) fun e h =>
 br (e.s k20 17) (some ⟨.nm, e, h⟩)
 (some ⟨.ex 0, e, h⟩)) fun e h =>
 sq (blk 1 (bn (K 34 [(e.s k20 3)] h) fun t27 h1 =>
 bd (nilC (e.s k20 3)) fun t22 =>
 bd (fa 2 t22) fun t23 =>
 bd (ld h1 t23) fun t24 =>
 bd (binK 0 .mul t24 (.int .u64 256)) fun t25 =>
 bd (binK 0 .add t25 t27) fun t28 =>
 bd (nilC (e.s k20 3)) fun t29 =>
 bd (fa 2 t29) fun t30 =>
 bf (stZ 1 h1 t30 t28) fun _ h2 =>
 ck (ld h t23) t24 (ck (ld h1 t23) t24 (some ⟨.nm, ⟨[(e.s k20 0), (e.s k20 2), (e.s k20 3), (e.s k20 4)], 0, (e.s k20 0)⟩, h2⟩)))) fun e h =>
 bd (binK 0 .add (e.s k20 4) (.int .i64 1)) fun t19 =>
 some ⟨.nm, ⟨[(e.s k20 0), (e.s k20 2), (e.s k20 3), t19], 4, t19⟩, h⟩
noncomputable def s20 (K : Oracle) (L : Looper) (e : E) (h : H) : Out :=
 sq (some ⟨.nm, ⟨[(e.s k20 0), .nilp, (e.s k20 3), (e.s k20 4)], 2, .nilp⟩, h⟩) fun e h =>
 sq (bd (bl [.nils, (.int .i64 0), (.int .u64 0), (.int .u64 0)] [(some (3, 1), (.int .u64 4294967295))]) fun t5 =>
 bf (bx h 63 t5) fun t6 h1 =>
 some ⟨.nm, ⟨[(e.s k20 0), (e.s k20 2), t6, (e.s k20 4)], 3, t6⟩, h1⟩) fun e h =>
 sq (bd (nilC (e.s k20 3)) fun t9 =>
 bd (fa 0 t9) fun t10 =>
 bd (ld h t10) fun t11 =>
 bf (apZ 5 1 1 h t11 (e.s k20 0)) fun t13 h1 =>
 bd (nilC (e.s k20 3)) fun t14 =>
 bd (fa 0 t14) fun t15 =>
 bf (stZ 1 h1 t15 t13) fun _ h2 =>
 some ⟨.nm, ⟨[(e.s k20 0), (e.s k20 2), (e.s k20 3), (e.s k20 4)], 0, (e.s k20 0)⟩, h2⟩) fun e h =>
 sq (sq (some ⟨.nm, ⟨[(e.s k20 0), (e.s k20 2), (e.s k20 3), (.int .i64 0)], 4, (.int .i64 0)⟩, h⟩) fun e h =>
 blk 0 (L (l20_0 K L) e h)) fun e h =>
 sq (bd (nilC (e.s k20 3)) fun t33 =>
 bd (fa 2 t33) fun t34 =>
 bd (ld h t34) fun t35 =>
 bd (minV [t35, (.int .u64 4294967294)]) fun t36 =>
 bd (nilC (e.s k20 3)) fun t37 =>
 bd (fa 2 t37) fun t38 =>
 bf (stZ 1 h t38 t36) fun _ h1 =>
 some ⟨.nm, ⟨[(e.s k20 0), (e.s k20 2), (e.s k20 3), (e.s k20 4)], 0, (e.s k20 0)⟩, h1⟩) fun e h =>
 sq (some ⟨.nm, ⟨[(e.s k20 0), (e.s k20 3), (e.s k20 3), (e.s k20 4)], 2, (e.s k20 3)⟩, h⟩) fun e h =>
 some ⟨.rt, e, h⟩
noncomputable def f20 (K : Oracle) (L : Looper) (p0 : V) (h : H) : Option (Rv × H) := fin Try.prog k20 [.tmp 2] (s20 K L ⟨[p0, V.und, V.und, V.und], 0, p0⟩ h)
theorem r20 : (fun K L p0 h => runFF Try.prog kp K L 20 [p0] h) = f20 := by kernel_rfl
theorem c20 (p0 : V) (h : H) : callZ Try.prog kp 20 [p0] h = f20 (callZ Try.prog kp) loopZ p0 h :=
  (callZ_eqF _ _ _ _ _).trans (congrFun (congrFun (congrFun (congrFun (r20) _) _) p0) h)

/-- (*zoetrope/rac.Decoder).Value -/
@[simp] def k21 : List Nat := [0, 2, 3]
noncomputable def s21 (K : Oracle) (L : Looper) (e : E) (h : H) : Out :=
 sq (some ⟨.nm, ⟨[(e.s k21 0), (.int .u32 0), (.int .i64 0)], 3, (.int .i64 0)⟩, h⟩) fun e h =>
 sq (sq (bd (binK 2 .eql (e.s k21 0) .nilp) fun t5 =>
 bd (gl t5 false (some (e.s k21 0))) fun t7 =>
 bd (gl t5 false (nilC t7)) fun t8 =>
 bd (gl t5 false (fa 2 t8)) fun t9 =>
 bd (gl t5 false (ld h t9)) fun t10 =>
 bd (gl t5 false (binK 0 .eql t10 (.int .u32 0))) fun t11 =>
 bd (pk t5 (.bool true) t11) fun t12 =>
 some ⟨.nm, ⟨[(e.s k21 0), (e.s k21 2), (e.s k21 3)], 12, t12⟩, h⟩) fun e h =>
 br (e.s k21 12) (sq (some ⟨.nm, ⟨[(e.s k21 0), (.int .u32 0), (.int .i64 1)], 3, (.int .i64 1)⟩, h⟩) fun e h =>
 some ⟨.rt, e, h⟩)
 (some ⟨.nm, e, h⟩)) fun e h =>
 sq (bc k21 [13, 14, 2, 3] e (K 35 [(e.s k21 0)] h) fun t14 h1 =>
 some ⟨.nm, ⟨[(e.s k21 0), t14, (.int .i64 0)], 3, (.int .i64 0)⟩, h1⟩) fun e h =>
 some ⟨.rt, e, h⟩
noncomputable def f21 (K : Oracle) (L : Looper) (p0 : V) (h : H) : Option (Rv × H) := fin Try.prog k21 [.tmp 2, .tmp 3] (s21 K L ⟨[p0, V.und, V.und], 0, p0⟩ h)
theorem r21 : (fun K L p0 h => runFF Try.prog kp K L 21 [p0] h) = f21 := by kernel_rfl
theorem c21 (p0 : V) (h : H) : callZ Try.prog kp 21 [p0] h = f21 (callZ Try.prog kp) loopZ p0 h :=
  (callZ_eqF _ _ _ _ _).trans (congrFun (congrFun (congrFun (congrFun (r21) _) _) p0) h)

/-- (*zoetrope/zoetroperef02.Decoder).Value -/
@[simp] def k22 : List Nat := [0, 2, 3]
noncomputable def s22 (K : Oracle) (L : Looper) (e : E) (h : H) : Out :=
 sq (some ⟨.nm, ⟨[(e.s k22 0), (.int .u32 0), (.int .i64 0)], 3, (.int .i64 0)⟩, h⟩) fun e h =>
 sq (bd (nilC (e.s k22 0)) fun t5 =>
 bd (fa 2 t5) fun t6 =>
 bd (ld h t6) fun t7 =>
 bd (nilC (e.s k22 0)) fun t9 =>
 bd (fa 3 t9) fun t10 =>
 bd (ld h t10) fun t11 =>
 bd (binK 0 .quo t11 (.int .u64 32768)) fun t12 =>
 bd (binK 0 .quo t7 t12) fun t13 =>
 bd (minV [t13, (.int .u64 32767)]) fun t14 =>
 bd (cv .u32 t14) fun t15 =>
 ck (ld h t6) t7 (ck (ld h t10) t11 (some ⟨.nm, ⟨[(e.s k22 0), t15, (.int .i64 0)], 3, (.int .i64 0)⟩, h⟩))) fun e h =>
 some ⟨.rt, e, h⟩
noncomputable def f22 (K : Oracle) (L : Looper) (p0 : V) (h : H) : Option (Rv × H) := fin Try.prog k22 [.tmp 2, .tmp 3] (s22 K L ⟨[p0, V.und, V.und], 0, p0⟩ h)
theorem r22 : (fun K L p0 h => runFF Try.prog kp K L 22 [p0] h) = f22 := by kernel_rfl
theorem c22 (p0 : V) (h : H) : callZ Try.prog kp 22 [p0] h = f22 (callZ Try.prog kp) loopZ p0 h :=
  (callZ_eqF _ _ _ _ _).trans (congrFun (congrFun (congrFun (congrFun (r22) _) _) p0) h)

/-- zoetrope/zoetropelaw02.about -/
@[simp] def k23 : List Nat := [0, 1, 3, 4, 5]
noncomputable def s23 (K : Oracle) (L : Looper) (e : E) (h : H) : Out :=
 sq (bf (bx h 31 (e.s k23 1)) fun t3 h1 =>
 bf (nw h1 31 [(.int .u32 0), (.int .u32 0)]) fun t4 h2 =>
 some ⟨.nm, ⟨[(e.s k23 0), (e.s k23 1), t3, t4, (e.s k23 5)], 4, t4⟩, h2⟩) fun e h =>
 sq (bd (minV [(e.s k23 0), (.int .u32 32767)]) fun t7 =>
 some ⟨.nm, ⟨[t7, (e.s k23 1), (e.s k23 3), (e.s k23 4), (e.s k23 5)], 0, t7⟩, h⟩) fun e h =>
 sq (bd (fa 0 (e.s k23 3)) fun t8 =>
 bd (ld h t8) fun t9 =>
 bd (binK 0 .add (e.s k23 0) (.int .u32 1)) fun t11 =>
 bd (binK 0 .rem t9 t11) fun t12 =>
 some ⟨.nm, ⟨[(e.s k23 0), (e.s k23 1), (e.s k23 3), (e.s k23 4), t12], 5, t12⟩, h⟩) fun e h =>
 sq (bd (binK 0 .add (e.s k23 0) (.int .u32 1)) fun t15 =>
 bd (fa 1 (e.s k23 3)) fun t16 =>
 bd (ld h t16) fun t17 =>
 bd (binK 0 .sub (.int .u32 32768) (e.s k23 0)) fun t19 =>
 bd (binK 0 .rem t17 t19) fun t20 =>
 bd (binK 0 .add t15 t20) fun t21 =>
 bd (bl [(.int .u32 0), (.int .u32 0)] [(some (0, 1), (e.s k23 5)), (some (1, 1), t21)]) fun t22 =>
 bf (stZ 2 h (e.s k23 4) t22) fun _ h1 =>
 some ⟨.nm, ⟨[(e.s k23 0), (e.s k23 1), (e.s k23 3), (e.s k23 4), (e.s k23 5)], 0, (e.s k23 0)⟩, h1⟩) fun e h =>
 some ⟨.rt, e, h⟩
noncomputable def f23 (K : Oracle) (L : Looper) (p0 p1 : V) (h : H) : Option (Rv × H) := fin Try.prog k23 [.cell 4 31] (s23 K L ⟨[p0, p1, V.und, V.und, V.und], 0, p0⟩ h)
theorem r23 : (fun K L p0 p1 h => runFF Try.prog kp K L 23 [p0, p1] h) = f23 := by kernel_rfl
theorem c23 (p0 p1 : V) (h : H) : callZ Try.prog kp 23 [p0, p1] h = f23 (callZ Try.prog kp) loopZ p0 p1 h :=
  (callZ_eqF _ _ _ _ _).trans (congrFun (congrFun (congrFun (congrFun (congrFun (r23) _) _) p0) p1) h)

/-- (*zoetrope/rac.Decoder).Take -/
@[simp] def k24 : List Nat := [0, 1, 2, 6, 7, 8, 9]
noncomputable def l24_0 (K : Oracle) (L : Looper) (e : E) (h : H) : Out :=
 sq (sq (bd (binK 0 .leq (e.s k24 9) (.int .u32 16777215)) fun t52 =>
 some ⟨.nm, ⟨[(e.s k24 0), (e.s k24 1), (e.s k24 2), (e.s k24 6), (e.s k24 7), (e.s k24 8), (e.s k24 9)], 52, t52⟩, h⟩) fun e h =>
 br (e.s k24 52) (some ⟨.nm, e, h⟩)
 (some ⟨.ex 0, e, h⟩)) fun e h =>
 sq (blk 1 (bc k24 [55, 56] e (K 33 [(e.s k24 0)] h) fun t56 h1 =>
 some ⟨.nm, ⟨[(e.s k24 0), (e.s k24 1), (e.s k24 2), (e.s k24 6), (e.s k24 7), (e.s k24 8), (e.s k24 9)], 56, t56⟩, h1⟩)) fun e h =>
 bd (binK 0 .shl (e.s k24 9) (.int .u64 8)) fun t54 =>
 some ⟨.nm, ⟨[(e.s k24 0), (e.s k24 1), (e.s k24 2), (e.s k24 6), (e.s k24 7), (e.s k24 8), t54], 9, t54⟩, h⟩
noncomputable def s24 (K : Oracle) (L : Looper) (e : E) (h : H) : Out :=
 sq (some ⟨.nm, ⟨[(e.s k24 0), (e.s k24 1), (e.s k24 2), (.int .i64 0), (e.s k24 7), (e.s k24 8), (e.s k24 9)], 6, (.int .i64 0)⟩, h⟩) fun e h =>
 sq (sq (bd (binK 2 .eql (e.s k24 0) .nilp) fun t11 =>
 bd (gl t11 false (some (e.s k24 0))) fun t13 =>
 bd (gl t11 false (nilC t13)) fun t14 =>
 bd (gl t11 false (fa 2 t14)) fun t15 =>
 bd (gl t11 false (ld h t15)) fun t16 =>
 bd (gl t11 false (binK 0 .eql t16 (.int .u32 0))) fun t17 =>
 bd (pk t11 (.bool true) t17) fun t18 =>
 some ⟨.nm, ⟨[(e.s k24 0), (e.s k24 1), (e.s k24 2), (e.s k24 6), (e.s k24 7), (e.s k24 8), (e.s k24 9)], 18, t18⟩, h⟩) fun e h =>
 br (e.s k24 18) (sq (some ⟨.nm, ⟨[(e.s k24 0), (e.s k24 1), (e.s k24 2), (.int .i64 1), (e.s k24 7), (e.s k24 8), (e.s k24 9)], 6, (.int .i64 1)⟩, h⟩) fun e h =>
 some ⟨.rt, e, h⟩)
 (some ⟨.nm, e, h⟩)) fun e h =>
 sq (sq (bc k24 [19, 20, 7] e (K 35 [(e.s k24 0)] h) fun t20 h1 =>
 some ⟨.nm, ⟨[(e.s k24 0), (e.s k24 1), (e.s k24 2), (e.s k24 6), t20, (e.s k24 8), (e.s k24 9)], 7, t20⟩, h1⟩) fun e h =>
 sq (bd (binK 0 .gtr (e.s k24 1) (e.s k24 7)) fun t23 =>
 bd (gl t23 false (some (e.s k24 2))) fun t25 =>
 bd (gl t23 false (some (e.s k24 7))) fun t26 =>
 bd (gl t23 false (binK 0 .leq t25 t26)) fun t27 =>
 bd (pk t23 (.bool true) t27) fun t28 =>
 bd (gl t28 false (some (e.s k24 2))) fun t30 =>
 bd (gl t28 false (binK 0 .gtr t30 (.int .u32 32768))) fun t31 =>
 bd (pk t28 (.bool true) t31) fun t32 =>
 some ⟨.nm, ⟨[(e.s k24 0), (e.s k24 1), (e.s k24 2), (e.s k24 6), (e.s k24 7), (e.s k24 8), (e.s k24 9)], 32, t32⟩, h⟩) fun e h =>
 br (e.s k24 32) (sq (some ⟨.nm, ⟨[(e.s k24 0), (e.s k24 1), (e.s k24 2), (.int .i64 2), (e.s k24 7), (e.s k24 8), (e.s k24 9)], 6, (.int .i64 2)⟩, h⟩) fun e h =>
 some ⟨.rt, e, h⟩)
 (some ⟨.nm, e, h⟩)) fun e h =>
 sq (bd (nilC (e.s k24 0)) fun t35 =>
 bd (fa 2 t35) fun t36 =>
 bd (ld h t36) fun t37 =>
 bc k24 [34, 35, 36, 37, 38, 39, 40, 33, 41, 42, 8, 9] e (K 28 [t37, (e.s k24 1), (e.s k24 2)] h) fun t40 h1 =>
 bd (exV t40 0) fun t41 =>
 bd (exV t40 1) fun t42 =>
 some ⟨.nm, ⟨[(e.s k24 0), (e.s k24 1), (e.s k24 2), (e.s k24 6), (e.s k24 7), t41, t42], 9, t42⟩, h1⟩) fun e h =>
 sq (bd (nilC (e.s k24 0)) fun t44 =>
 bd (fa 1 t44) fun t45 =>
 bd (ld h t45) fun t46 =>
 bd (binK 0 .sub t46 (e.s k24 8)) fun t48 =>
 bd (nilC (e.s k24 0)) fun t49 =>
 bd (fa 1 t49) fun t50 =>
 bf (stZ 1 h t50 t48) fun _ h1 =>
 some ⟨.nm, ⟨[(e.s k24 0), (e.s k24 1), (e.s k24 2), (e.s k24 6), (e.s k24 7), (e.s k24 8), (e.s k24 9)], 0, (e.s k24 0)⟩, h1⟩) fun e h =>
 sq (blk 0 (L (l24_0 K L) e h)) fun e h =>
 sq (bd (nilC (e.s k24 0)) fun t59 =>
 bd (fa 2 t59) fun t60 =>
 bf (stZ 1 h t60 (e.s k24 9)) fun _ h1 =>
 some ⟨.nm, ⟨[(e.s k24 0), (e.s k24 1), (e.s k24 2), (e.s k24 6), (e.s k24 7), (e.s k24 8), (e.s k24 9)], 0, (e.s k24 0)⟩, h1⟩) fun e h =>
 sq (some ⟨.nm, ⟨[(e.s k24 0), (e.s k24 1), (e.s k24 2), (.int .i64 0), (e.s k24 7), (e.s k24 8), (e.s k24 9)], 6, (.int .i64 0)⟩, h⟩) fun e h =>
 some ⟨.rt, e, h⟩
noncomputable def f24 (K : Oracle) (L : Looper) (p0 p1 p2 : V) (h : H) : Option (Rv × H) := fin Try.prog k24 [.tmp 6] (s24 K L ⟨[p0, p1, p2, V.und, V.und, V.und, V.und], 0, p0⟩ h)
theorem r24 : (fun K L p0 p1 p2 h => runFF Try.prog kp K L 24 [p0, p1, p2] h) = f24 := by kernel_rfl
theorem c24 (p0 p1 p2 : V) (h : H) : callZ Try.prog kp 24 [p0, p1, p2] h = f24 (callZ Try.prog kp) loopZ p0 p1 p2 h :=
  (callZ_eqF _ _ _ _ _).trans (congrFun (congrFun (congrFun (congrFun (congrFun (congrFun (r24) _) _) p0) p1) p2) h)

/-- (*zoetrope/zoetroperef02.Decoder).Take -/
@[simp] def k25 : List Nat := [0, 1, 2, 6, 7, 9, 10]
noncomputable def l25_0 (K : Oracle) (L : Looper) (e : E) (h : H) : Out :=
 sq (sq (bd (nilC (e.s k25 0)) fun t52 =>
 bd (fa 3 t52) fun t53 =>
 bd (ld h t53) fun t54 =>
 bd (binK 0 .lss t54 (.int .u64 16777216)) fun t55 =>
 some ⟨.nm, ⟨[(e.s k25 0), (e.s k25 1), (e.s k25 2), (e.s k25 6), (e.s k25 7), (e.s k25 9), (e.s k25 10)], 55, t55⟩, h⟩) fun e h =>
 br (e.s k25 55) (some ⟨.nm, e, h⟩)
 (some ⟨.ex 0, e, h⟩)) fun e h =>
 blk 1 (sq (bn (K 34 [(e.s k25 0)] h) fun t63 h1 =>
 bd (nilC (e.s k25 0)) fun t58 =>
 bd (fa 2 t58) fun t59 =>
 bd (ld h1 t59) fun t60 =>
 bd (binK 0 .mul t60 (.int .u64 256)) fun t61 =>
 bd (binK 0 .add t61 t63) fun t64 =>
 bd (nilC (e.s k25 0)) fun t65 =>
 bd (fa 2 t65) fun t66 =>
 bf (stZ 1 h1 t66 t64) fun _ h2 =>
 ck (ld h t59) t60 (ck (ld h1 t59) t60 (some ⟨.nm, ⟨[(e.s k25 0), (e.s k25 1), (e.s k25 2), (e.s k25 6), (e.s k25 7), (e.s k25 9), (e.s k25 10)], 0, (e.s k25 0)⟩, h2⟩))) fun e h =>
 bd (nilC (e.s k25 0)) fun t69 =>
 bd (fa 3 t69) fun t70 =>
 bd (ld h t70) fun t71 =>
 bd (binK 0 .mul t71 (.int .u64 256)) fun t72 =>
 bd (nilC (e.s k25 0)) fun t73 =>
 bd (fa 3 t73) fun t74 =>
 bf (stZ 1 h t74 t72) fun _ h1 =>
 some ⟨.nm, ⟨[(e.s k25 0), (e.s k25 1), (e.s k25 2), (e.s k25 6), (e.s k25 7), (e.s k25 9), (e.s k25 10)], 0, (e.s k25 0)⟩, h1⟩)
noncomputable def s25 (K : Oracle) (L : Looper) (e : E) (h : H) : Out :=
 sq (some ⟨.nm, ⟨[(e.s k25 0), (e.s k25 1), (e.s k25 2), (.int .i64 0), (e.s k25 7), (e.s k25 9), (e.s k25 10)], 6, (.int .i64 0)⟩, h⟩) fun e h =>
 sq (bc k25 [12, 13, 11, 14, 15, 7, 8] e (K 22 [(e.s k25 0)] h) fun t13 h1 =>
 bd (exV t13 0) fun t14 =>
 bd (exV t13 1) fun t15 =>
 some ⟨.nm, ⟨[(e.s k25 0), (e.s k25 1), (e.s k25 2), (e.s k25 6), t14, (e.s k25 9), (e.s k25 10)], 8, t15⟩, h1⟩) fun e h =>
 sq (sq (bd (binK 0 .gtr (e.s k25 1) (e.s k25 7)) fun t18 =>
 bd (gl t18 false (some (e.s k25 7))) fun t20 =>
 bd (gl t18 false (some (e.s k25 2))) fun t21 =>
 bd (gl t18 false (binK 0 .geq t20 t21)) fun t22 =>
 bd (pk t18 (.bool true) t22) fun t23 =>
 bd (gl t23 false (some (e.s k25 2))) fun t25 =>
 bd (gl t23 false (binK 0 .gtr t25 (.int .u32 32768))) fun t26 =>
 bd (pk t23 (.bool true) t26) fun t27 =>
 some ⟨.nm, ⟨[(e.s k25 0), (e.s k25 1), (e.s k25 2), (e.s k25 6), (e.s k25 7), (e.s k25 9), (e.s k25 10)], 27, t27⟩, h⟩) fun e h =>
 br (e.s k25 27) (sq (some ⟨.nm, ⟨[(e.s k25 0), (e.s k25 1), (e.s k25 2), (.int .i64 2), (e.s k25 7), (e.s k25 9), (e.s k25 10)], 6, (.int .i64 2)⟩, h⟩) fun e h =>
 some ⟨.rt, e, h⟩)
 (some ⟨.nm, e, h⟩)) fun e h =>
 sq (bd (nilC (e.s k25 0)) fun t30 =>
 bd (fa 3 t30) fun t31 =>
 bd (ld h t31) fun t32 =>
 bc k25 [29, 30, 31, 32, 33, 34, 35, 28, 36, 37, 9, 10] e (K 30 [t32, (e.s k25 1), (e.s k25 2)] h) fun t35 h1 =>
 bd (exV t35 0) fun t36 =>
 bd (exV t35 1) fun t37 =>
 some ⟨.nm, ⟨[(e.s k25 0), (e.s k25 1), (e.s k25 2), (e.s k25 6), (e.s k25 7), t36, t37], 10, t37⟩, h1⟩) fun e h =>
 sq (bd (nilC (e.s k25 0)) fun t40 =>
 bd (fa 2 t40) fun t41 =>
 bd (ld h t41) fun t42 =>
 bd (binK 0 .sub t42 (e.s k25 9)) fun t44 =>
 bd (nilC (e.s k25 0)) fun t45 =>
 bd (fa 2 t45) fun t46 =>
 bf (stZ 1 h t46 t44) fun _ h1 =>
 some ⟨.nm, ⟨[(e.s k25 0), (e.s k25 1), (e.s k25 2), (e.s k25 6), (e.s k25 7), (e.s k25 9), (e.s k25 10)], 0, (e.s k25 0)⟩, h1⟩) fun e h =>
 sq (bd (nilC (e.s k25 0)) fun t49 =>
 bd (fa 3 t49) fun t50 =>
 bf (stZ 1 h t50 (e.s k25 10)) fun _ h1 =>
 some ⟨.nm, ⟨[(e.s k25 0), (e.s k25 1), (e.s k25 2), (e.s k25 6), (e.s k25 7), (e.s k25 9), (e.s k25 10)], 0, (e.s k25 0)⟩, h1⟩) fun e h =>
 sq (blk 0 (L (l25_0 K L) e h)) fun e h =>
 sq (some ⟨.nm, ⟨[(e.s k25 0), (e.s k25 1), (e.s k25 2), (.int .i64 0), (e.s k25 7), (e.s k25 9), (e.s k25 10)], 6, (.int .i64 0)⟩, h⟩) fun e h =>
 some ⟨.rt, e, h⟩
noncomputable def f25 (K : Oracle) (L : Looper) (p0 p1 p2 : V) (h : H) : Option (Rv × H) := fin Try.prog k25 [.tmp 6] (s25 K L ⟨[p0, p1, p2, V.und, V.und, V.und, V.und], 0, p0⟩ h)
theorem r25 : (fun K L p0 p1 p2 h => runFF Try.prog kp K L 25 [p0, p1, p2] h) = f25 := by kernel_rfl
theorem c25 (p0 p1 p2 : V) (h : H) : callZ Try.prog kp 25 [p0, p1, p2] h = f25 (callZ Try.prog kp) loopZ p0 p1 p2 h :=
  (callZ_eqF _ _ _ _ _).trans (congrFun (congrFun (congrFun (congrFun (congrFun (congrFun (r25) _) _) p0) p1) p2) h)

/-- zoetrope/zoetropelaw02.may -/
@[simp] def k26 : List Nat := [0, 1, 2, 3]
noncomputable def s26 (K : Oracle) (L : Looper) (e : E) (h : H) : Out :=
 sq (bf (bx h 31 (e.s k26 0)) fun t1 h1 =>
 bf (nw h1 31 [(.int .u32 0), (.int .u32 0)]) fun t2 h2 =>
 some ⟨.nm, ⟨[(e.s k26 0), t1, t2, (e.s k26 3)], 2, t2⟩, h2⟩) fun e h =>
 sq (bd (fa 0 (e.s k26 1)) fun t4 =>
 bd (ld h t4) fun t5 =>
 bd (binK 0 .rem t5 (.int .u32 32768)) fun t6 =>
 some ⟨.nm, ⟨[(e.s k26 0), (e.s k26 1), (e.s k26 2), t6], 3, t6⟩, h⟩) fun e h =>
 sq (bd (binK 0 .add (e.s k26 3) (.int .u32 1)) fun t9 =>
 bd (fa 1 (e.s k26 1)) fun t10 =>
 bd (ld h t10) fun t11 =>
 bd (binK 0 .sub (.int .u32 32768) (e.s k26 3)) fun t13 =>
 bd (binK 0 .rem t11 t13) fun t14 =>
 bd (binK 0 .add t9 t14) fun t15 =>
 bd (bl [(.int .u32 0), (.int .u32 0)] [(some (0, 1), (e.s k26 3)), (some (1, 1), t15)]) fun t16 =>
 bf (stZ 2 h (e.s k26 2) t16) fun _ h1 =>
 some ⟨.nm, ⟨[(e.s k26 0), (e.s k26 1), (e.s k26 2), (e.s k26 3)], 0, (e.s k26 0)⟩, h1⟩) fun e h =>
 some ⟨.rt, e, h⟩
noncomputable def f26 (K : Oracle) (L : Looper) (p0 : V) (h : H) : Option (Rv × H) := fin Try.prog k26 [.cell 2 31] (s26 K L ⟨[p0, V.und, V.und, V.und], 0, p0⟩ h)
theorem r26 : (fun K L p0 h => runFF Try.prog kp K L 26 [p0] h) = f26 := by kernel_rfl
theorem c26 (p0 : V) (h : H) : callZ Try.prog kp 26 [p0] h = f26 (callZ Try.prog kp) loopZ p0 h :=
  (callZ_eqF _ _ _ _ _).trans (congrFun (congrFun (congrFun (congrFun (r26) _) _) p0) h)

/-- zoetrope/zoetroperef00.Bring -/
@[simp] def k27 : List Nat := [0, 1, 4]
noncomputable def s27 (K : Oracle) (L : Looper) (e : E) (h : H) : Out :=
 sq (some ⟨.nm, ⟨[(e.s k27 0), (e.s k27 1), (.int .i64 0)], 4, (.int .i64 0)⟩, h⟩) fun e h =>
 sq (sq (bd (binK 0 .leq (e.s k27 1) (.int .i64 0)) fun t6 =>
 some ⟨.nm, ⟨[(e.s k27 0), (e.s k27 1), (e.s k27 4)], 6, t6⟩, h⟩) fun e h =>
 br (e.s k27 6) (sq (some ⟨.nm, ⟨[(e.s k27 0), (e.s k27 1), (.int .i64 0)], 4, (.int .i64 0)⟩, h⟩) fun e h =>
 some ⟨.rt, e, h⟩)
 (some ⟨.nm, e, h⟩)) fun e h =>
 sq (bd (binK 0 .rem (e.s k27 0) (e.s k27 1)) fun t9 =>
 some ⟨.nm, ⟨[t9, (e.s k27 1), (e.s k27 4)], 0, t9⟩, h⟩) fun e h =>
 sq (sq (bd (binK 0 .lss (e.s k27 0) (.int .i64 0)) fun t11 =>
 some ⟨.nm, ⟨[(e.s k27 0), (e.s k27 1), (e.s k27 4)], 11, t11⟩, h⟩) fun e h =>
 br (e.s k27 11) (bd (binK 0 .add (e.s k27 0) (e.s k27 1)) fun t14 =>
 some ⟨.nm, ⟨[t14, (e.s k27 1), (e.s k27 4)], 0, t14⟩, h⟩)
 (some ⟨.nm, e, h⟩)) fun e h =>
 sq (some ⟨.nm, ⟨[(e.s k27 0), (e.s k27 1), (e.s k27 0)], 4, (e.s k27 0)⟩, h⟩) fun e h =>
 some ⟨.rt, e, h⟩
noncomputable def f27 (K : Oracle) (L : Looper) (p0 p1 : V) (h : H) : Option (Rv × H) := fin Try.prog k27 [.tmp 4] (s27 K L ⟨[p0, p1, V.und], 0, p0⟩ h)
theorem r27 : (fun K L p0 p1 h => runFF Try.prog kp K L 27 [p0, p1] h) = f27 := by kernel_rfl
theorem c27 (p0 p1 : V) (h : H) : callZ Try.prog kp 27 [p0, p1] h = f27 (callZ Try.prog kp) loopZ p0 p1 h :=
  (callZ_eqF _ _ _ _ _).trans (congrFun (congrFun (congrFun (congrFun (congrFun (r27) _) _) p0) p1) h)

/-- zoetrope/rac.narrow -/
@[simp] def k28 : List Nat := [0, 1, 2, 6, 7, 8]
noncomputable def s28 (K : Oracle) (L : Looper) (e : E) (h : H) : Out :=
 sq (some ⟨.nm, ⟨[(e.s k28 0), (e.s k28 1), (e.s k28 2), (.int .u32 0), (.int .u32 0), (e.s k28 8)], 7, (.int .u32 0)⟩, h⟩) fun e h =>
 sq (bd (binK 0 .shr (e.s k28 0) (.int .u64 15)) fun t10 =>
 some ⟨.nm, ⟨[(e.s k28 0), (e.s k28 1), (e.s k28 2), (e.s k28 6), (e.s k28 7), t10], 8, t10⟩, h⟩) fun e h =>
 sq (bd (binK 0 .mul (e.s k28 8) (e.s k28 1)) fun t13 =>
 some ⟨.nm, ⟨[(e.s k28 0), (e.s k28 1), (e.s k28 2), t13, (e.s k28 7), (e.s k28 8)], 6, t13⟩, h⟩) fun e h =>
 sq (sq (bd (binK 0 .eql (e.s k28 2) (.int .u32 32768)) fun t15 =>
 some ⟨.nm, ⟨[(e.s k28 0), (e.s k28 1), (e.s k28 2), (e.s k28 6), (e.s k28 7), (e.s k28 8)], 15, t15⟩, h⟩) fun e h =>
 br (e.s k28 15) (sq (bd (binK 0 .sub (e.s k28 0) (e.s k28 6)) fun t19 =>
 some ⟨.nm, ⟨[(e.s k28 0), (e.s k28 1), (e.s k28 2), (e.s k28 6), t19, (e.s k28 8)], 7, t19⟩, h⟩) fun e h =>
 some ⟨.rt, e, h⟩)
 (some ⟨.nm, e, h⟩)) fun e h =>
 sq (bd (binK 0 .sub (e.s k28 2) (e.s k28 1)) fun t24 =>
 bd (binK 0 .mul (e.s k28 8) t24) fun t25 =>
 some ⟨.nm, ⟨[(e.s k28 0), (e.s k28 1), (e.s k28 2), (e.s k28 6), t25, (e.s k28 8)], 7, t25⟩, h⟩) fun e h =>
 some ⟨.rt, e, h⟩
noncomputable def f28 (K : Oracle) (L : Looper) (p0 p1 p2 : V) (h : H) : Option (Rv × H) := fin Try.prog k28 [.tmp 6, .tmp 7] (s28 K L ⟨[p0, p1, p2, V.und, V.und, V.und], 0, p0⟩ h)
theorem r28 : (fun K L p0 p1 p2 h => runFF Try.prog kp K L 28 [p0, p1, p2] h) = f28 := by kernel_rfl
theorem c28 (p0 p1 p2 : V) (h : H) : callZ Try.prog kp 28 [p0, p1, p2] h = f28 (callZ Try.prog kp) loopZ p0 p1 p2 h :=
  (callZ_eqF _ _ _ _ _).trans (congrFun (congrFun (congrFun (congrFun (congrFun (congrFun (r28) _) _) p0) p1) p2) h)

/-- (*zoetrope/rac.Encoder).shift -/
@[simp] def k29 : List Nat := [0]
noncomputable def s29 (K : Oracle) (L : Looper) (e : E) (h : H) : Out :=
 sq (sq (bd (nilC (e.s k29 0)) fun t3 =>
 bd (fa 1 t3) fun t4 =>
 bd (ld h t4) fun t5 =>
 bd (binK 0 .gtr t5 (.int .u64 4294967295)) fun t6 =>
 some ⟨.nm, ⟨[(e.s k29 0)], 6, t6⟩, h⟩) fun e h =>
 br (e.s k29 6) (bc k29 [7, 8] e (K 36 [(e.s k29 0)] h) fun t8 h1 =>
 some ⟨.nm, ⟨[(e.s k29 0)], 8, t8⟩, h1⟩)
 (some ⟨.nm, e, h⟩)) fun e h =>
 sq (bd (nilC (e.s k29 0)) fun t11 =>
 bd (fa 0 t11) fun t12 =>
 bd (ld h t12) fun t13 =>
 bd (nilC (e.s k29 0)) fun t15 =>
 bd (fa 1 t15) fun t16 =>
 bd (ld h t16) fun t17 =>
 bd (binK 0 .shr t17 (.int .u64 24)) fun t18 =>
 bd (cv .u8 t18) fun t19 =>
 bf (bs h 5 1 [(.int .u8 0)] [(some (0, 1), t19)]) fun t20 h1 =>
 bf (apZ 5 1 1 h1 t13 t20) fun t21 h2 =>
 bd (nilC (e.s k29 0)) fun t22 =>
 bd (fa 0 t22) fun t23 =>
 bf (stZ 1 h2 t23 t21) fun _ h3 =>
 ck (ld h t12) t13 (ck (ld h t16) t17 (some ⟨.nm, ⟨[(e.s k29 0)], 0, (e.s k29 0)⟩, h3⟩))) fun e h =>
 bd (nilC (e.s k29 0)) fun t26 =>
 bd (fa 1 t26) fun t27 =>
 bd (ld h t27) fun t28 =>
 bd (binK 0 .and t28 (.int .u64 16777215)) fun t29 =>
 bd (binK 0 .shl t29 (.int .u64 8)) fun t30 =>
 bd (nilC (e.s k29 0)) fun t31 =>
 bd (fa 1 t31) fun t32 =>
 bf (stZ 1 h t32 t30) fun _ h1 =>
 some ⟨.nm, ⟨[(e.s k29 0)], 0, (e.s k29 0)⟩, h1⟩
noncomputable def f29 (K : Oracle) (L : Looper) (p0 : V) (h : H) : Option (Rv × H) := fin Try.prog k29 [] (s29 K L ⟨[p0], 0, p0⟩ h)
theorem r29 : (fun K L p0 h => runFF Try.prog kp K L 29 [p0] h) = f29 := by kernel_rfl
theorem c29 (p0 : V) (h : H) : callZ Try.prog kp 29 [p0] h = f29 (callZ Try.prog kp) loopZ p0 h :=
  (callZ_eqF _ _ _ _ _).trans (congrFun (congrFun (congrFun (congrFun (r29) _) _) p0) h)

/-- zoetrope/zoetroperef02.part -/
@[simp] def k30 : List Nat := [0, 1, 2, 6, 7, 8]
noncomputable def s30 (K : Oracle) (L : Looper) (e : E) (h : H) : Out :=
 sq (some ⟨.nm, ⟨[(e.s k30 0), (e.s k30 1), (e.s k30 2), (.int .u64 0), (.int .u64 0), (e.s k30 8)], 7, (.int .u64 0)⟩, h⟩) fun e h =>
 sq (bd (binK 0 .quo (e.s k30 0) (.int .u64 32768)) fun t10 =>
 some ⟨.nm, ⟨[(e.s k30 0), (e.s k30 1), (e.s k30 2), (e.s k30 6), (e.s k30 7), t10], 8, t10⟩, h⟩) fun e h =>
 sq (sq (bd (binK 0 .eql (e.s k30 2) (.int .u32 32768)) fun t12 =>
 some ⟨.nm, ⟨[(e.s k30 0), (e.s k30 1), (e.s k30 2), (e.s k30 6), (e.s k30 7), (e.s k30 8)], 12, t12⟩, h⟩) fun e h =>
 br (e.s k30 12) (sq (bd (cv .u64 (e.s k30 1)) fun t15 =>
 bd (binK 0 .mul (e.s k30 8) t15) fun t16 =>
 bd (cv .u64 (e.s k30 1)) fun t20 =>
 bd (binK 0 .mul (e.s k30 8) t20) fun t21 =>
 bd (binK 0 .sub (e.s k30 0) t21) fun t22 =>
 some ⟨.nm, ⟨[(e.s k30 0), (e.s k30 1), (e.s k30 2), t16, t22, (e.s k30 8)], 7, t22⟩, h⟩) fun e h =>
 some ⟨.rt, e, h⟩)
 (some ⟨.nm, e, h⟩)) fun e h =>
 sq (bd (cv .u64 (e.s k30 1)) fun t25 =>
 bd (binK 0 .mul (e.s k30 8) t25) fun t26 =>
 bd (binK 0 .sub (e.s k30 2) (e.s k30 1)) fun t30 =>
 bd (cv .u64 t30) fun t31 =>
 bd (binK 0 .mul (e.s k30 8) t31) fun t32 =>
 some ⟨.nm, ⟨[(e.s k30 0), (e.s k30 1), (e.s k30 2), t26, t32, (e.s k30 8)], 7, t32⟩, h⟩) fun e h =>
 some ⟨.rt, e, h⟩
noncomputable def f30 (K : Oracle) (L : Looper) (p0 p1 p2 : V) (h : H) : Option (Rv × H) := fin Try.prog k30 [.tmp 6, .tmp 7] (s30 K L ⟨[p0, p1, p2, V.und, V.und, V.und], 0, p0⟩ h)
theorem r30 : (fun K L p0 p1 p2 h => runFF Try.prog kp K L 30 [p0, p1, p2] h) = f30 := by kernel_rfl
theorem c30 (p0 p1 p2 : V) (h : H) : callZ Try.prog kp 30 [p0, p1, p2] h = f30 (callZ Try.prog kp) loopZ p0 p1 p2 h :=
  (callZ_eqF _ _ _ _ _).trans (congrFun (congrFun (congrFun (congrFun (congrFun (congrFun (r30) _) _) p0) p1) p2) h)

/-- (*zoetrope/zoetroperef02.Encoder).goes -/
@[simp] def k31 : List Nat := [0, 2]
noncomputable def l31_0 (K : Oracle) (L : Looper) (e : E) (h : H) : Out :=
 sq (sq (bd (binK 0 .geq (e.s k31 2) (.int .i64 0)) fun t15 =>
 bd (gl t15 true (some (e.s k31 0))) fun t17 =>
 bd (gl t15 true (nilC t17)) fun t18 =>
 bd (gl t15 true (fa 0 t18)) fun t19 =>
 bd (gl t15 true (ld h t19)) fun t20 =>
 bd (gl t15 true (some (e.s k31 2))) fun t21 =>
 bd (gl t15 true (iaS 1 t20 t21)) fun t22 =>
 bd (gl t15 true (ld h t22)) fun t23 =>
 bd (gl t15 true (binK 0 .eql t23 (.int .u8 255))) fun t24 =>
 bd (pk t15 t24 (.bool false)) fun t25 =>
 some ⟨.nm, ⟨[(e.s k31 0), (e.s k31 2)], 25, t25⟩, h⟩) fun e h =>
 br (e.s k31 25) (some ⟨.nm, e, h⟩)
 (some ⟨.ex 0, e, h⟩)) fun e h =>
 blk 1 (sq (bd (nilC (e.s k31 0)) fun t27 =>
 bd (fa 0 t27) fun t28 =>
 bd (ld h t28) fun t29 =>
 bd (iaS 1 t29 (e.s k31 2)) fun t31 =>
 bf (stZ 1 h t31 (.int .u8 0)) fun _ h1 =>
 some ⟨.nm, ⟨[(e.s k31 0), (e.s k31 2)], 0, (e.s k31 0)⟩, h1⟩) fun e h =>
 bd (binK 0 .sub (e.s k31 2) (.int .i64 1)) fun t33 =>
 some ⟨.nm, ⟨[(e.s k31 0), t33], 2, t33⟩, h⟩)
noncomputable def s31 (K : Oracle) (L : Looper) (e : E) (h : H) : Out :=
 sq (sq (bd (nilC (e.s k31 0)) fun t4 =>
 bd (fa 1 t4) fun t5 =>
 bd (ld h t5) fun t6 =>
 bd (binK 0 .geq t6 (.int .u64 4294967296)) fun t7 =>
 some ⟨.nm, ⟨[(e.s k31 0), (e.s k31 2)], 7, t7⟩, h⟩) fun e h =>
 br (e.s k31 7) (sq (bd (nilC (e.s k31 0)) fun t9 =>
 bd (fa 0 t9) fun t10 =>
 bd (ld h t10) fun t11 =>
 bd (lnS t11) fun t12 =>
 bd (binK 0 .sub t12 (.int .i64 1)) fun t13 =>
 some ⟨.nm, ⟨[(e.s k31 0), t13], 2, t13⟩, h⟩) fun e h =>
 sq (blk 0 (L (l31_0 K L) e h)) fun e h =>
 sq (sq (bd (binK 0 .geq (e.s k31 2) (.int .i64 0)) fun t35 =>
 some ⟨.nm, ⟨[(e.s k31 0), (e.s k31 2)], 35, t35⟩, h⟩) fun e h =>
 br (e.s k31 35) (bd (nilC (e.s k31 0)) fun t37 =>
 bd (fa 0 t37) fun t38 =>
 bd (ld h t38) fun t39 =>
 bd (iaS 1 t39 (e.s k31 2)) fun t41 =>
 bd (ld h t41) fun t42 =>
 bd (binK 0 .add t42 (.int .u8 1)) fun t43 =>
 bd (iaS 1 t39 (e.s k31 2)) fun t44 =>
 bf (stZ 1 h t44 t43) fun _ h1 =>
 some ⟨.nm, ⟨[(e.s k31 0), (e.s k31 2)], 0, (e.s k31 0)⟩, h1⟩)
 (some ⟨.nm, e, h⟩)) fun e h =>
 bd (nilC (e.s k31 0)) fun t47 =>
 bd (fa 1 t47) fun t48 =>
 bd (ld h t48) fun t49 =>
 bd (binK 0 .sub t49 (.int .u64 4294967296)) fun t50 =>
 bd (nilC (e.s k31 0)) fun t51 =>
 bd (fa 1 t51) fun t52 =>
 bf (stZ 1 h t52 t50) fun _ h1 =>
 some ⟨.nm, ⟨[(e.s k31 0), (e.s k31 2)], 0, (e.s k31 0)⟩, h1⟩)
 (some ⟨.nm, e, h⟩)) fun e h =>
 sq (bd (nilC (e.s k31 0)) fun t55 =>
 bd (fa 0 t55) fun t56 =>
 bd (ld h t56) fun t57 =>
 bd (nilC (e.s k31 0)) fun t59 =>
 bd (fa 1 t59) fun t60 =>
 bd (ld h t60) fun t61 =>
 bd (binK 0 .quo t61 (.int .u64 16777216)) fun t62 =>
 bd (cv .u8 t62) fun t63 =>
 bf (bs h 5 1 [(.int .u8 0)] [(some (0, 1), t63)]) fun t64 h1 =>
 bf (apZ 5 1 1 h1 t57 t64) fun t65 h2 =>
 bd (nilC (e.s k31 0)) fun t66 =>
 bd (fa 0 t66) fun t67 =>
 bf (stZ 1 h2 t67 t65) fun _ h3 =>
 ck (ld h t56) t57 (ck (ld h t60) t61 (some ⟨.nm, ⟨[(e.s k31 0), (e.s k31 2)], 0, (e.s k31 0)⟩, h3⟩))) fun e h =>
 bd (nilC (e.s k31 0)) fun t70 =>
 bd (fa 1 t70) fun t71 =>
 bd (ld h t71) fun t72 =>
 bd (binK 0 .rem t72 (.int .u64 16777216)) fun t73 =>
 bd (binK 0 .mul t73 (.int .u64 256)) fun t74 =>
 bd (nilC (e.s k31 0)) fun t75 =>
 bd (fa 1 t75) fun t76 =>
 bf (stZ 1 h t76 t74) fun _ h1 =>
 some ⟨.nm, ⟨[(e.s k31 0), (e.s k31 2)], 0, (e.s k31 0)⟩, h1⟩
noncomputable def f31 (K : Oracle) (L : Looper) (p0 : V) (h : H) : Option (Rv × H) := fin Try.prog k31 [] (s31 K L ⟨[p0, V.und], 0, p0⟩ h)
theorem r31 : (fun K L p0 h => runFF Try.prog kp K L 31 [p0] h) = f31 := by kernel_rfl
theorem c31 (p0 : V) (h : H) : callZ Try.prog kp 31 [p0] h = f31 (callZ Try.prog kp) loopZ p0 h :=
  (callZ_eqF _ _ _ _ _).trans (congrFun (congrFun (congrFun (congrFun (r31) _) _) p0) h)

/-- slices.Clone[[]byte,byte] -/
@[simp] def k32 : List Nat := [0, 2]
noncomputable def s32 (K : Oracle) (L : Looper) (e : E) (h : H) : Out :=
 sq (some ⟨.nm, ⟨[(e.s k32 0), .nils], 2, .nils⟩, h⟩) fun e h =>
 sq (sq (bd (binK 3 .eql (e.s k32 0) .nils) fun t4 =>
 some ⟨.nm, ⟨[(e.s k32 0), (e.s k32 2)], 4, t4⟩, h⟩) fun e h =>
 br (e.s k32 4) (sq (some ⟨.nm, ⟨[(e.s k32 0), .nils], 2, .nils⟩, h⟩) fun e h =>
 some ⟨.rt, e, h⟩)
 (some ⟨.nm, e, h⟩)) fun e h =>
 sq (bf (bs h 5 0 [] []) fun t5 h1 =>
 bf (apZ 5 1 1 h1 t5 (e.s k32 0)) fun t7 h2 =>
 some ⟨.nm, ⟨[(e.s k32 0), t7], 2, t7⟩, h2⟩) fun e h =>
 some ⟨.rt, e, h⟩
noncomputable def f32 (K : Oracle) (L : Looper) (p0 : V) (h : H) : Option (Rv × H) := fin Try.prog k32 [.tmp 2] (s32 K L ⟨[p0, V.und], 0, p0⟩ h)
theorem r32 : (fun K L p0 h => runFF Try.prog kp K L 32 [p0] h) = f32 := by kernel_rfl
theorem c32 (p0 : V) (h : H) : callZ Try.prog kp 32 [p0] h = f32 (callZ Try.prog kp) loopZ p0 h :=
  (callZ_eqF _ _ _ _ _).trans (congrFun (congrFun (congrFun (congrFun (r32) _) _) p0) h)

/-- (*zoetrope/rac.Decoder).shift -/
@[simp] def k33 : List Nat := [0]
noncomputable def s33 (K : Oracle) (L : Looper) (e : E) (h : H) : Out :=
 sq (bd (nilC (e.s k33 0)) fun t3 =>
 bd (fa 1 t3) fun t4 =>
 bd (ld h t4) fun t5 =>
 bd (binK 0 .shl t5 (.int .u64 8)) fun t6 =>
 bd (nilC (e.s k33 0)) fun t7 =>
 bd (fa 1 t7) fun t8 =>
 bf (stZ 1 h t8 t6) fun _ h1 =>
 some ⟨.nm, ⟨[(e.s k33 0)], 0, (e.s k33 0)⟩, h1⟩) fun e h =>
 sq (bd (nilC (e.s k33 0)) fun t10 =>
 bd (fa 0 t10) fun t11 =>
 bd (ld h t11) fun t12 =>
 bd (lnS t12) fun t13 =>
 bd (binK 0 .gtr t13 (.int .i64 0)) fun t14 =>
 some ⟨.nm, ⟨[(e.s k33 0)], 14, t14⟩, h⟩) fun e h =>
 br (e.s k33 14) (sq (bd (nilC (e.s k33 0)) fun t16 =>
 bd (fa 1 t16) fun t17 =>
 bd (ld h t17) fun t18 =>
 bd (nilC (e.s k33 0)) fun t20 =>
 bd (fa 0 t20) fun t21 =>
 bd (ld h t21) fun t22 =>
 bd (iaS 1 t22 (.int .i64 0)) fun t23 =>
 bd (ld h t23) fun t24 =>
 bd (cv .u32 t24) fun t25 =>
 bd (binK 0 .or t18 t25) fun t26 =>
 bd (nilC (e.s k33 0)) fun t27 =>
 bd (fa 1 t27) fun t28 =>
 bf (stZ 1 h t28 t26) fun _ h1 =>
 ck (ld h t17) t18 (ck (ld h t21) t22 (ck (ld h t23) t24 (some ⟨.nm, ⟨[(e.s k33 0)], 0, (e.s k33 0)⟩, h1⟩)))) fun e h =>
 bd (nilC (e.s k33 0)) fun t31 =>
 bd (fa 0 t31) fun t32 =>
 bd (ld h t32) fun t33 =>
 bd (slS 1 t33 (some (.int .i64 1)) none none) fun t34 =>
 bd (nilC (e.s k33 0)) fun t35 =>
 bd (fa 0 t35) fun t36 =>
 bf (stZ 1 h t36 t34) fun _ h1 =>
 some ⟨.nm, ⟨[(e.s k33 0)], 0, (e.s k33 0)⟩, h1⟩)
 (some ⟨.nm, e, h⟩)
noncomputable def f33 (K : Oracle) (L : Looper) (p0 : V) (h : H) : Option (Rv × H) := fin Try.prog k33 [] (s33 K L ⟨[p0], 0, p0⟩ h)
theorem r33 : (fun K L p0 h => runFF Try.prog kp K L 33 [p0] h) = f33 := by kernel_rfl
theorem c33 (p0 : V) (h : H) : callZ Try.prog kp 33 [p0] h = f33 (callZ Try.prog kp) loopZ p0 h :=
  (callZ_eqF _ _ _ _ _).trans (congrFun (congrFun (congrFun (congrFun (r33) _) _) p0) h)

/-- (*zoetrope/zoetroperef02.Decoder).next -/
@[simp] def k34 : List Nat := [0, 2, 3]
noncomputable def s34 (K : Oracle) (L : Looper) (e : E) (h : H) : Out :=
 sq (some ⟨.nm, ⟨[(e.s k34 0), (.int .u64 0), (e.s k34 3)], 2, (.int .u64 0)⟩, h⟩) fun e h =>
 sq (bd (nilC (e.s k34 0)) fun t5 =>
 bd (fa 1 t5) fun t6 =>
 bd (ld h t6) fun t7 =>
 some ⟨.nm, ⟨[(e.s k34 0), (e.s k34 2), t7], 3, t7⟩, h⟩) fun e h =>
 sq (bd (nilC (e.s k34 0)) fun t9 =>
 bd (fa 1 t9) fun t10 =>
 bd (ld h t10) fun t11 =>
 bd (binK 0 .add t11 (.int .i64 1)) fun t12 =>
 bd (nilC (e.s k34 0)) fun t13 =>
 bd (fa 1 t13) fun t14 =>
 bf (stZ 1 h t14 t12) fun _ h1 =>
 some ⟨.nm, ⟨[(e.s k34 0), (e.s k34 2), (e.s k34 3)], 0, (e.s k34 0)⟩, h1⟩) fun e h =>
 sq (sq (bd (nilC (e.s k34 0)) fun t17 =>
 bd (fa 0 t17) fun t18 =>
 bd (ld h t18) fun t19 =>
 bd (lnS t19) fun t20 =>
 bd (binK 0 .lss (e.s k34 3) t20) fun t21 =>
 some ⟨.nm, ⟨[(e.s k34 0), (e.s k34 2), (e.s k34 3)], 21, t21⟩, h⟩) fun e h =>
 br (e.s k34 21) (sq (bd (nilC (e.s k34 0)) fun t23 =>
 bd (fa 0 t23) fun t24 =>
 bd (ld h t24) fun t25 =>
 bd (iaS 1 t25 (e.s k34 3)) fun t27 =>
 bd (ld h t27) fun t28 =>
 bd (cv .u64 t28) fun t29 =>
 some ⟨.nm, ⟨[(e.s k34 0), t29, (e.s k34 3)], 2, t29⟩, h⟩) fun e h =>
 some ⟨.rt, e, h⟩)
 (some ⟨.nm, e, h⟩)) fun e h =>
 sq (some ⟨.nm, ⟨[(e.s k34 0), (.int .u64 0), (e.s k34 3)], 2, (.int .u64 0)⟩, h⟩) fun e h =>
 some ⟨.rt, e, h⟩
noncomputable def f34 (K : Oracle) (L : Looper) (p0 : V) (h : H) : Option (Rv × H) := fin Try.prog k34 [.tmp 2] (s34 K L ⟨[p0, V.und, V.und], 0, p0⟩ h)
theorem r34 : (fun K L p0 h => runFF Try.prog kp K L 34 [p0] h) = f34 := by kernel_rfl
theorem c34 (p0 : V) (h : H) : callZ Try.prog kp 34 [p0] h = f34 (callZ Try.prog kp) loopZ p0 h :=
  (callZ_eqF _ _ _ _ _).trans (congrFun (congrFun (congrFun (congrFun (r34) _) _) p0) h)

/-- (*zoetrope/rac.Decoder).value -/
@[simp] def k35 : List Nat := [0, 2]
noncomputable def s35 (K : Oracle) (L : Looper) (e : E) (h : H) : Out :=
 sq (some ⟨.nm, ⟨[(e.s k35 0), (.int .u32 0)], 2, (.int .u32 0)⟩, h⟩) fun e h =>
 sq (bd (nilC (e.s k35 0)) fun t4 =>
 bd (fa 1 t4) fun t5 =>
 bd (ld h t5) fun t6 =>
 bd (nilC (e.s k35 0)) fun t8 =>
 bd (fa 2 t8) fun t9 =>
 bd (ld h t9) fun t10 =>
 bd (binK 0 .shr t10 (.int .u64 15)) fun t11 =>
 bd (binK 0 .quo t6 t11) fun t12 =>
 bd (minV [t12, (.int .u32 32767)]) fun t13 =>
 ck (ld h t5) t6 (ck (ld h t9) t10 (some ⟨.nm, ⟨[(e.s k35 0), t13], 2, t13⟩, h⟩))) fun e h =>
 some ⟨.rt, e, h⟩
noncomputable def f35 (K : Oracle) (L : Looper) (p0 : V) (h : H) : Option (Rv × H) := fin Try.prog k35 [.tmp 2] (s35 K L ⟨[p0, V.und], 0, p0⟩ h)
theorem r35 : (fun K L p0 h => runFF Try.prog kp K L 35 [p0] h) = f35 := by kernel_rfl
theorem c35 (p0 : V) (h : H) : callZ Try.prog kp 35 [p0] h = f35 (callZ Try.prog kp) loopZ p0 h :=
  (callZ_eqF _ _ _ _ _).trans (congrFun (congrFun (congrFun (congrFun (r35) _) _) p0) h)

/-- (*zoetrope/rac.Encoder).carry -/
@[simp] def k36 : List Nat := [0, 2, 28]
noncomputable def l36_0 (K : Oracle) (L : Looper) (e : E) (h : H) : Out :=
 sq (sq (bd (binK 0 .geq (e.s k36 2) (.int .i64 0)) fun t10 =>
 some ⟨.nm, ⟨[(e.s k36 0), (e.s k36 2), (e.s k36 28)], 10, t10⟩, h⟩) fun e h =>
 br (e.s k36 10) (some ⟨.nm, e, h⟩)
 (some ⟨.ex 0, e, h⟩)) fun e h =>
 sq (blk 1 (sq (bd (nilC (e.s k36 0)) fun t14 =>
 bd (fa 0 t14) fun t15 =>
 bd (ld h t15) fun t16 =>
 bd (iaS 1 t16 (e.s k36 2)) fun t18 =>
 bd (ld h t18) fun t19 =>
 bd (binK 0 .add t19 (.int .u8 1)) fun t20 =>
 bd (iaS 1 t16 (e.s k36 2)) fun t21 =>
 bf (stZ 1 h t21 t20) fun _ h1 =>
 some ⟨.nm, ⟨[(e.s k36 0), (e.s k36 2), (e.s k36 28)], 0, (e.s k36 0)⟩, h1⟩) fun e h =>
 sq (bd (nilC (e.s k36 0)) fun t23 =>
 bd (fa 0 t23) fun t24 =>
 bd (ld h t24) fun t25 =>
 bd (iaS 1 t25 (e.s k36 2)) fun t27 =>
 bd (ld h t27) fun t28 =>
 some ⟨.nm, ⟨[(e.s k36 0), (e.s k36 2), t28], 28, t28⟩, h⟩) fun e h =>
 blk 2 (sq (bd (binK 0 .eql (e.s k36 28) (.int .u8 0)) fun t30 =>
 some ⟨.nm, ⟨[(e.s k36 0), (e.s k36 2), (e.s k36 28)], 29, t30⟩, h⟩) fun e h =>
 br (e.s k36 29) (some ⟨.nm, e, h⟩)
 (some ⟨.ex 0, e, h⟩)))) fun e h =>
 bd (binK 0 .sub (e.s k36 2) (.int .i64 1)) fun t12 =>
 some ⟨.nm, ⟨[(e.s k36 0), t12, (e.s k36 28)], 2, t12⟩, h⟩
noncomputable def s36 (K : Oracle) (L : Looper) (e : E) (h : H) : Out :=
 sq (some ⟨.nm, e, h⟩) fun e h =>
 sq (sq (bd (nilC (e.s k36 0)) fun t4 =>
 bd (fa 0 t4) fun t5 =>
 bd (ld h t5) fun t6 =>
 bd (lnS t6) fun t7 =>
 bd (binK 0 .sub t7 (.int .i64 1)) fun t8 =>
 some ⟨.nm, ⟨[(e.s k36 0), t8, (e.s k36 28)], 2, t8⟩, h⟩) fun e h =>
 blk 0 (L (l36_0 K L) e h)) fun e h =>
 bd (nilC (e.s k36 0)) fun t32 =>
 bd (fa 1 t32) fun t33 =>
 bd (ld h t33) fun t34 =>
 bd (binK 0 .and t34 (.int .u64 4294967295)) fun t35 =>
 bd (nilC (e.s k36 0)) fun t36 =>
 bd (fa 1 t36) fun t37 =>
 bf (stZ 1 h t37 t35) fun _ h1 =>
 some ⟨.nm, ⟨[(e.s k36 0), (e.s k36 2), (e.s k36 28)], 0, (e.s k36 0)⟩, h1⟩
noncomputable def f36 (K : Oracle) (L : Looper) (p0 : V) (h : H) : Option (Rv × H) := fin Try.prog k36 [] (s36 K L ⟨[p0, V.und, V.und], 0, p0⟩ h)
theorem r36 : (fun K L p0 h => runFF Try.prog kp K L 36 [p0] h) = f36 := by kernel_rfl
theorem c36 (p0 : V) (h : H) : callZ Try.prog kp 36 [p0] h = f36 (callZ Try.prog kp) loopZ p0 h :=
  (callZ_eqF _ _ _ _ _).trans (congrFun (congrFun (congrFun (congrFun (r36) _) _) p0) h)


end Go.Proofs.Ytpikblkbeoophaa
