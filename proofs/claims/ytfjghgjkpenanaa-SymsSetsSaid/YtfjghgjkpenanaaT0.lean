/- The functions of the cut, printed by a program of ours: each is shown to be the interpreter's run. -/
import Derived.Test.YtfjghgjkpenanaaKp
set_option linter.unusedVariables false
set_option linter.unusedSimpArgs false
namespace Go.Proofs.Ytfjghgjkpenanaa
open Go Go.Zf
/-- gosem.cut.init -/
@[simp] def k2 : List Nat := []
noncomputable def s2 (K : Oracle) (L : Looper) (e : E) (h : H) : Out :=
 bc k2 [0] e (K 1 [] h) fun t0 h1 =>
 some ⟨.nm, ⟨[], 0, t0⟩, h1⟩
noncomputable def f2 (K : Oracle) (L : Looper) (h : H) : Option (Rv × H) := fin Try.prog k2 [] (s2 K L ⟨[], 0, V.und⟩ h)
theorem r2 : (fun K L h => runFF Try.prog kp K L 2 [] h) = f2 := by kernel_rfl
theorem c2 (h : H) : callZ Try.prog kp 2 [] h = f2 (callZ Try.prog kp) loopZ h :=
  (callZ_eqF _ _ _ _ _).trans (congrFun (congrFun (congrFun (r2) _) _) h)

/-- zoetrope/zoetropelaw04.SymsWrites -/
@[simp] def k3 : List Nat := [0, 1, 2, 6, 7, 8, 9, 10, 11, 12, 13, 15, 16, 17, 18, 19]
noncomputable def l3_0 (K : Oracle) (L : Looper) (e : E) (h : H) : Out :=
 sq (sq (bd (lnS (e.s k3 1)) fun t65 =>
 bd (binK 0 .lss (e.s k3 15) t65) fun t66 =>
 bd (gl t66 true (some (e.s k3 15))) fun t68 =>
 bd (gl t66 true (binK 0 .lss t68 (.int .i64 300))) fun t69 =>
 bd (pk t66 t69 (.bool false)) fun t70 =>
 some ⟨.nm, ⟨[(e.s k3 0), (e.s k3 1), (e.s k3 2), (e.s k3 6), (e.s k3 7), (e.s k3 8), (e.s k3 9), (e.s k3 10), (e.s k3 11), (e.s k3 12), (e.s k3 13), (e.s k3 15), (e.s k3 16), (e.s k3 17), (e.s k3 18), (e.s k3 19)], 70, t70⟩, h⟩) fun e h =>
 br (e.s k3 70) (some ⟨.nm, e, h⟩)
 (some ⟨.ex 0, e, h⟩)) fun e h =>
 sq (blk 1 (sq (bd (iaS 5 (e.s k3 1) (e.s k3 15)) fun t77 =>
 bd (ldn 5 h t77) fun t78 =>
 bc k3 [73, 74, 75, 76, 77, 78, 79, 80] e (K 18 [(e.s k3 9), (e.s k3 11), t78] h) fun t79 h1 =>
 bd (unV .not t79) fun t80 =>
 some ⟨.nm, ⟨[(e.s k3 0), (e.s k3 1), (e.s k3 2), (e.s k3 6), (e.s k3 7), (e.s k3 8), (e.s k3 9), (e.s k3 10), (e.s k3 11), (e.s k3 12), (e.s k3 13), (e.s k3 15), (e.s k3 16), (e.s k3 17), (e.s k3 18), (e.s k3 19)], 80, t80⟩, h1⟩) fun e h =>
 br (e.s k3 80) (sq (some ⟨.nm, ⟨[(e.s k3 0), (e.s k3 1), (e.s k3 2), (.bool false), (e.s k3 7), (e.s k3 8), (e.s k3 9), (e.s k3 10), (e.s k3 11), (e.s k3 12), (e.s k3 13), (e.s k3 15), (e.s k3 16), (e.s k3 17), (e.s k3 18), (e.s k3 19)], 6, (.bool false)⟩, h⟩) fun e h =>
 some ⟨.rt, e, h⟩)
 (some ⟨.nm, e, h⟩))) fun e h =>
 bd (binK 0 .add (e.s k3 15) (.int .i64 1)) fun t72 =>
 some ⟨.nm, ⟨[(e.s k3 0), (e.s k3 1), (e.s k3 2), (e.s k3 6), (e.s k3 7), (e.s k3 8), (e.s k3 9), (e.s k3 10), (e.s k3 11), (e.s k3 12), (e.s k3 13), t72, (e.s k3 16), (e.s k3 17), (e.s k3 18), (e.s k3 19)], 15, t72⟩, h⟩
noncomputable def s3 (K : Oracle) (L : Looper) (e : E) (h : H) : Out :=
 sq (some ⟨.nm, ⟨[(e.s k3 0), (e.s k3 1), (e.s k3 2), (.bool false), (e.s k3 7), (e.s k3 8), (e.s k3 9), (e.s k3 10), (e.s k3 11), (e.s k3 12), (e.s k3 13), (e.s k3 15), (e.s k3 16), (e.s k3 17), (e.s k3 18), (e.s k3 19)], 6, (.bool false)⟩, h⟩) fun e h =>
 sq (bc k3 [20, 21, 7] e (K 10 [(e.s k3 0)] h) fun t21 h1 =>
 bf (nw h1 25 [.nils]) fun t7 h2 =>
 bf (stZ 1 h2 t7 t21) fun _ h3 =>
 some ⟨.nm, ⟨[(e.s k3 0), (e.s k3 1), (e.s k3 2), (e.s k3 6), t7, (e.s k3 8), (e.s k3 9), (e.s k3 10), (e.s k3 11), (e.s k3 12), (e.s k3 13), (e.s k3 15), (e.s k3 16), (e.s k3 17), (e.s k3 18), (e.s k3 19)], 0, (e.s k3 0)⟩, h3⟩) fun e h =>
 sq (bd (ldn 1 h (e.s k3 7)) fun t22 =>
 bc k3 [22, 23, 8] e (K 11 [t22] h) fun t23 h1 =>
 bf (nw h1 25 [.nils]) fun t8 h2 =>
 bf (stZ 1 h2 t8 t23) fun _ h3 =>
 some ⟨.nm, ⟨[(e.s k3 0), (e.s k3 1), (e.s k3 2), (e.s k3 6), (e.s k3 7), t8, (e.s k3 9), (e.s k3 10), (e.s k3 11), (e.s k3 12), (e.s k3 13), (e.s k3 15), (e.s k3 16), (e.s k3 17), (e.s k3 18), (e.s k3 19)], 0, (e.s k3 0)⟩, h3⟩) fun e h =>
 sq (bd (ldn 1 h (e.s k3 8)) fun t25 =>
 bc k3 [25, 26, 27, 24, 28, 29, 9, 10] e (K 12 [t25, (e.s k3 2)] h) fun t27 h1 =>
 bd (exV t27 0) fun t28 =>
 bd (exV t27 1) fun t29 =>
 some ⟨.nm, ⟨[(e.s k3 0), (e.s k3 1), (e.s k3 2), (e.s k3 6), (e.s k3 7), (e.s k3 8), t28, t29, (e.s k3 11), (e.s k3 12), (e.s k3 13), (e.s k3 15), (e.s k3 16), (e.s k3 17), (e.s k3 18), (e.s k3 19)], 10, t29⟩, h1⟩) fun e h =>
 sq (bd (ldn 1 h (e.s k3 7)) fun t31 =>
 bc k3 [31, 32, 33, 30, 34, 35, 11, 12] e (K 13 [t31, (e.s k3 2)] h) fun t33 h1 =>
 bd (exV t33 0) fun t34 =>
 bd (exV t33 1) fun t35 =>
 some ⟨.nm, ⟨[(e.s k3 0), (e.s k3 1), (e.s k3 2), (e.s k3 6), (e.s k3 7), (e.s k3 8), (e.s k3 9), (e.s k3 10), t34, t35, (e.s k3 13), (e.s k3 15), (e.s k3 16), (e.s k3 17), (e.s k3 18), (e.s k3 19)], 12, t35⟩, h1⟩) fun e h =>
 sq (sq (bd (binK 0 .neq (e.s k3 10) (e.s k3 12)) fun t38 =>
 bd (gl t38 false (some (e.s k3 9))) fun t40 =>
 bd (gl t38 false (binK 2 .eql t40 .nilp)) fun t41 =>
 bd (pk t38 (.bool true) t41) fun t42 =>
 bd (gl t42 false (some (e.s k3 9))) fun t44 =>
 bc k3 [36, 37, 38, 39, 40, 41, 42, 43, 44, 45, 46, 47, 48, 49, 50, 51, 52, 53] e (gk t42 false h (K 14 [t44] h)) fun t45 h1 =>
 bd (gl t42 false (unV .not t45)) fun t46 =>
 bd (pk t42 (.bool true) t46) fun t47 =>
 bd (gl t47 false (ldn 1 h1 (e.s k3 8))) fun t49 =>
 bd (gl t47 false (ldn 1 h1 (e.s k3 7))) fun t50 =>
 bc k3 [36, 37, 38, 39, 40, 41, 42, 43, 44, 45, 46, 47, 48, 49, 50, 51, 52, 53] e (gk t47 false h1 (K 15 [t49, t50] h1)) fun t51 h2 =>
 bd (gl t47 false (unV .not t51)) fun t52 =>
 bd (pk t47 (.bool true) t52) fun t53 =>
 some ⟨.nm, ⟨[(e.s k3 0), (e.s k3 1), (e.s k3 2), (e.s k3 6), (e.s k3 7), (e.s k3 8), (e.s k3 9), (e.s k3 10), (e.s k3 11), (e.s k3 12), (e.s k3 13), (e.s k3 15), (e.s k3 16), (e.s k3 17), (e.s k3 18), (e.s k3 19)], 53, t53⟩, h2⟩) fun e h =>
 br (e.s k3 53) (sq (some ⟨.nm, ⟨[(e.s k3 0), (e.s k3 1), (e.s k3 2), (.bool false), (e.s k3 7), (e.s k3 8), (e.s k3 9), (e.s k3 10), (e.s k3 11), (e.s k3 12), (e.s k3 13), (e.s k3 15), (e.s k3 16), (e.s k3 17), (e.s k3 18), (e.s k3 19)], 6, (.bool false)⟩, h⟩) fun e h =>
 some ⟨.rt, e, h⟩)
 (some ⟨.nm, e, h⟩)) fun e h =>
 sq (bd (ldn 1 h (e.s k3 8)) fun t54 =>
 bc k3 [54, 55] e (K 16 [t54, (.int .u16 341)] h) fun t55 h1 =>
 some ⟨.nm, ⟨[(e.s k3 0), (e.s k3 1), (e.s k3 2), (e.s k3 6), (e.s k3 7), (e.s k3 8), (e.s k3 9), (e.s k3 10), (e.s k3 11), (e.s k3 12), (e.s k3 13), (e.s k3 15), (e.s k3 16), (e.s k3 17), (e.s k3 18), (e.s k3 19)], 55, t55⟩, h1⟩) fun e h =>
 sq (bc k3 [57, 58, 56, 59, 60, 13, 14] e (K 17 [(e.s k3 9)] h) fun t58 h1 =>
 bd (exV t58 0) fun t59 =>
 bd (exV t58 1) fun t60 =>
 bf (nw h1 25 [.nils]) fun t13 h2 =>
 bf (stZ 1 h2 t13 t59) fun _ h3 =>
 some ⟨.nm, ⟨[(e.s k3 0), (e.s k3 1), (e.s k3 2), (e.s k3 6), (e.s k3 7), (e.s k3 8), (e.s k3 9), (e.s k3 10), (e.s k3 11), (e.s k3 12), t13, (e.s k3 15), (e.s k3 16), (e.s k3 17), (e.s k3 18), (e.s k3 19)], 14, t60⟩, h3⟩) fun e h =>
 sq (bd (ldn 1 h (e.s k3 13)) fun t61 =>
 bc k3 [61, 62] e (K 16 [t61, (.int .u16 426)] h) fun t62 h1 =>
 some ⟨.nm, ⟨[(e.s k3 0), (e.s k3 1), (e.s k3 2), (e.s k3 6), (e.s k3 7), (e.s k3 8), (e.s k3 9), (e.s k3 10), (e.s k3 11), (e.s k3 12), (e.s k3 13), (e.s k3 15), (e.s k3 16), (e.s k3 17), (e.s k3 18), (e.s k3 19)], 62, t62⟩, h1⟩) fun e h =>
 sq (sq (some ⟨.nm, ⟨[(e.s k3 0), (e.s k3 1), (e.s k3 2), (e.s k3 6), (e.s k3 7), (e.s k3 8), (e.s k3 9), (e.s k3 10), (e.s k3 11), (e.s k3 12), (e.s k3 13), (.int .i64 0), (e.s k3 16), (e.s k3 17), (e.s k3 18), (e.s k3 19)], 15, (.int .i64 0)⟩, h⟩) fun e h =>
 blk 0 (L (l3_0 K L) e h)) fun e h =>
 sq (bc k3 [82, 83, 81, 84, 85, 16, 10] e (K 19 [(e.s k3 9)] h) fun t83 h1 =>
 bd (exV t83 0) fun t84 =>
 bd (exV t83 1) fun t85 =>
 some ⟨.nm, ⟨[(e.s k3 0), (e.s k3 1), (e.s k3 2), (e.s k3 6), (e.s k3 7), (e.s k3 8), (e.s k3 9), t85, (e.s k3 11), (e.s k3 12), (e.s k3 13), (e.s k3 15), t84, (e.s k3 17), (e.s k3 18), (e.s k3 19)], 10, t85⟩, h1⟩) fun e h =>
 sq (bc k3 [87, 88, 86, 89, 90, 17, 12] e (K 20 [(e.s k3 11)] h) fun t88 h1 =>
 bd (exV t88 0) fun t89 =>
 bd (exV t88 1) fun t90 =>
 some ⟨.nm, ⟨[(e.s k3 0), (e.s k3 1), (e.s k3 2), (e.s k3 6), (e.s k3 7), (e.s k3 8), (e.s k3 9), (e.s k3 10), (e.s k3 11), t90, (e.s k3 13), (e.s k3 15), (e.s k3 16), t89, (e.s k3 18), (e.s k3 19)], 12, t90⟩, h1⟩) fun e h =>
 sq (bc k3 [92, 93, 91, 94, 95, 18, 19] e (K 17 [(e.s k3 9)] h) fun t93 h1 =>
 bd (exV t93 0) fun t94 =>
 bd (exV t93 1) fun t95 =>
 bf (nw h1 25 [.nils]) fun t18 h2 =>
 bf (stZ 1 h2 t18 t94) fun _ h3 =>
 some ⟨.nm, ⟨[(e.s k3 0), (e.s k3 1), (e.s k3 2), (e.s k3 6), (e.s k3 7), (e.s k3 8), (e.s k3 9), (e.s k3 10), (e.s k3 11), (e.s k3 12), (e.s k3 13), (e.s k3 15), (e.s k3 16), (e.s k3 17), t18, t95], 19, t95⟩, h3⟩) fun e h =>
 sq (bd (binK 0 .eql (e.s k3 10) (e.s k3 12)) fun t98 =>
 bd (gl t98 true (some (e.s k3 19))) fun t100 =>
 bd (gl t98 true (binK 0 .eql t100 (.int .i64 0))) fun t101 =>
 bd (pk t98 t101 (.bool false)) fun t102 =>
 bd (gl t102 true (some (e.s k3 16))) fun t104 =>
 bd (gl t102 true (some (e.s k3 17))) fun t105 =>
 bn (gk t102 true h (K 21 [t104, t105] h)) fun t106 h1 =>
 bd (pk t102 t106 (.bool false)) fun t107 =>
 bd (gl t107 true (ldn 1 h1 (e.s k3 18))) fun t109 =>
 bd (gl t107 true (some (e.s k3 11))) fun t110 =>
 bd (gl t107 true (nilC t110)) fun t111 =>
 bd (gl t107 true (fa 2 t111)) fun t112 =>
 bd (gl t107 true (ldn 1 h1 t112)) fun t113 =>
 bn (gk t107 true h1 (K 15 [t109, t113] h1)) fun t114 h2 =>
 bd (pk t107 t114 (.bool false)) fun t115 =>
 bn (gk t115 true h2 (K 22 [] h2)) fun t117 h3 =>
 bd (pk t115 t117 (.bool false)) fun t118 =>
 ck (gl t107 true (ldn 1 h1 (e.s k3 18))) t109 (ck (gl t107 true (ldn 1 h1 t112)) t113 (some ⟨.nm, ⟨[(e.s k3 0), (e.s k3 1), (e.s k3 2), t118, (e.s k3 7), (e.s k3 8), (e.s k3 9), (e.s k3 10), (e.s k3 11), (e.s k3 12), (e.s k3 13), (e.s k3 15), (e.s k3 16), (e.s k3 17), (e.s k3 18), (e.s k3 19)], 6, t118⟩, h3⟩))) fun e h =>
 some ⟨.rt, e, h⟩
noncomputable def f3 (K : Oracle) (L : Looper) (p0 p1 p2 : V) (h : H) : Option (Rv × H) := fin Try.prog k3 [.tmp 6] (s3 K L ⟨[p0, p1, p2, V.und, V.und, V.und, V.und, V.und, V.und, V.und, V.und, V.und, V.und, V.und, V.und, V.und], 0, p0⟩ h)
theorem r3 : (fun K L p0 p1 p2 h => runFF Try.prog kp K L 3 [p0, p1, p2] h) = f3 := by kernel_rfl
theorem c3 (p0 p1 p2 : V) (h : H) : callZ Try.prog kp 3 [p0, p1, p2] h = f3 (callZ Try.prog kp) loopZ p0 p1 p2 h :=
  (callZ_eqF _ _ _ _ _).trans (congrFun (congrFun (congrFun (congrFun (congrFun (congrFun (r3) _) _) p0) p1) p2) h)

/-- zoetrope/zoetropelaw04.SymsReads -/
@[simp] def k4 : List Nat := [0, 1, 2, 6, 7, 8, 9, 10, 11, 12, 13, 14, 15, 16, 17]
noncomputable def l4_0 (K : Oracle) (L : Looper) (e : E) (h : H) : Out :=
 sq (sq (bd (lnS (e.s k4 7)) fun t48 =>
 bd (binK 0 .lss (e.s k4 13) t48) fun t49 =>
 some ⟨.nm, ⟨[(e.s k4 0), (e.s k4 1), (e.s k4 2), (e.s k4 6), (e.s k4 7), (e.s k4 8), (e.s k4 9), (e.s k4 10), (e.s k4 11), (e.s k4 12), (e.s k4 13), (e.s k4 14), (e.s k4 15), (e.s k4 16), (e.s k4 17)], 49, t49⟩, h⟩) fun e h =>
 br (e.s k4 49) (some ⟨.nm, e, h⟩)
 (some ⟨.ex 0, e, h⟩)) fun e h =>
 sq (blk 1 (bd (iaS 1 (e.s k4 7) (e.s k4 13)) fun t56 =>
 bd (ld h t56) fun t57 =>
 bd (binK 0 .xor t57 (.int .u8 90)) fun t58 =>
 bd (iaS 1 (e.s k4 7) (e.s k4 13)) fun t59 =>
 bf (stZ 1 h t59 t58) fun _ h1 =>
 some ⟨.nm, ⟨[(e.s k4 0), (e.s k4 1), (e.s k4 2), (e.s k4 6), (e.s k4 7), (e.s k4 8), (e.s k4 9), (e.s k4 10), (e.s k4 11), (e.s k4 12), (e.s k4 13), (e.s k4 14), (e.s k4 15), (e.s k4 16), (e.s k4 17)], 0, (e.s k4 0)⟩, h1⟩)) fun e h =>
 bd (binK 0 .add (e.s k4 13) (.int .i64 1)) fun t51 =>
 some ⟨.nm, ⟨[(e.s k4 0), (e.s k4 1), (e.s k4 2), (e.s k4 6), (e.s k4 7), (e.s k4 8), (e.s k4 9), (e.s k4 10), (e.s k4 11), (e.s k4 12), t51, (e.s k4 14), (e.s k4 15), (e.s k4 16), (e.s k4 17)], 13, t51⟩, h⟩
noncomputable def l4_1 (K : Oracle) (L : Looper) (e : E) (h : H) : Out :=
 sq (sq (bd (lnS (e.s k4 1)) fun t62 =>
 bd (binK 0 .lss (e.s k4 14) t62) fun t63 =>
 bd (gl t63 true (some (e.s k4 14))) fun t65 =>
 bd (gl t63 true (binK 0 .lss t65 (.int .i64 300))) fun t66 =>
 bd (pk t63 t66 (.bool false)) fun t67 =>
 some ⟨.nm, ⟨[(e.s k4 0), (e.s k4 1), (e.s k4 2), (e.s k4 6), (e.s k4 7), (e.s k4 8), (e.s k4 9), (e.s k4 10), (e.s k4 11), (e.s k4 12), (e.s k4 13), (e.s k4 14), (e.s k4 15), (e.s k4 16), (e.s k4 17)], 67, t67⟩, h⟩) fun e h =>
 br (e.s k4 67) (some ⟨.nm, e, h⟩)
 (some ⟨.ex 2, e, h⟩)) fun e h =>
 sq (blk 3 (sq (bd (iaS 5 (e.s k4 1) (e.s k4 14)) fun t74 =>
 bd (ldn 5 h t74) fun t75 =>
 bc k4 [70, 71, 72, 73, 74, 75, 76, 77] e (K 18 [(e.s k4 9), (e.s k4 11), t75] h) fun t76 h1 =>
 bd (unV .not t76) fun t77 =>
 some ⟨.nm, ⟨[(e.s k4 0), (e.s k4 1), (e.s k4 2), (e.s k4 6), (e.s k4 7), (e.s k4 8), (e.s k4 9), (e.s k4 10), (e.s k4 11), (e.s k4 12), (e.s k4 13), (e.s k4 14), (e.s k4 15), (e.s k4 16), (e.s k4 17)], 77, t77⟩, h1⟩) fun e h =>
 br (e.s k4 77) (sq (some ⟨.nm, ⟨[(e.s k4 0), (e.s k4 1), (e.s k4 2), (.bool false), (e.s k4 7), (e.s k4 8), (e.s k4 9), (e.s k4 10), (e.s k4 11), (e.s k4 12), (e.s k4 13), (e.s k4 14), (e.s k4 15), (e.s k4 16), (e.s k4 17)], 6, (.bool false)⟩, h⟩) fun e h =>
 some ⟨.rt, e, h⟩)
 (some ⟨.nm, e, h⟩))) fun e h =>
 bd (binK 0 .add (e.s k4 14) (.int .i64 1)) fun t69 =>
 some ⟨.nm, ⟨[(e.s k4 0), (e.s k4 1), (e.s k4 2), (e.s k4 6), (e.s k4 7), (e.s k4 8), (e.s k4 9), (e.s k4 10), (e.s k4 11), (e.s k4 12), (e.s k4 13), t69, (e.s k4 15), (e.s k4 16), (e.s k4 17)], 14, t69⟩, h⟩
noncomputable def s4 (K : Oracle) (L : Looper) (e : E) (h : H) : Out :=
 sq (some ⟨.nm, ⟨[(e.s k4 0), (e.s k4 1), (e.s k4 2), (.bool false), (e.s k4 7), (e.s k4 8), (e.s k4 9), (e.s k4 10), (e.s k4 11), (e.s k4 12), (e.s k4 13), (e.s k4 14), (e.s k4 15), (e.s k4 16), (e.s k4 17)], 6, (.bool false)⟩, h⟩) fun e h =>
 sq (bc k4 [18, 19, 7] e (K 23 [(e.s k4 0)] h) fun t19 h1 =>
 some ⟨.nm, ⟨[(e.s k4 0), (e.s k4 1), (e.s k4 2), (e.s k4 6), t19, (e.s k4 8), (e.s k4 9), (e.s k4 10), (e.s k4 11), (e.s k4 12), (e.s k4 13), (e.s k4 14), (e.s k4 15), (e.s k4 16), (e.s k4 17)], 7, t19⟩, h1⟩) fun e h =>
 sq (bc k4 [20, 8] e (K 24 [] h) fun t20 h1 =>
 bf (nw h1 25 [.nils]) fun t8 h2 =>
 bf (stZ 1 h2 t8 t20) fun _ h3 =>
 some ⟨.nm, ⟨[(e.s k4 0), (e.s k4 1), (e.s k4 2), (e.s k4 6), (e.s k4 7), t8, (e.s k4 9), (e.s k4 10), (e.s k4 11), (e.s k4 12), (e.s k4 13), (e.s k4 14), (e.s k4 15), (e.s k4 16), (e.s k4 17)], 0, (e.s k4 0)⟩, h3⟩) fun e h =>
 sq (bd (ldn 1 h (e.s k4 8)) fun t23 =>
 bc k4 [22, 23, 24, 25, 21, 26, 27, 9, 10] e (K 25 [(e.s k4 7), t23, (e.s k4 2)] h) fun t25 h1 =>
 bd (exV t25 0) fun t26 =>
 bd (exV t25 1) fun t27 =>
 some ⟨.nm, ⟨[(e.s k4 0), (e.s k4 1), (e.s k4 2), (e.s k4 6), (e.s k4 7), (e.s k4 8), t26, t27, (e.s k4 11), (e.s k4 12), (e.s k4 13), (e.s k4 14), (e.s k4 15), (e.s k4 16), (e.s k4 17)], 10, t27⟩, h1⟩) fun e h =>
 sq (bd (ldn 1 h (e.s k4 8)) fun t30 =>
 bc k4 [29, 30, 31, 32, 28, 33, 34, 11, 12] e (K 26 [(e.s k4 0), t30, (e.s k4 2)] h) fun t32 h1 =>
 bd (exV t32 0) fun t33 =>
 bd (exV t32 1) fun t34 =>
 some ⟨.nm, ⟨[(e.s k4 0), (e.s k4 1), (e.s k4 2), (e.s k4 6), (e.s k4 7), (e.s k4 8), (e.s k4 9), (e.s k4 10), t33, t34, (e.s k4 13), (e.s k4 14), (e.s k4 15), (e.s k4 16), (e.s k4 17)], 12, t34⟩, h1⟩) fun e h =>
 sq (sq (bd (binK 0 .neq (e.s k4 10) (e.s k4 12)) fun t37 =>
 bd (gl t37 false (some (e.s k4 9))) fun t39 =>
 bd (gl t37 false (binK 2 .eql t39 .nilp)) fun t40 =>
 bd (pk t37 (.bool true) t40) fun t41 =>
 bd (gl t41 false (some (e.s k4 9))) fun t43 =>
 bc k4 [35, 36, 37, 38, 39, 40, 41, 42, 43, 44, 45] e (gk t41 false h (K 14 [t43] h)) fun t44 h1 =>
 bd (pk t41 (.bool true) t44) fun t45 =>
 some ⟨.nm, ⟨[(e.s k4 0), (e.s k4 1), (e.s k4 2), (e.s k4 6), (e.s k4 7), (e.s k4 8), (e.s k4 9), (e.s k4 10), (e.s k4 11), (e.s k4 12), (e.s k4 13), (e.s k4 14), (e.s k4 15), (e.s k4 16), (e.s k4 17)], 45, t45⟩, h1⟩) fun e h =>
 br (e.s k4 45) (sq (some ⟨.nm, ⟨[(e.s k4 0), (e.s k4 1), (e.s k4 2), (.bool false), (e.s k4 7), (e.s k4 8), (e.s k4 9), (e.s k4 10), (e.s k4 11), (e.s k4 12), (e.s k4 13), (e.s k4 14), (e.s k4 15), (e.s k4 16), (e.s k4 17)], 6, (.bool false)⟩, h⟩) fun e h =>
 some ⟨.rt, e, h⟩)
 (some ⟨.nm, e, h⟩)) fun e h =>
 sq (sq (some ⟨.nm, ⟨[(e.s k4 0), (e.s k4 1), (e.s k4 2), (e.s k4 6), (e.s k4 7), (e.s k4 8), (e.s k4 9), (e.s k4 10), (e.s k4 11), (e.s k4 12), (.int .i64 0), (e.s k4 14), (e.s k4 15), (e.s k4 16), (e.s k4 17)], 13, (.int .i64 0)⟩, h⟩) fun e h =>
 blk 0 (L (l4_0 K L) e h)) fun e h =>
 sq (sq (some ⟨.nm, ⟨[(e.s k4 0), (e.s k4 1), (e.s k4 2), (e.s k4 6), (e.s k4 7), (e.s k4 8), (e.s k4 9), (e.s k4 10), (e.s k4 11), (e.s k4 12), (e.s k4 13), (.int .i64 0), (e.s k4 15), (e.s k4 16), (e.s k4 17)], 14, (.int .i64 0)⟩, h⟩) fun e h =>
 blk 2 (L (l4_1 K L) e h)) fun e h =>
 sq (bc k4 [79, 80, 78, 81, 82, 15, 10] e (K 19 [(e.s k4 9)] h) fun t80 h1 =>
 bd (exV t80 0) fun t81 =>
 bd (exV t80 1) fun t82 =>
 some ⟨.nm, ⟨[(e.s k4 0), (e.s k4 1), (e.s k4 2), (e.s k4 6), (e.s k4 7), (e.s k4 8), (e.s k4 9), t82, (e.s k4 11), (e.s k4 12), (e.s k4 13), (e.s k4 14), t81, (e.s k4 16), (e.s k4 17)], 10, t82⟩, h1⟩) fun e h =>
 sq (bc k4 [84, 85, 83, 86, 87, 16, 17] e (K 17 [(e.s k4 9)] h) fun t85 h1 =>
 bd (exV t85 0) fun t86 =>
 bd (exV t85 1) fun t87 =>
 bf (nw h1 25 [.nils]) fun t16 h2 =>
 bf (stZ 1 h2 t16 t86) fun _ h3 =>
 some ⟨.nm, ⟨[(e.s k4 0), (e.s k4 1), (e.s k4 2), (e.s k4 6), (e.s k4 7), (e.s k4 8), (e.s k4 9), (e.s k4 10), (e.s k4 11), (e.s k4 12), (e.s k4 13), (e.s k4 14), (e.s k4 15), t16, t87], 17, t87⟩, h3⟩) fun e h =>
 sq (bd (binK 0 .eql (e.s k4 10) (.int .i64 40)) fun t89 =>
 bd (gl t89 true (some (e.s k4 15))) fun t91 =>
 bd (gl t89 true (lnS t91)) fun t92 =>
 bd (gl t89 true (binK 0 .eql t92 (.int .i64 0))) fun t93 =>
 bd (pk t89 t93 (.bool false)) fun t94 =>
 bd (gl t94 true (some (e.s k4 17))) fun t96 =>
 bd (gl t94 true (binK 0 .eql t96 (.int .i64 0))) fun t97 =>
 bd (pk t94 t97 (.bool false)) fun t98 =>
 bd (gl t98 true (ldn 1 h (e.s k4 16))) fun t100 =>
 bd (gl t98 true (some (e.s k4 11))) fun t101 =>
 bd (gl t98 true (nilC t101)) fun t102 =>
 bd (gl t98 true (fa 2 t102)) fun t103 =>
 bd (gl t98 true (ldn 1 h t103)) fun t104 =>
 bn (gk t98 true h (K 15 [t100, t104] h)) fun t105 h1 =>
 bd (pk t98 t105 (.bool false)) fun t106 =>
 bn (gk t106 true h1 (K 22 [] h1)) fun t108 h2 =>
 bd (pk t106 t108 (.bool false)) fun t109 =>
 ck (gl t98 true (ldn 1 h (e.s k4 16))) t100 (ck (gl t98 true (ldn 1 h t103)) t104 (some ⟨.nm, ⟨[(e.s k4 0), (e.s k4 1), (e.s k4 2), t109, (e.s k4 7), (e.s k4 8), (e.s k4 9), (e.s k4 10), (e.s k4 11), (e.s k4 12), (e.s k4 13), (e.s k4 14), (e.s k4 15), (e.s k4 16), (e.s k4 17)], 6, t109⟩, h2⟩))) fun e h =>
 some ⟨.rt, e, h⟩
noncomputable def f4 (K : Oracle) (L : Looper) (p0 p1 p2 : V) (h : H) : Option (Rv × H) := fin Try.prog k4 [.tmp 6] (s4 K L ⟨[p0, p1, p2, V.und, V.und, V.und, V.und, V.und, V.und, V.und, V.und, V.und, V.und, V.und, V.und], 0, p0⟩ h)
theorem r4 : (fun K L p0 p1 p2 h => runFF Try.prog kp K L 4 [p0, p1, p2] h) = f4 := by kernel_rfl
theorem c4 (p0 p1 p2 : V) (h : H) : callZ Try.prog kp 4 [p0, p1, p2] h = f4 (callZ Try.prog kp) loopZ p0 p1 p2 h :=
  (callZ_eqF _ _ _ _ _).trans (congrFun (congrFun (congrFun (congrFun (congrFun (congrFun (r4) _) _) p0) p1) p2) h)

/-- zoetrope/zoetropelaw04.SymsBack -/
@[simp] def k5 : List Nat := [0, 1, 4, 5, 6, 7, 8, 9, 10, 11, 12, 14, 15, 16, 17, 18, 19, 20, 21, 23, 25]
noncomputable def l5_0 (K : Oracle) (L : Looper) (e : E) (h : H) : Out :=
 sq (sq (bd (lnS (e.s k5 0)) fun t44 =>
 bd (binK 0 .lss (e.s k5 8) t44) fun t45 =>
 some ⟨.nm, ⟨[(e.s k5 0), (e.s k5 1), (e.s k5 4), (e.s k5 5), (e.s k5 6), (e.s k5 7), (e.s k5 8), (e.s k5 9), (e.s k5 10), (e.s k5 11), (e.s k5 12), (e.s k5 14), (e.s k5 15), (e.s k5 16), (e.s k5 17), (e.s k5 18), (e.s k5 19), (e.s k5 20), (e.s k5 21), (e.s k5 23), (e.s k5 25)], 45, t45⟩, h⟩) fun e h =>
 br (e.s k5 45) (some ⟨.nm, e, h⟩)
 (some ⟨.ex 0, e, h⟩)) fun e h =>
 sq (blk 1 (sq (bd (iaS 5 (e.s k5 0) (e.s k5 8)) fun t50 =>
 bd (ldn 5 h t50) fun t51 =>
 bc k5 [48, 49, 50, 51, 52, 9] e (K 28 [t51] h) fun t52 h1 =>
 bf (nw h1 43 [(.bool false), (.int .i64 0), (.int .i64 0), (.int .i64 0), (.int .i64 0)]) fun t9 h2 =>
 bf (stZ 5 h2 t9 t52) fun _ h3 =>
 some ⟨.nm, ⟨[(e.s k5 0), (e.s k5 1), (e.s k5 4), (e.s k5 5), (e.s k5 6), (e.s k5 7), (e.s k5 8), t9, (e.s k5 10), (e.s k5 11), (e.s k5 12), (e.s k5 14), (e.s k5 15), (e.s k5 16), (e.s k5 17), (e.s k5 18), (e.s k5 19), (e.s k5 20), (e.s k5 21), (e.s k5 23), (e.s k5 25)], 0, (e.s k5 0)⟩, h3⟩) fun e h =>
 sq (some ⟨.nm, ⟨[(e.s k5 0), (e.s k5 1), (e.s k5 4), (e.s k5 5), (e.s k5 6), (e.s k5 7), (e.s k5 8), (e.s k5 9), (.int .i64 0), (.int .i64 0), (e.s k5 12), (e.s k5 14), (e.s k5 15), (e.s k5 16), (e.s k5 17), (e.s k5 18), (e.s k5 19), (e.s k5 20), (e.s k5 21), (e.s k5 23), (e.s k5 25)], 11, (.int .i64 0)⟩, h⟩) fun e h =>
 sq (sq (bd (fa 0 (e.s k5 9)) fun t53 =>
 bd (ld h t53) fun t54 =>
 some ⟨.nm, ⟨[(e.s k5 0), (e.s k5 1), (e.s k5 4), (e.s k5 5), (e.s k5 6), (e.s k5 7), (e.s k5 8), (e.s k5 9), (e.s k5 10), (e.s k5 11), (e.s k5 12), (e.s k5 14), (e.s k5 15), (e.s k5 16), (e.s k5 17), (e.s k5 18), (e.s k5 19), (e.s k5 20), (e.s k5 21), (e.s k5 23), (e.s k5 25)], 54, t54⟩, h⟩) fun e h =>
 br (e.s k5 54) (bd (fa 1 (e.s k5 9)) fun t57 =>
 bd (ld h t57) fun t58 =>
 bd (fa 4 (e.s k5 9)) fun t59 =>
 bd (ld h t59) fun t60 =>
 bc k5 [56, 57, 58, 59, 60, 61, 55, 62, 63, 10, 11] e (K 29 [(e.s k5 5), t58, t60] h) fun t61 h1 =>
 bd (exV t61 0) fun t62 =>
 bd (exV t61 1) fun t63 =>
 some ⟨.nm, ⟨[(e.s k5 0), (e.s k5 1), (e.s k5 4), (e.s k5 5), (e.s k5 6), (e.s k5 7), (e.s k5 8), (e.s k5 9), t62, t63, (e.s k5 12), (e.s k5 14), (e.s k5 15), (e.s k5 16), (e.s k5 17), (e.s k5 18), (e.s k5 19), (e.s k5 20), (e.s k5 21), (e.s k5 23), (e.s k5 25)], 11, t63⟩, h1⟩)
 (bd (fa 2 (e.s k5 9)) fun t66 =>
 bd (ld h t66) fun t67 =>
 bd (fa 3 (e.s k5 9)) fun t68 =>
 bd (ld h t68) fun t69 =>
 bd (fa 4 (e.s k5 9)) fun t70 =>
 bd (ld h t70) fun t71 =>
 bc k5 [65, 66, 67, 68, 69, 70, 71, 72, 64, 73, 74, 10, 11] e (K 30 [(e.s k5 5), t67, t69, t71] h) fun t72 h1 =>
 bd (exV t72 0) fun t73 =>
 bd (exV t72 1) fun t74 =>
 some ⟨.nm, ⟨[(e.s k5 0), (e.s k5 1), (e.s k5 4), (e.s k5 5), (e.s k5 6), (e.s k5 7), (e.s k5 8), (e.s k5 9), t73, t74, (e.s k5 12), (e.s k5 14), (e.s k5 15), (e.s k5 16), (e.s k5 17), (e.s k5 18), (e.s k5 19), (e.s k5 20), (e.s k5 21), (e.s k5 23), (e.s k5 25)], 11, t74⟩, h1⟩)) fun e h =>
 sq (sq (bd (binK 0 .neq (e.s k5 11) (.int .i64 0)) fun t76 =>
 bd (gl t76 false (some (e.s k5 10))) fun t78 =>
 bd (gl t76 false (fa 4 (e.s k5 9))) fun t79 =>
 bd (gl t76 false (ld h t79)) fun t80 =>
 bd (gl t76 false (binK 0 .neq t78 t80)) fun t81 =>
 bd (pk t76 (.bool true) t81) fun t82 =>
 some ⟨.nm, ⟨[(e.s k5 0), (e.s k5 1), (e.s k5 4), (e.s k5 5), (e.s k5 6), (e.s k5 7), (e.s k5 8), (e.s k5 9), (e.s k5 10), (e.s k5 11), (e.s k5 12), (e.s k5 14), (e.s k5 15), (e.s k5 16), (e.s k5 17), (e.s k5 18), (e.s k5 19), (e.s k5 20), (e.s k5 21), (e.s k5 23), (e.s k5 25)], 82, t82⟩, h⟩) fun e h =>
 br (e.s k5 82) (sq (some ⟨.nm, ⟨[(e.s k5 0), (e.s k5 1), (.bool false), (e.s k5 5), (e.s k5 6), (e.s k5 7), (e.s k5 8), (e.s k5 9), (e.s k5 10), (e.s k5 11), (e.s k5 12), (e.s k5 14), (e.s k5 15), (e.s k5 16), (e.s k5 17), (e.s k5 18), (e.s k5 19), (e.s k5 20), (e.s k5 21), (e.s k5 23), (e.s k5 25)], 4, (.bool false)⟩, h⟩) fun e h =>
 some ⟨.rt, e, h⟩)
 (some ⟨.nm, e, h⟩)) fun e h =>
 sq (bd (binK 0 .rem (e.s k5 8) (.int .i64 16)) fun t84 =>
 bd (binK 0 .eql t84 (.int .i64 0)) fun t85 =>
 some ⟨.nm, ⟨[(e.s k5 0), (e.s k5 1), (e.s k5 4), (e.s k5 5), (e.s k5 6), (e.s k5 7), (e.s k5 8), (e.s k5 9), (e.s k5 10), (e.s k5 11), (e.s k5 12), (e.s k5 14), (e.s k5 15), (e.s k5 16), (e.s k5 17), (e.s k5 18), (e.s k5 19), (e.s k5 20), (e.s k5 21), (e.s k5 23), (e.s k5 25)], 85, t85⟩, h⟩) fun e h =>
 br (e.s k5 85) (sq (bc k5 [87, 88, 86, 89, 90, 12, 13] e (K 17 [(e.s k5 5)] h) fun t88 h1 =>
 bd (exV t88 0) fun t89 =>
 bd (exV t88 1) fun t90 =>
 bf (nw h1 25 [.nils]) fun t12 h2 =>
 bf (stZ 1 h2 t12 t89) fun _ h3 =>
 some ⟨.nm, ⟨[(e.s k5 0), (e.s k5 1), (e.s k5 4), (e.s k5 5), (e.s k5 6), (e.s k5 7), (e.s k5 8), (e.s k5 9), (e.s k5 10), (e.s k5 11), t12, (e.s k5 14), (e.s k5 15), (e.s k5 16), (e.s k5 17), (e.s k5 18), (e.s k5 19), (e.s k5 20), (e.s k5 21), (e.s k5 23), (e.s k5 25)], 13, t90⟩, h3⟩) fun e h =>
 bd (ldn 1 h (e.s k5 12)) fun t92 =>
 bf (bs h 25 1 [.nils] [(some (0, 1), t92)]) fun t93 h1 =>
 bf (apZ 25 1 24 h1 (e.s k5 7) t93) fun t94 h2 =>
 some ⟨.nm, ⟨[(e.s k5 0), (e.s k5 1), (e.s k5 4), (e.s k5 5), (e.s k5 6), t94, (e.s k5 8), (e.s k5 9), (e.s k5 10), (e.s k5 11), (e.s k5 12), (e.s k5 14), (e.s k5 15), (e.s k5 16), (e.s k5 17), (e.s k5 18), (e.s k5 19), (e.s k5 20), (e.s k5 21), (e.s k5 23), (e.s k5 25)], 7, t94⟩, h2⟩)
 (some ⟨.nm, e, h⟩))) fun e h =>
 bd (binK 0 .add (e.s k5 8) (.int .i64 1)) fun t47 =>
 some ⟨.nm, ⟨[(e.s k5 0), (e.s k5 1), (e.s k5 4), (e.s k5 5), (e.s k5 6), (e.s k5 7), t47, (e.s k5 9), (e.s k5 10), (e.s k5 11), (e.s k5 12), (e.s k5 14), (e.s k5 15), (e.s k5 16), (e.s k5 17), (e.s k5 18), (e.s k5 19), (e.s k5 20), (e.s k5 21), (e.s k5 23), (e.s k5 25)], 8, t47⟩, h⟩
noncomputable def l5_1 (K : Oracle) (L : Looper) (e : E) (h : H) : Out :=
 sq (sq (bd (lnS (e.s k5 0)) fun t115 =>
 bd (binK 0 .lss (e.s k5 17) t115) fun t116 =>
 some ⟨.nm, ⟨[(e.s k5 0), (e.s k5 1), (e.s k5 4), (e.s k5 5), (e.s k5 6), (e.s k5 7), (e.s k5 8), (e.s k5 9), (e.s k5 10), (e.s k5 11), (e.s k5 12), (e.s k5 14), (e.s k5 15), (e.s k5 16), (e.s k5 17), (e.s k5 18), (e.s k5 19), (e.s k5 20), (e.s k5 21), (e.s k5 23), (e.s k5 25)], 116, t116⟩, h⟩) fun e h =>
 br (e.s k5 116) (some ⟨.nm, e, h⟩)
 (some ⟨.ex 2, e, h⟩)) fun e h =>
 sq (blk 3 (sq (bd (iaS 5 (e.s k5 0) (e.s k5 17)) fun t121 =>
 bd (ldn 5 h t121) fun t122 =>
 bc k5 [119, 120, 121, 122, 123, 18] e (K 28 [t122] h) fun t123 h1 =>
 bf (nw h1 43 [(.bool false), (.int .i64 0), (.int .i64 0), (.int .i64 0), (.int .i64 0)]) fun t18 h2 =>
 bf (stZ 5 h2 t18 t123) fun _ h3 =>
 some ⟨.nm, ⟨[(e.s k5 0), (e.s k5 1), (e.s k5 4), (e.s k5 5), (e.s k5 6), (e.s k5 7), (e.s k5 8), (e.s k5 9), (e.s k5 10), (e.s k5 11), (e.s k5 12), (e.s k5 14), (e.s k5 15), (e.s k5 16), (e.s k5 17), t18, (e.s k5 19), (e.s k5 20), (e.s k5 21), (e.s k5 23), (e.s k5 25)], 0, (e.s k5 0)⟩, h3⟩) fun e h =>
 sq (some ⟨.nm, ⟨[(e.s k5 0), (e.s k5 1), (e.s k5 4), (e.s k5 5), (e.s k5 6), (e.s k5 7), (e.s k5 8), (e.s k5 9), (e.s k5 10), (e.s k5 11), (e.s k5 12), (e.s k5 14), (e.s k5 15), (e.s k5 16), (e.s k5 17), (e.s k5 18), (.int .i64 0), (.int .i64 0), (e.s k5 21), (e.s k5 23), (e.s k5 25)], 20, (.int .i64 0)⟩, h⟩) fun e h =>
 sq (sq (bd (fa 0 (e.s k5 18)) fun t124 =>
 bd (ld h t124) fun t125 =>
 some ⟨.nm, ⟨[(e.s k5 0), (e.s k5 1), (e.s k5 4), (e.s k5 5), (e.s k5 6), (e.s k5 7), (e.s k5 8), (e.s k5 9), (e.s k5 10), (e.s k5 11), (e.s k5 12), (e.s k5 14), (e.s k5 15), (e.s k5 16), (e.s k5 17), (e.s k5 18), (e.s k5 19), (e.s k5 20), (e.s k5 21), (e.s k5 23), (e.s k5 25)], 125, t125⟩, h⟩) fun e h =>
 br (e.s k5 125) (bd (fa 1 (e.s k5 18)) fun t128 =>
 bd (ld h t128) fun t129 =>
 bc k5 [127, 128, 129, 130, 126, 131, 132, 19, 20] e (K 29 [(e.s k5 15), t129, (.int .i64 (-1))] h) fun t130 h1 =>
 bd (exV t130 0) fun t131 =>
 bd (exV t130 1) fun t132 =>
 some ⟨.nm, ⟨[(e.s k5 0), (e.s k5 1), (e.s k5 4), (e.s k5 5), (e.s k5 6), (e.s k5 7), (e.s k5 8), (e.s k5 9), (e.s k5 10), (e.s k5 11), (e.s k5 12), (e.s k5 14), (e.s k5 15), (e.s k5 16), (e.s k5 17), (e.s k5 18), t131, t132, (e.s k5 21), (e.s k5 23), (e.s k5 25)], 20, t132⟩, h1⟩)
 (bd (fa 2 (e.s k5 18)) fun t135 =>
 bd (ld h t135) fun t136 =>
 bd (fa 3 (e.s k5 18)) fun t137 =>
 bd (ld h t137) fun t138 =>
 bc k5 [134, 135, 136, 137, 138, 139, 133, 140, 141, 19, 20] e (K 30 [(e.s k5 15), t136, t138, (.int .i64 (-1))] h) fun t139 h1 =>
 bd (exV t139 0) fun t140 =>
 bd (exV t139 1) fun t141 =>
 some ⟨.nm, ⟨[(e.s k5 0), (e.s k5 1), (e.s k5 4), (e.s k5 5), (e.s k5 6), (e.s k5 7), (e.s k5 8), (e.s k5 9), (e.s k5 10), (e.s k5 11), (e.s k5 12), (e.s k5 14), (e.s k5 15), (e.s k5 16), (e.s k5 17), (e.s k5 18), t140, t141, (e.s k5 21), (e.s k5 23), (e.s k5 25)], 20, t141⟩, h1⟩)) fun e h =>
 sq (sq (bd (binK 0 .neq (e.s k5 20) (.int .i64 0)) fun t143 =>
 bd (gl t143 false (some (e.s k5 19))) fun t145 =>
 bd (gl t143 false (fa 4 (e.s k5 18))) fun t146 =>
 bd (gl t143 false (ld h t146)) fun t147 =>
 bd (gl t143 false (binK 0 .neq t145 t147)) fun t148 =>
 bd (pk t143 (.bool true) t148) fun t149 =>
 some ⟨.nm, ⟨[(e.s k5 0), (e.s k5 1), (e.s k5 4), (e.s k5 5), (e.s k5 6), (e.s k5 7), (e.s k5 8), (e.s k5 9), (e.s k5 10), (e.s k5 11), (e.s k5 12), (e.s k5 14), (e.s k5 15), (e.s k5 16), (e.s k5 17), (e.s k5 18), (e.s k5 19), (e.s k5 20), (e.s k5 21), (e.s k5 23), (e.s k5 25)], 149, t149⟩, h⟩) fun e h =>
 br (e.s k5 149) (sq (some ⟨.nm, ⟨[(e.s k5 0), (e.s k5 1), (.bool false), (e.s k5 5), (e.s k5 6), (e.s k5 7), (e.s k5 8), (e.s k5 9), (e.s k5 10), (e.s k5 11), (e.s k5 12), (e.s k5 14), (e.s k5 15), (e.s k5 16), (e.s k5 17), (e.s k5 18), (e.s k5 19), (e.s k5 20), (e.s k5 21), (e.s k5 23), (e.s k5 25)], 4, (.bool false)⟩, h⟩) fun e h =>
 some ⟨.rt, e, h⟩)
 (some ⟨.nm, e, h⟩)) fun e h =>
 sq (bd (binK 0 .rem (e.s k5 17) (.int .i64 16)) fun t151 =>
 bd (binK 0 .eql t151 (.int .i64 0)) fun t152 =>
 some ⟨.nm, ⟨[(e.s k5 0), (e.s k5 1), (e.s k5 4), (e.s k5 5), (e.s k5 6), (e.s k5 7), (e.s k5 8), (e.s k5 9), (e.s k5 10), (e.s k5 11), (e.s k5 12), (e.s k5 14), (e.s k5 15), (e.s k5 16), (e.s k5 17), (e.s k5 18), (e.s k5 19), (e.s k5 20), (e.s k5 21), (e.s k5 23), (e.s k5 25)], 152, t152⟩, h⟩) fun e h =>
 br (e.s k5 152) (sq (bc k5 [154, 155, 153, 156, 157, 21, 22] e (K 17 [(e.s k5 15)] h) fun t155 h1 =>
 bd (exV t155 0) fun t156 =>
 bd (exV t155 1) fun t157 =>
 bf (nw h1 25 [.nils]) fun t21 h2 =>
 bf (stZ 1 h2 t21 t156) fun _ h3 =>
 some ⟨.nm, ⟨[(e.s k5 0), (e.s k5 1), (e.s k5 4), (e.s k5 5), (e.s k5 6), (e.s k5 7), (e.s k5 8), (e.s k5 9), (e.s k5 10), (e.s k5 11), (e.s k5 12), (e.s k5 14), (e.s k5 15), (e.s k5 16), (e.s k5 17), (e.s k5 18), (e.s k5 19), (e.s k5 20), t21, (e.s k5 23), (e.s k5 25)], 22, t157⟩, h3⟩) fun e h =>
 sq (bd (ldn 1 h (e.s k5 21)) fun t158 =>
 bd (binK 0 .quo (e.s k5 17) (.int .i64 16)) fun t161 =>
 bd (iaS 1 (e.s k5 7) t161) fun t162 =>
 bd (ldn 1 h t162) fun t163 =>
 bn (K 31 [t158, t163] h) fun t164 h1 =>
 bd (unV .not t164) fun t165 =>
 ck (ldn 1 h (e.s k5 21)) t158 (ck (ldn 1 h t162) t163 (some ⟨.nm, ⟨[(e.s k5 0), (e.s k5 1), (e.s k5 4), (e.s k5 5), (e.s k5 6), (e.s k5 7), (e.s k5 8), (e.s k5 9), (e.s k5 10), (e.s k5 11), (e.s k5 12), (e.s k5 14), (e.s k5 15), (e.s k5 16), (e.s k5 17), (e.s k5 18), (e.s k5 19), (e.s k5 20), (e.s k5 21), (e.s k5 23), (e.s k5 25)], 165, t165⟩, h1⟩))) fun e h =>
 br (e.s k5 165) (sq (some ⟨.nm, ⟨[(e.s k5 0), (e.s k5 1), (.bool false), (e.s k5 5), (e.s k5 6), (e.s k5 7), (e.s k5 8), (e.s k5 9), (e.s k5 10), (e.s k5 11), (e.s k5 12), (e.s k5 14), (e.s k5 15), (e.s k5 16), (e.s k5 17), (e.s k5 18), (e.s k5 19), (e.s k5 20), (e.s k5 21), (e.s k5 23), (e.s k5 25)], 4, (.bool false)⟩, h⟩) fun e h =>
 some ⟨.rt, e, h⟩)
 (some ⟨.nm, e, h⟩))
 (some ⟨.nm, e, h⟩))) fun e h =>
 bd (binK 0 .add (e.s k5 17) (.int .i64 1)) fun t118 =>
 some ⟨.nm, ⟨[(e.s k5 0), (e.s k5 1), (e.s k5 4), (e.s k5 5), (e.s k5 6), (e.s k5 7), (e.s k5 8), (e.s k5 9), (e.s k5 10), (e.s k5 11), (e.s k5 12), (e.s k5 14), (e.s k5 15), (e.s k5 16), t118, (e.s k5 18), (e.s k5 19), (e.s k5 20), (e.s k5 21), (e.s k5 23), (e.s k5 25)], 17, t118⟩, h⟩
noncomputable def s5 (K : Oracle) (L : Looper) (e : E) (h : H) : Out :=
 sq (some ⟨.nm, ⟨[(e.s k5 0), (e.s k5 1), (.bool false), (e.s k5 5), (e.s k5 6), (e.s k5 7), (e.s k5 8), (e.s k5 9), (e.s k5 10), (e.s k5 11), (e.s k5 12), (e.s k5 14), (e.s k5 15), (e.s k5 16), (e.s k5 17), (e.s k5 18), (e.s k5 19), (e.s k5 20), (e.s k5 21), (e.s k5 23), (e.s k5 25)], 4, (.bool false)⟩, h⟩) fun e h =>
 sq (sq (bc k5 [27, 28] e (K 22 [] h) fun t27 h1 =>
 bd (unV .not t27) fun t28 =>
 some ⟨.nm, ⟨[(e.s k5 0), (e.s k5 1), (e.s k5 4), (e.s k5 5), (e.s k5 6), (e.s k5 7), (e.s k5 8), (e.s k5 9), (e.s k5 10), (e.s k5 11), (e.s k5 12), (e.s k5 14), (e.s k5 15), (e.s k5 16), (e.s k5 17), (e.s k5 18), (e.s k5 19), (e.s k5 20), (e.s k5 21), (e.s k5 23), (e.s k5 25)], 28, t28⟩, h1⟩) fun e h =>
 br (e.s k5 28) (sq (some ⟨.nm, ⟨[(e.s k5 0), (e.s k5 1), (.bool false), (e.s k5 5), (e.s k5 6), (e.s k5 7), (e.s k5 8), (e.s k5 9), (e.s k5 10), (e.s k5 11), (e.s k5 12), (e.s k5 14), (e.s k5 15), (e.s k5 16), (e.s k5 17), (e.s k5 18), (e.s k5 19), (e.s k5 20), (e.s k5 21), (e.s k5 23), (e.s k5 25)], 4, (.bool false)⟩, h⟩) fun e h =>
 some ⟨.rt, e, h⟩)
 (some ⟨.nm, e, h⟩)) fun e h =>
 sq (sq (bd (lnS (e.s k5 0)) fun t30 =>
 bd (binK 0 .gtr t30 (.int .i64 400)) fun t31 =>
 some ⟨.nm, ⟨[(e.s k5 0), (e.s k5 1), (e.s k5 4), (e.s k5 5), (e.s k5 6), (e.s k5 7), (e.s k5 8), (e.s k5 9), (e.s k5 10), (e.s k5 11), (e.s k5 12), (e.s k5 14), (e.s k5 15), (e.s k5 16), (e.s k5 17), (e.s k5 18), (e.s k5 19), (e.s k5 20), (e.s k5 21), (e.s k5 23), (e.s k5 25)], 31, t31⟩, h⟩) fun e h =>
 br (e.s k5 31) (bd (slS 5 (e.s k5 0) none (some (.int .i64 400)) none) fun t33 =>
 some ⟨.nm, ⟨[t33, (e.s k5 1), (e.s k5 4), (e.s k5 5), (e.s k5 6), (e.s k5 7), (e.s k5 8), (e.s k5 9), (e.s k5 10), (e.s k5 11), (e.s k5 12), (e.s k5 14), (e.s k5 15), (e.s k5 16), (e.s k5 17), (e.s k5 18), (e.s k5 19), (e.s k5 20), (e.s k5 21), (e.s k5 23), (e.s k5 25)], 0, t33⟩, h⟩)
 (some ⟨.nm, e, h⟩)) fun e h =>
 sq (bc k5 [35, 36, 37, 34, 38, 39, 5, 6] e (K 27 [] h) fun t35 h1 =>
 bc k5 [35, 36, 37, 34, 38, 39, 5, 6] e (K 12 [t35, (e.s k5 1)] h1) fun t37 h2 =>
 bd (exV t37 0) fun t38 =>
 bd (exV t37 1) fun t39 =>
 some ⟨.nm, ⟨[(e.s k5 0), (e.s k5 1), (e.s k5 4), t38, t39, (e.s k5 7), (e.s k5 8), (e.s k5 9), (e.s k5 10), (e.s k5 11), (e.s k5 12), (e.s k5 14), (e.s k5 15), (e.s k5 16), (e.s k5 17), (e.s k5 18), (e.s k5 19), (e.s k5 20), (e.s k5 21), (e.s k5 23), (e.s k5 25)], 6, t39⟩, h2⟩) fun e h =>
 sq (sq (bd (binK 0 .neq (e.s k5 6) (.int .i64 0)) fun t41 =>
 some ⟨.nm, ⟨[(e.s k5 0), (e.s k5 1), (e.s k5 4), (e.s k5 5), (e.s k5 6), (e.s k5 7), (e.s k5 8), (e.s k5 9), (e.s k5 10), (e.s k5 11), (e.s k5 12), (e.s k5 14), (e.s k5 15), (e.s k5 16), (e.s k5 17), (e.s k5 18), (e.s k5 19), (e.s k5 20), (e.s k5 21), (e.s k5 23), (e.s k5 25)], 41, t41⟩, h⟩) fun e h =>
 br (e.s k5 41) (sq (some ⟨.nm, ⟨[(e.s k5 0), (e.s k5 1), (.bool false), (e.s k5 5), (e.s k5 6), (e.s k5 7), (e.s k5 8), (e.s k5 9), (e.s k5 10), (e.s k5 11), (e.s k5 12), (e.s k5 14), (e.s k5 15), (e.s k5 16), (e.s k5 17), (e.s k5 18), (e.s k5 19), (e.s k5 20), (e.s k5 21), (e.s k5 23), (e.s k5 25)], 4, (.bool false)⟩, h⟩) fun e h =>
 some ⟨.rt, e, h⟩)
 (some ⟨.nm, e, h⟩)) fun e h =>
 sq (some ⟨.nm, ⟨[(e.s k5 0), (e.s k5 1), (e.s k5 4), (e.s k5 5), (e.s k5 6), .nils, (e.s k5 8), (e.s k5 9), (e.s k5 10), (e.s k5 11), (e.s k5 12), (e.s k5 14), (e.s k5 15), (e.s k5 16), (e.s k5 17), (e.s k5 18), (e.s k5 19), (e.s k5 20), (e.s k5 21), (e.s k5 23), (e.s k5 25)], 7, .nils⟩, h⟩) fun e h =>
 sq (sq (some ⟨.nm, ⟨[(e.s k5 0), (e.s k5 1), (e.s k5 4), (e.s k5 5), (e.s k5 6), (e.s k5 7), (.int .i64 0), (e.s k5 9), (e.s k5 10), (e.s k5 11), (e.s k5 12), (e.s k5 14), (e.s k5 15), (e.s k5 16), (e.s k5 17), (e.s k5 18), (e.s k5 19), (e.s k5 20), (e.s k5 21), (e.s k5 23), (e.s k5 25)], 8, (.int .i64 0)⟩, h⟩) fun e h =>
 blk 0 (L (l5_0 K L) e h)) fun e h =>
 sq (bc k5 [96, 97, 95, 98, 99, 14, 6] e (K 19 [(e.s k5 5)] h) fun t97 h1 =>
 bd (exV t97 0) fun t98 =>
 bd (exV t97 1) fun t99 =>
 some ⟨.nm, ⟨[(e.s k5 0), (e.s k5 1), (e.s k5 4), (e.s k5 5), t99, (e.s k5 7), (e.s k5 8), (e.s k5 9), (e.s k5 10), (e.s k5 11), (e.s k5 12), t98, (e.s k5 15), (e.s k5 16), (e.s k5 17), (e.s k5 18), (e.s k5 19), (e.s k5 20), (e.s k5 21), (e.s k5 23), (e.s k5 25)], 6, t99⟩, h1⟩) fun e h =>
 sq (bc k5 [101, 102, 103, 104, 100, 105, 106, 15, 16] e (K 27 [] h) fun t102 h1 =>
 bc k5 [101, 102, 103, 104, 100, 105, 106, 15, 16] e (K 25 [(e.s k5 14), t102, (e.s k5 1)] h1) fun t104 h2 =>
 bd (exV t104 0) fun t105 =>
 bd (exV t104 1) fun t106 =>
 some ⟨.nm, ⟨[(e.s k5 0), (e.s k5 1), (e.s k5 4), (e.s k5 5), (e.s k5 6), (e.s k5 7), (e.s k5 8), (e.s k5 9), (e.s k5 10), (e.s k5 11), (e.s k5 12), (e.s k5 14), t105, t106, (e.s k5 17), (e.s k5 18), (e.s k5 19), (e.s k5 20), (e.s k5 21), (e.s k5 23), (e.s k5 25)], 16, t106⟩, h2⟩) fun e h =>
 sq (sq (bd (binK 0 .neq (e.s k5 6) (.int .i64 0)) fun t108 =>
 bd (gl t108 false (some (e.s k5 16))) fun t110 =>
 bd (gl t108 false (binK 0 .neq t110 (.int .i64 0))) fun t111 =>
 bd (pk t108 (.bool true) t111) fun t112 =>
 some ⟨.nm, ⟨[(e.s k5 0), (e.s k5 1), (e.s k5 4), (e.s k5 5), (e.s k5 6), (e.s k5 7), (e.s k5 8), (e.s k5 9), (e.s k5 10), (e.s k5 11), (e.s k5 12), (e.s k5 14), (e.s k5 15), (e.s k5 16), (e.s k5 17), (e.s k5 18), (e.s k5 19), (e.s k5 20), (e.s k5 21), (e.s k5 23), (e.s k5 25)], 112, t112⟩, h⟩) fun e h =>
 br (e.s k5 112) (sq (some ⟨.nm, ⟨[(e.s k5 0), (e.s k5 1), (.bool false), (e.s k5 5), (e.s k5 6), (e.s k5 7), (e.s k5 8), (e.s k5 9), (e.s k5 10), (e.s k5 11), (e.s k5 12), (e.s k5 14), (e.s k5 15), (e.s k5 16), (e.s k5 17), (e.s k5 18), (e.s k5 19), (e.s k5 20), (e.s k5 21), (e.s k5 23), (e.s k5 25)], 4, (.bool false)⟩, h⟩) fun e h =>
 some ⟨.rt, e, h⟩)
 (some ⟨.nm, e, h⟩)) fun e h =>
 sq (sq (some ⟨.nm, ⟨[(e.s k5 0), (e.s k5 1), (e.s k5 4), (e.s k5 5), (e.s k5 6), (e.s k5 7), (e.s k5 8), (e.s k5 9), (e.s k5 10), (e.s k5 11), (e.s k5 12), (e.s k5 14), (e.s k5 15), (e.s k5 16), (.int .i64 0), (e.s k5 18), (e.s k5 19), (e.s k5 20), (e.s k5 21), (e.s k5 23), (e.s k5 25)], 17, (.int .i64 0)⟩, h⟩) fun e h =>
 blk 2 (L (l5_1 K L) e h)) fun e h =>
 sq (bc k5 [167, 168, 166, 169, 170, 23, 24] e (K 17 [(e.s k5 5)] h) fun t168 h1 =>
 bd (exV t168 0) fun t169 =>
 bd (exV t168 1) fun t170 =>
 bf (nw h1 25 [.nils]) fun t23 h2 =>
 bf (stZ 1 h2 t23 t169) fun _ h3 =>
 some ⟨.nm, ⟨[(e.s k5 0), (e.s k5 1), (e.s k5 4), (e.s k5 5), (e.s k5 6), (e.s k5 7), (e.s k5 8), (e.s k5 9), (e.s k5 10), (e.s k5 11), (e.s k5 12), (e.s k5 14), (e.s k5 15), (e.s k5 16), (e.s k5 17), (e.s k5 18), (e.s k5 19), (e.s k5 20), (e.s k5 21), t23, (e.s k5 25)], 24, t170⟩, h3⟩) fun e h =>
 sq (bc k5 [172, 173, 171, 174, 175, 25, 26] e (K 17 [(e.s k5 15)] h) fun t173 h1 =>
 bd (exV t173 0) fun t174 =>
 bd (exV t173 1) fun t175 =>
 bf (nw h1 25 [.nils]) fun t25 h2 =>
 bf (stZ 1 h2 t25 t174) fun _ h3 =>
 some ⟨.nm, ⟨[(e.s k5 0), (e.s k5 1), (e.s k5 4), (e.s k5 5), (e.s k5 6), (e.s k5 7), (e.s k5 8), (e.s k5 9), (e.s k5 10), (e.s k5 11), (e.s k5 12), (e.s k5 14), (e.s k5 15), (e.s k5 16), (e.s k5 17), (e.s k5 18), (e.s k5 19), (e.s k5 20), (e.s k5 21), (e.s k5 23), t25], 26, t175⟩, h3⟩) fun e h =>
 sq (bd (ldn 1 h (e.s k5 23)) fun t176 =>
 bd (ldn 1 h (e.s k5 25)) fun t177 =>
 bn (K 31 [t176, t177] h) fun t178 h1 =>
 bd (gl t178 true (some (e.s k5 5))) fun t180 =>
 bn (gk t178 true h1 (K 32 [t180] h1)) fun t181 h2 =>
 bd (gl t178 true (some (e.s k5 15))) fun t182 =>
 bn (gk t178 true h2 (K 32 [t182] h2)) fun t183 h3 =>
 bd (gl t178 true (binK 0 .eql t181 t183)) fun t184 =>
 bd (pk t178 t184 (.bool false)) fun t185 =>
 bd (gl t185 true (some (e.s k5 1))) fun t187 =>
 bd (gl t185 true (some t187)) fun t188 =>
 bn (gk t188 false h3 (K 27 [] h3)) fun t190 h4 =>
 bd (gl t188 false (ldn 1 h4 (e.s k5 23))) fun t189 =>
 bn (gk t188 false h4 (K 31 [t189, t190] h4)) fun t191 h5 =>
 bd (gl t185 true (pk t188 (.bool true) t191)) fun t192 =>
 bd (pk t185 t192 (.bool false)) fun t193 =>
 ck (ldn 1 h (e.s k5 23)) t176 (ck (ldn 1 h (e.s k5 25)) t177 (ck (gl t188 false (ldn 1 h3 (e.s k5 23))) t189 (ck (gl t188 false (ldn 1 h4 (e.s k5 23))) t189 (some ⟨.nm, ⟨[(e.s k5 0), (e.s k5 1), t193, (e.s k5 5), (e.s k5 6), (e.s k5 7), (e.s k5 8), (e.s k5 9), (e.s k5 10), (e.s k5 11), (e.s k5 12), (e.s k5 14), (e.s k5 15), (e.s k5 16), (e.s k5 17), (e.s k5 18), (e.s k5 19), (e.s k5 20), (e.s k5 21), (e.s k5 23), (e.s k5 25)], 4, t193⟩, h5⟩))))) fun e h =>
 some ⟨.rt, e, h⟩
noncomputable def f5 (K : Oracle) (L : Looper) (p0 p1 : V) (h : H) : Option (Rv × H) := fin Try.prog k5 [.tmp 4] (s5 K L ⟨[p0, p1, V.und, V.und, V.und, V.und, V.und, V.und, V.und, V.und, V.und, V.und, V.und, V.und, V.und, V.und, V.und, V.und, V.und, V.und, V.und], 0, p0⟩ h)
theorem r5 : (fun K L p0 p1 h => runFF Try.prog kp K L 5 [p0, p1] h) = f5 := by kernel_rfl
theorem c5 (p0 p1 : V) (h : H) : callZ Try.prog kp 5 [p0, p1] h = f5 (callZ Try.prog kp) loopZ p0 p1 h :=
  (callZ_eqF _ _ _ _ _).trans (congrFun (congrFun (congrFun (congrFun (congrFun (r5) _) _) p0) p1) h)

/-- zoetrope/zoetropelaw04.SymsAny -/
@[simp] def k6 : List Nat := [0, 1, 4, 5, 6, 7, 8, 9, 10, 11, 13, 15, 16, 17, 18]
noncomputable def l6_0 (K : Oracle) (L : Looper) (e : E) (h : H) : Out :=
 sq (sq (bd (lnS (e.s k6 1)) fun t31 =>
 bd (binK 0 .lss (e.s k6 8) t31) fun t32 =>
 bd (gl t32 true (some (e.s k6 8))) fun t34 =>
 bd (gl t32 true (binK 0 .lss t34 (.int .i64 300))) fun t35 =>
 bd (pk t32 t35 (.bool false)) fun t36 =>
 some ⟨.nm, ⟨[(e.s k6 0), (e.s k6 1), (e.s k6 4), (e.s k6 5), (e.s k6 6), (e.s k6 7), (e.s k6 8), (e.s k6 9), (e.s k6 10), (e.s k6 11), (e.s k6 13), (e.s k6 15), (e.s k6 16), (e.s k6 17), (e.s k6 18)], 36, t36⟩, h⟩) fun e h =>
 br (e.s k6 36) (some ⟨.nm, e, h⟩)
 (some ⟨.ex 0, e, h⟩)) fun e h =>
 sq (blk 1 (sq (bd (iaS 5 (e.s k6 1) (e.s k6 8)) fun t41 =>
 bd (ldn 5 h t41) fun t42 =>
 bc k6 [39, 40, 41, 42, 43, 9] e (K 28 [t42] h) fun t43 h1 =>
 bf (nw h1 43 [(.bool false), (.int .i64 0), (.int .i64 0), (.int .i64 0), (.int .i64 0)]) fun t9 h2 =>
 bf (stZ 5 h2 t9 t43) fun _ h3 =>
 some ⟨.nm, ⟨[(e.s k6 0), (e.s k6 1), (e.s k6 4), (e.s k6 5), (e.s k6 6), (e.s k6 7), (e.s k6 8), t9, (e.s k6 10), (e.s k6 11), (e.s k6 13), (e.s k6 15), (e.s k6 16), (e.s k6 17), (e.s k6 18)], 0, (e.s k6 0)⟩, h3⟩) fun e h =>
 sq (sq (bd (fa 0 (e.s k6 9)) fun t44 =>
 bd (ld h t44) fun t45 =>
 some ⟨.nm, ⟨[(e.s k6 0), (e.s k6 1), (e.s k6 4), (e.s k6 5), (e.s k6 6), (e.s k6 7), (e.s k6 8), (e.s k6 9), (e.s k6 10), (e.s k6 11), (e.s k6 13), (e.s k6 15), (e.s k6 16), (e.s k6 17), (e.s k6 18)], 45, t45⟩, h⟩) fun e h =>
 br (e.s k6 45) (sq (bd (fa 1 (e.s k6 9)) fun t48 =>
 bd (ld h t48) fun t49 =>
 bc k6 [47, 48, 49, 50, 46, 51, 52, 10, 11] e (K 29 [(e.s k6 5), t49, (.int .i64 0)] h) fun t50 h1 =>
 bd (exV t50 0) fun t51 =>
 bd (exV t50 1) fun t52 =>
 some ⟨.nm, ⟨[(e.s k6 0), (e.s k6 1), (e.s k6 4), (e.s k6 5), (e.s k6 6), (e.s k6 7), (e.s k6 8), (e.s k6 9), t51, t52, (e.s k6 13), (e.s k6 15), (e.s k6 16), (e.s k6 17), (e.s k6 18)], 11, t52⟩, h1⟩) fun e h =>
 sq (bd (fa 1 (e.s k6 9)) fun t54 =>
 bd (ld h t54) fun t55 =>
 bd (binK 0 .add (e.s k6 7) t55) fun t56 =>
 some ⟨.nm, ⟨[(e.s k6 0), (e.s k6 1), (e.s k6 4), (e.s k6 5), (e.s k6 6), t56, (e.s k6 8), (e.s k6 9), (e.s k6 10), (e.s k6 11), (e.s k6 13), (e.s k6 15), (e.s k6 16), (e.s k6 17), (e.s k6 18)], 7, t56⟩, h⟩) fun e h =>
 sq (sq (bd (binK 0 .neq (e.s k6 11) (.int .i64 0)) fun t58 =>
 bd (gl t58 false (some (e.s k6 10))) fun t60 =>
 bd (gl t58 false (binK 0 .lss t60 (.int .i64 0))) fun t61 =>
 bd (pk t58 (.bool true) t61) fun t62 =>
 bd (gl t62 false (some (e.s k6 10))) fun t64 =>
 bd (gl t62 false (fa 1 (e.s k6 9))) fun t65 =>
 bd (gl t62 false (ld h t65)) fun t66 =>
 bd (gl t62 false (binK 0 .shl (.int .i64 1) t66)) fun t67 =>
 bd (gl t62 false (binK 0 .geq t64 t67)) fun t68 =>
 bd (pk t62 (.bool true) t68) fun t69 =>
 some ⟨.nm, ⟨[(e.s k6 0), (e.s k6 1), (e.s k6 4), (e.s k6 5), (e.s k6 6), (e.s k6 7), (e.s k6 8), (e.s k6 9), (e.s k6 10), (e.s k6 11), (e.s k6 13), (e.s k6 15), (e.s k6 16), (e.s k6 17), (e.s k6 18)], 69, t69⟩, h⟩) fun e h =>
 br (e.s k6 69) (sq (some ⟨.nm, ⟨[(e.s k6 0), (e.s k6 1), (.bool false), (e.s k6 5), (e.s k6 6), (e.s k6 7), (e.s k6 8), (e.s k6 9), (e.s k6 10), (e.s k6 11), (e.s k6 13), (e.s k6 15), (e.s k6 16), (e.s k6 17), (e.s k6 18)], 4, (.bool false)⟩, h⟩) fun e h =>
 some ⟨.rt, e, h⟩)
 (some ⟨.nm, e, h⟩)) fun e h =>
 some ⟨.ex 1, e, h⟩)
 (some ⟨.nm, e, h⟩)) fun e h =>
 sq (bd (fa 2 (e.s k6 9)) fun t71 =>
 bd (ld h t71) fun t72 =>
 bc k6 [71, 72, 73, 70, 74, 75, 76, 12, 13, 14] e (K 33 [t72] h) fun t73 h1 =>
 bd (exV t73 0) fun t74 =>
 bd (exV t73 1) fun t75 =>
 bd (exV t73 2) fun t76 =>
 some ⟨.nm, ⟨[(e.s k6 0), (e.s k6 1), (e.s k6 4), (e.s k6 5), (e.s k6 6), (e.s k6 7), (e.s k6 8), (e.s k6 9), (e.s k6 10), (e.s k6 11), t75, (e.s k6 15), (e.s k6 16), (e.s k6 17), (e.s k6 18)], 14, t76⟩, h1⟩) fun e h =>
 sq (bd (fa 2 (e.s k6 9)) fun t79 =>
 bd (ld h t79) fun t80 =>
 bd (fa 3 (e.s k6 9)) fun t81 =>
 bd (ld h t81) fun t82 =>
 bc k6 [78, 79, 80, 81, 82, 83, 77, 84, 85, 15, 16] e (K 30 [(e.s k6 5), t80, t82, (.int .i64 0)] h) fun t83 h1 =>
 bd (exV t83 0) fun t84 =>
 bd (exV t83 1) fun t85 =>
 some ⟨.nm, ⟨[(e.s k6 0), (e.s k6 1), (e.s k6 4), (e.s k6 5), (e.s k6 6), (e.s k6 7), (e.s k6 8), (e.s k6 9), (e.s k6 10), (e.s k6 11), (e.s k6 13), t84, t85, (e.s k6 17), (e.s k6 18)], 16, t85⟩, h1⟩) fun e h =>
 sq (bd (binK 0 .add (e.s k6 7) (.int .i64 1)) fun t87 =>
 some ⟨.nm, ⟨[(e.s k6 0), (e.s k6 1), (e.s k6 4), (e.s k6 5), (e.s k6 6), t87, (e.s k6 8), (e.s k6 9), (e.s k6 10), (e.s k6 11), (e.s k6 13), (e.s k6 15), (e.s k6 16), (e.s k6 17), (e.s k6 18)], 7, t87⟩, h⟩) fun e h =>
 sq (bd (binK 0 .neq (e.s k6 16) (.int .i64 0)) fun t89 =>
 bd (gl t89 false (some (e.s k6 15))) fun t91 =>
 bd (gl t89 false (binK 0 .lss t91 (.int .i64 0))) fun t92 =>
 bd (pk t89 (.bool true) t92) fun t93 =>
 bd (gl t93 false (some (e.s k6 15))) fun t95 =>
 bd (gl t93 false (some (e.s k6 13))) fun t96 =>
 bd (gl t93 false (binK 0 .geq t95 t96)) fun t97 =>
 bd (pk t93 (.bool true) t97) fun t98 =>
 some ⟨.nm, ⟨[(e.s k6 0), (e.s k6 1), (e.s k6 4), (e.s k6 5), (e.s k6 6), (e.s k6 7), (e.s k6 8), (e.s k6 9), (e.s k6 10), (e.s k6 11), (e.s k6 13), (e.s k6 15), (e.s k6 16), (e.s k6 17), (e.s k6 18)], 98, t98⟩, h⟩) fun e h =>
 br (e.s k6 98) (sq (some ⟨.nm, ⟨[(e.s k6 0), (e.s k6 1), (.bool false), (e.s k6 5), (e.s k6 6), (e.s k6 7), (e.s k6 8), (e.s k6 9), (e.s k6 10), (e.s k6 11), (e.s k6 13), (e.s k6 15), (e.s k6 16), (e.s k6 17), (e.s k6 18)], 4, (.bool false)⟩, h⟩) fun e h =>
 some ⟨.rt, e, h⟩)
 (some ⟨.nm, e, h⟩))) fun e h =>
 bd (binK 0 .add (e.s k6 8) (.int .i64 1)) fun t38 =>
 some ⟨.nm, ⟨[(e.s k6 0), (e.s k6 1), (e.s k6 4), (e.s k6 5), (e.s k6 6), (e.s k6 7), t38, (e.s k6 9), (e.s k6 10), (e.s k6 11), (e.s k6 13), (e.s k6 15), (e.s k6 16), (e.s k6 17), (e.s k6 18)], 8, t38⟩, h⟩
noncomputable def s6 (K : Oracle) (L : Looper) (e : E) (h : H) : Out :=
 sq (some ⟨.nm, ⟨[(e.s k6 0), (e.s k6 1), (.bool false), (e.s k6 5), (e.s k6 6), (e.s k6 7), (e.s k6 8), (e.s k6 9), (e.s k6 10), (e.s k6 11), (e.s k6 13), (e.s k6 15), (e.s k6 16), (e.s k6 17), (e.s k6 18)], 4, (.bool false)⟩, h⟩) fun e h =>
 sq (sq (bc k6 [19, 20] e (K 22 [] h) fun t19 h1 =>
 bd (unV .not t19) fun t20 =>
 some ⟨.nm, ⟨[(e.s k6 0), (e.s k6 1), (e.s k6 4), (e.s k6 5), (e.s k6 6), (e.s k6 7), (e.s k6 8), (e.s k6 9), (e.s k6 10), (e.s k6 11), (e.s k6 13), (e.s k6 15), (e.s k6 16), (e.s k6 17), (e.s k6 18)], 20, t20⟩, h1⟩) fun e h =>
 br (e.s k6 20) (sq (some ⟨.nm, ⟨[(e.s k6 0), (e.s k6 1), (.bool false), (e.s k6 5), (e.s k6 6), (e.s k6 7), (e.s k6 8), (e.s k6 9), (e.s k6 10), (e.s k6 11), (e.s k6 13), (e.s k6 15), (e.s k6 16), (e.s k6 17), (e.s k6 18)], 4, (.bool false)⟩, h⟩) fun e h =>
 some ⟨.rt, e, h⟩)
 (some ⟨.nm, e, h⟩)) fun e h =>
 sq (bc k6 [22, 23, 24, 21, 25, 26, 5, 6] e (K 27 [] h) fun t23 h1 =>
 bc k6 [22, 23, 24, 21, 25, 26, 5, 6] e (K 25 [(e.s k6 0), t23, (.bool true)] h1) fun t24 h2 =>
 bd (exV t24 0) fun t25 =>
 bd (exV t24 1) fun t26 =>
 some ⟨.nm, ⟨[(e.s k6 0), (e.s k6 1), (e.s k6 4), t25, t26, (e.s k6 7), (e.s k6 8), (e.s k6 9), (e.s k6 10), (e.s k6 11), (e.s k6 13), (e.s k6 15), (e.s k6 16), (e.s k6 17), (e.s k6 18)], 6, t26⟩, h2⟩) fun e h =>
 sq (sq (bd (binK 0 .neq (e.s k6 6) (.int .i64 0)) fun t28 =>
 some ⟨.nm, ⟨[(e.s k6 0), (e.s k6 1), (e.s k6 4), (e.s k6 5), (e.s k6 6), (e.s k6 7), (e.s k6 8), (e.s k6 9), (e.s k6 10), (e.s k6 11), (e.s k6 13), (e.s k6 15), (e.s k6 16), (e.s k6 17), (e.s k6 18)], 28, t28⟩, h⟩) fun e h =>
 br (e.s k6 28) (sq (some ⟨.nm, ⟨[(e.s k6 0), (e.s k6 1), (.bool false), (e.s k6 5), (e.s k6 6), (e.s k6 7), (e.s k6 8), (e.s k6 9), (e.s k6 10), (e.s k6 11), (e.s k6 13), (e.s k6 15), (e.s k6 16), (e.s k6 17), (e.s k6 18)], 4, (.bool false)⟩, h⟩) fun e h =>
 some ⟨.rt, e, h⟩)
 (some ⟨.nm, e, h⟩)) fun e h =>
 sq (some ⟨.nm, ⟨[(e.s k6 0), (e.s k6 1), (e.s k6 4), (e.s k6 5), (e.s k6 6), (.int .i64 0), (e.s k6 8), (e.s k6 9), (e.s k6 10), (e.s k6 11), (e.s k6 13), (e.s k6 15), (e.s k6 16), (e.s k6 17), (e.s k6 18)], 7, (.int .i64 0)⟩, h⟩) fun e h =>
 sq (sq (some ⟨.nm, ⟨[(e.s k6 0), (e.s k6 1), (e.s k6 4), (e.s k6 5), (e.s k6 6), (e.s k6 7), (.int .i64 0), (e.s k6 9), (e.s k6 10), (e.s k6 11), (e.s k6 13), (e.s k6 15), (e.s k6 16), (e.s k6 17), (e.s k6 18)], 8, (.int .i64 0)⟩, h⟩) fun e h =>
 blk 0 (L (l6_0 K L) e h)) fun e h =>
 sq (bc k6 [100, 101, 99, 102, 103, 17, 18] e (K 17 [(e.s k6 5)] h) fun t101 h1 =>
 bd (exV t101 0) fun t102 =>
 bd (exV t101 1) fun t103 =>
 bf (nw h1 25 [.nils]) fun t17 h2 =>
 bf (stZ 1 h2 t17 t102) fun _ h3 =>
 some ⟨.nm, ⟨[(e.s k6 0), (e.s k6 1), (e.s k6 4), (e.s k6 5), (e.s k6 6), (e.s k6 7), (e.s k6 8), (e.s k6 9), (e.s k6 10), (e.s k6 11), (e.s k6 13), (e.s k6 15), (e.s k6 16), t17, t103], 18, t103⟩, h3⟩) fun e h =>
 sq (bd (binK 0 .eql (e.s k6 18) (.int .i64 0)) fun t105 =>
 bd (gl t105 true (ldn 1 h (e.s k6 17))) fun t107 =>
 bc k6 [104, 105, 106, 107, 108, 109, 110, 111, 112, 113, 114, 115, 116, 4] e (gk t105 true h (K 34 [t107] h)) fun t108 h1 =>
 bd (gl t105 true (binK 0 .eql t108 (.int .i64 0))) fun t109 =>
 bd (pk t105 t109 (.bool false)) fun t110 =>
 bd (gl t110 true (some (e.s k6 5))) fun t112 =>
 bc k6 [104, 105, 106, 107, 108, 109, 110, 111, 112, 113, 114, 115, 116, 4] e (gk t110 true h1 (K 32 [t112] h1)) fun t113 h2 =>
 bd (gl t110 true (some (e.s k6 7))) fun t114 =>
 bd (gl t110 true (binK 0 .eql t113 t114)) fun t115 =>
 bd (pk t110 t115 (.bool false)) fun t116 =>
 some ⟨.nm, ⟨[(e.s k6 0), (e.s k6 1), t116, (e.s k6 5), (e.s k6 6), (e.s k6 7), (e.s k6 8), (e.s k6 9), (e.s k6 10), (e.s k6 11), (e.s k6 13), (e.s k6 15), (e.s k6 16), (e.s k6 17), (e.s k6 18)], 4, t116⟩, h2⟩) fun e h =>
 some ⟨.rt, e, h⟩
noncomputable def f6 (K : Oracle) (L : Looper) (p0 p1 : V) (h : H) : Option (Rv × H) := fin Try.prog k6 [.tmp 4] (s6 K L ⟨[p0, p1, V.und, V.und, V.und, V.und, V.und, V.und, V.und, V.und, V.und, V.und, V.und, V.und, V.und], 0, p0⟩ h)
theorem r6 : (fun K L p0 p1 h => runFF Try.prog kp K L 6 [p0, p1] h) = f6 := by kernel_rfl
theorem c6 (p0 p1 : V) (h : H) : callZ Try.prog kp 6 [p0, p1] h = f6 (callZ Try.prog kp) loopZ p0 p1 h :=
  (callZ_eqF _ _ _ _ _).trans (congrFun (congrFun (congrFun (congrFun (congrFun (r6) _) _) p0) p1) h)

/-- zoetrope/zoetropelaw04.SymsLearn -/
@[simp] def k7 : List Nat := [0, 1, 2, 6, 7, 8, 9, 10, 11, 12, 14, 15, 16, 17, 18]
noncomputable def l7_0 (K : Oracle) (L : Looper) (e : E) (h : H) : Out :=
 sq (sq (bd (lnS (e.s k7 2)) fun t35 =>
 bd (binK 0 .lss (e.s k7 11) t35) fun t36 =>
 bd (gl t36 true (some (e.s k7 11))) fun t38 =>
 bd (gl t36 true (binK 0 .lss t38 (.int .i64 60))) fun t39 =>
 bd (pk t36 t39 (.bool false)) fun t40 =>
 some ⟨.nm, ⟨[(e.s k7 0), (e.s k7 1), (e.s k7 2), (e.s k7 6), (e.s k7 7), (e.s k7 8), (e.s k7 9), (e.s k7 10), (e.s k7 11), (e.s k7 12), (e.s k7 14), (e.s k7 15), (e.s k7 16), (e.s k7 17), (e.s k7 18)], 40, t40⟩, h⟩) fun e h =>
 br (e.s k7 40) (some ⟨.nm, e, h⟩)
 (some ⟨.ex 0, e, h⟩)) fun e h =>
 sq (blk 1 (sq (bd (fa 2 (e.s k7 7)) fun t43 =>
 bd (ld h t43) fun t44 =>
 bd (fa 3 (e.s k7 7)) fun t45 =>
 bd (ld h t45) fun t46 =>
 bd (iaS 1 (e.s k7 2) (e.s k7 11)) fun t49 =>
 bd (ld h t49) fun t50 =>
 bd (bl [(.bool false), (.int .i64 0), (.int .i64 0), (.int .i64 0), (.int .i64 0)] [(some (2, 1), t44), (some (3, 1), t46), (some (4, 1), t50)]) fun t51 =>
 bn (K 28 [t51] h) fun t52 h1 =>
 bd (fd1 4 t52) fun t53 =>
 ck (ld h t43) t44 (ck (ld h t45) t46 (ck (ld h t49) t50 (some ⟨.nm, ⟨[(e.s k7 0), (e.s k7 1), (e.s k7 2), (e.s k7 6), (e.s k7 7), (e.s k7 8), (e.s k7 9), (e.s k7 10), (e.s k7 11), t53, (e.s k7 14), (e.s k7 15), (e.s k7 16), (e.s k7 17), (e.s k7 18)], 12, t53⟩, h1⟩)))) fun e h =>
 sq (sq (bd (fa 2 (e.s k7 7)) fun t56 =>
 bd (ld h t56) fun t57 =>
 bd (fa 3 (e.s k7 7)) fun t58 =>
 bd (ld h t58) fun t59 =>
 bc k7 [55, 56, 57, 58, 59, 60, 61, 54, 62, 63, 13, 14] e (K 30 [(e.s k7 8), t57, t59, (e.s k7 12)] h) fun t61 h1 =>
 bd (exV t61 0) fun t62 =>
 bd (exV t61 1) fun t63 =>
 some ⟨.nm, ⟨[(e.s k7 0), (e.s k7 1), (e.s k7 2), (e.s k7 6), (e.s k7 7), (e.s k7 8), (e.s k7 9), (e.s k7 10), (e.s k7 11), (e.s k7 12), t63, (e.s k7 15), (e.s k7 16), (e.s k7 17), (e.s k7 18)], 14, t63⟩, h1⟩) fun e h =>
 sq (bd (binK 0 .neq (e.s k7 14) (.int .i64 0)) fun t65 =>
 some ⟨.nm, ⟨[(e.s k7 0), (e.s k7 1), (e.s k7 2), (e.s k7 6), (e.s k7 7), (e.s k7 8), (e.s k7 9), (e.s k7 10), (e.s k7 11), (e.s k7 12), (e.s k7 14), (e.s k7 15), (e.s k7 16), (e.s k7 17), (e.s k7 18)], 65, t65⟩, h⟩) fun e h =>
 br (e.s k7 65) (sq (some ⟨.nm, ⟨[(e.s k7 0), (e.s k7 1), (e.s k7 2), (.bool false), (e.s k7 7), (e.s k7 8), (e.s k7 9), (e.s k7 10), (e.s k7 11), (e.s k7 12), (e.s k7 14), (e.s k7 15), (e.s k7 16), (e.s k7 17), (e.s k7 18)], 6, (.bool false)⟩, h⟩) fun e h =>
 some ⟨.rt, e, h⟩)
 (some ⟨.nm, e, h⟩)) fun e h =>
 sq (bd (fa 0 (e.s k7 10)) fun t67 =>
 bd (ld h t67) fun t68 =>
 bd (fa 2 (e.s k7 7)) fun t69 =>
 bd (ld h t69) fun t70 =>
 bd (iaS 1 t68 t70) fun t71 =>
 bd (ld h t71) fun t72 =>
 bd (fa 3 (e.s k7 7)) fun t73 =>
 bd (ld h t73) fun t74 =>
 bd (iaS 2 t72 t74) fun t75 =>
 bd (ldn 2 h t75) fun t76 =>
 bn (K 35 [t76, (e.s k7 12)] h) fun t78 h1 =>
 bd (exV t78 0) fun t79 =>
 bf (nw h1 72 [.nils, (.int .i64 0)]) fun t15 h2 =>
 bf (stZ 2 h2 t15 t79) fun _ h3 =>
 bd (exV t78 1) fun t80 =>
 ck (ld h t67) t68 (ck (ld h t69) t70 (ck (ld h t71) t72 (ck (ld h t73) t74 (ck (ldn 2 h t75) t76 (some ⟨.nm, ⟨[(e.s k7 0), (e.s k7 1), (e.s k7 2), (e.s k7 6), (e.s k7 7), (e.s k7 8), (e.s k7 9), (e.s k7 10), (e.s k7 11), (e.s k7 12), (e.s k7 14), t15, t80, (e.s k7 17), (e.s k7 18)], 16, t80⟩, h3⟩)))))) fun e h =>
 sq (sq (bd (binK 0 .neq (e.s k7 16) (.int .i64 0)) fun t82 =>
 some ⟨.nm, ⟨[(e.s k7 0), (e.s k7 1), (e.s k7 2), (e.s k7 6), (e.s k7 7), (e.s k7 8), (e.s k7 9), (e.s k7 10), (e.s k7 11), (e.s k7 12), (e.s k7 14), (e.s k7 15), (e.s k7 16), (e.s k7 17), (e.s k7 18)], 82, t82⟩, h⟩) fun e h =>
 br (e.s k7 82) (sq (some ⟨.nm, ⟨[(e.s k7 0), (e.s k7 1), (e.s k7 2), (.bool false), (e.s k7 7), (e.s k7 8), (e.s k7 9), (e.s k7 10), (e.s k7 11), (e.s k7 12), (e.s k7 14), (e.s k7 15), (e.s k7 16), (e.s k7 17), (e.s k7 18)], 6, (.bool false)⟩, h⟩) fun e h =>
 some ⟨.rt, e, h⟩)
 (some ⟨.nm, e, h⟩)) fun e h =>
 bd (fa 0 (e.s k7 10)) fun t83 =>
 bd (ld h t83) fun t84 =>
 bd (fa 2 (e.s k7 7)) fun t85 =>
 bd (ld h t85) fun t86 =>
 bd (iaS 1 t84 t86) fun t87 =>
 bd (ld h t87) fun t88 =>
 bd (fa 3 (e.s k7 7)) fun t89 =>
 bd (ld h t89) fun t90 =>
 bd (ldn 2 h (e.s k7 15)) fun t91 =>
 bd (iaS 2 t88 t90) fun t92 =>
 bf (stZ 2 h t92 t91) fun _ h1 =>
 ck (ld h t83) t84 (ck (ld h t85) t86 (ck (ld h t87) t88 (ck (ld h t89) t90 (ck (ldn 2 h (e.s k7 15)) t91 (some ⟨.nm, ⟨[(e.s k7 0), (e.s k7 1), (e.s k7 2), (e.s k7 6), (e.s k7 7), (e.s k7 8), (e.s k7 9), (e.s k7 10), (e.s k7 11), (e.s k7 12), (e.s k7 14), (e.s k7 15), (e.s k7 16), (e.s k7 17), (e.s k7 18)], 0, (e.s k7 0)⟩, h1⟩))))))) fun e h =>
 bd (binK 0 .add (e.s k7 11) (.int .i64 1)) fun t42 =>
 some ⟨.nm, ⟨[(e.s k7 0), (e.s k7 1), (e.s k7 2), (e.s k7 6), (e.s k7 7), (e.s k7 8), (e.s k7 9), (e.s k7 10), t42, (e.s k7 12), (e.s k7 14), (e.s k7 15), (e.s k7 16), (e.s k7 17), (e.s k7 18)], 11, t42⟩, h⟩
noncomputable def s7 (K : Oracle) (L : Looper) (e : E) (h : H) : Out :=
 sq (some ⟨.nm, ⟨[(e.s k7 0), (e.s k7 1), (e.s k7 2), (.bool false), (e.s k7 7), (e.s k7 8), (e.s k7 9), (e.s k7 10), (e.s k7 11), (e.s k7 12), (e.s k7 14), (e.s k7 15), (e.s k7 16), (e.s k7 17), (e.s k7 18)], 6, (.bool false)⟩, h⟩) fun e h =>
 sq (sq (bc k7 [19, 20] e (K 22 [] h) fun t19 h1 =>
 bd (unV .not t19) fun t20 =>
 some ⟨.nm, ⟨[(e.s k7 0), (e.s k7 1), (e.s k7 2), (e.s k7 6), (e.s k7 7), (e.s k7 8), (e.s k7 9), (e.s k7 10), (e.s k7 11), (e.s k7 12), (e.s k7 14), (e.s k7 15), (e.s k7 16), (e.s k7 17), (e.s k7 18)], 20, t20⟩, h1⟩) fun e h =>
 br (e.s k7 20) (sq (some ⟨.nm, ⟨[(e.s k7 0), (e.s k7 1), (e.s k7 2), (.bool false), (e.s k7 7), (e.s k7 8), (e.s k7 9), (e.s k7 10), (e.s k7 11), (e.s k7 12), (e.s k7 14), (e.s k7 15), (e.s k7 16), (e.s k7 17), (e.s k7 18)], 6, (.bool false)⟩, h⟩) fun e h =>
 some ⟨.rt, e, h⟩)
 (some ⟨.nm, e, h⟩)) fun e h =>
 sq (bd (bl [(.bool false), (.int .i64 0), (.int .i64 0), (.int .i64 0), (.int .i64 0)] [(some (2, 1), (e.s k7 0)), (some (3, 1), (e.s k7 1))]) fun t23 =>
 bc k7 [21, 22, 23, 24, 7] e (K 28 [t23] h) fun t24 h1 =>
 bf (nw h1 43 [(.bool false), (.int .i64 0), (.int .i64 0), (.int .i64 0), (.int .i64 0)]) fun t7 h2 =>
 bf (stZ 5 h2 t7 t24) fun _ h3 =>
 some ⟨.nm, ⟨[(e.s k7 0), (e.s k7 1), (e.s k7 2), (e.s k7 6), t7, (e.s k7 8), (e.s k7 9), (e.s k7 10), (e.s k7 11), (e.s k7 12), (e.s k7 14), (e.s k7 15), (e.s k7 16), (e.s k7 17), (e.s k7 18)], 0, (e.s k7 0)⟩, h3⟩) fun e h =>
 sq (bc k7 [26, 27, 25, 28, 29, 8, 9] e (K 27 [] h) fun t26 h1 =>
 bc k7 [26, 27, 25, 28, 29, 8, 9] e (K 12 [t26, (.bool true)] h1) fun t27 h2 =>
 bd (exV t27 0) fun t28 =>
 bd (exV t27 1) fun t29 =>
 some ⟨.nm, ⟨[(e.s k7 0), (e.s k7 1), (e.s k7 2), (e.s k7 6), (e.s k7 7), t28, t29, (e.s k7 10), (e.s k7 11), (e.s k7 12), (e.s k7 14), (e.s k7 15), (e.s k7 16), (e.s k7 17), (e.s k7 18)], 9, t29⟩, h2⟩) fun e h =>
 sq (sq (bd (binK 0 .neq (e.s k7 9) (.int .i64 0)) fun t31 =>
 some ⟨.nm, ⟨[(e.s k7 0), (e.s k7 1), (e.s k7 2), (e.s k7 6), (e.s k7 7), (e.s k7 8), (e.s k7 9), (e.s k7 10), (e.s k7 11), (e.s k7 12), (e.s k7 14), (e.s k7 15), (e.s k7 16), (e.s k7 17), (e.s k7 18)], 31, t31⟩, h⟩) fun e h =>
 br (e.s k7 31) (sq (some ⟨.nm, ⟨[(e.s k7 0), (e.s k7 1), (e.s k7 2), (.bool false), (e.s k7 7), (e.s k7 8), (e.s k7 9), (e.s k7 10), (e.s k7 11), (e.s k7 12), (e.s k7 14), (e.s k7 15), (e.s k7 16), (e.s k7 17), (e.s k7 18)], 6, (.bool false)⟩, h⟩) fun e h =>
 some ⟨.rt, e, h⟩)
 (some ⟨.nm, e, h⟩)) fun e h =>
 sq (bc k7 [32, 10] e (K 27 [] h) fun t32 h1 =>
 bf (nw h1 25 [.nils]) fun t10 h2 =>
 bf (stZ 1 h2 t10 t32) fun _ h3 =>
 some ⟨.nm, ⟨[(e.s k7 0), (e.s k7 1), (e.s k7 2), (e.s k7 6), (e.s k7 7), (e.s k7 8), (e.s k7 9), t10, (e.s k7 11), (e.s k7 12), (e.s k7 14), (e.s k7 15), (e.s k7 16), (e.s k7 17), (e.s k7 18)], 0, (e.s k7 0)⟩, h3⟩) fun e h =>
 sq (sq (some ⟨.nm, ⟨[(e.s k7 0), (e.s k7 1), (e.s k7 2), (e.s k7 6), (e.s k7 7), (e.s k7 8), (e.s k7 9), (e.s k7 10), (.int .i64 0), (e.s k7 12), (e.s k7 14), (e.s k7 15), (e.s k7 16), (e.s k7 17), (e.s k7 18)], 11, (.int .i64 0)⟩, h⟩) fun e h =>
 blk 0 (L (l7_0 K L) e h)) fun e h =>
 sq (bc k7 [94, 95, 93, 96, 97, 17, 18] e (K 17 [(e.s k7 8)] h) fun t95 h1 =>
 bd (exV t95 0) fun t96 =>
 bd (exV t95 1) fun t97 =>
 bf (nw h1 25 [.nils]) fun t17 h2 =>
 bf (stZ 1 h2 t17 t96) fun _ h3 =>
 some ⟨.nm, ⟨[(e.s k7 0), (e.s k7 1), (e.s k7 2), (e.s k7 6), (e.s k7 7), (e.s k7 8), (e.s k7 9), (e.s k7 10), (e.s k7 11), (e.s k7 12), (e.s k7 14), (e.s k7 15), (e.s k7 16), t17, t97], 18, t97⟩, h3⟩) fun e h =>
 sq (bd (binK 0 .eql (e.s k7 18) (.int .i64 0)) fun t99 =>
 bd (gl t99 true (ldn 1 h (e.s k7 17))) fun t101 =>
 bd (gl t99 true (ldn 1 h (e.s k7 10))) fun t102 =>
 bc k7 [98, 99, 100, 101, 102, 103, 104, 6] e (gk t99 true h (K 31 [t101, t102] h)) fun t103 h1 =>
 bd (pk t99 t103 (.bool false)) fun t104 =>
 some ⟨.nm, ⟨[(e.s k7 0), (e.s k7 1), (e.s k7 2), t104, (e.s k7 7), (e.s k7 8), (e.s k7 9), (e.s k7 10), (e.s k7 11), (e.s k7 12), (e.s k7 14), (e.s k7 15), (e.s k7 16), (e.s k7 17), (e.s k7 18)], 6, t104⟩, h1⟩) fun e h =>
 some ⟨.rt, e, h⟩
noncomputable def f7 (K : Oracle) (L : Looper) (p0 p1 p2 : V) (h : H) : Option (Rv × H) := fin Try.prog k7 [.tmp 6] (s7 K L ⟨[p0, p1, p2, V.und, V.und, V.und, V.und, V.und, V.und, V.und, V.und, V.und, V.und, V.und, V.und], 0, p0⟩ h)
theorem r7 : (fun K L p0 p1 p2 h => runFF Try.prog kp K L 7 [p0, p1, p2] h) = f7 := by kernel_rfl
theorem c7 (p0 p1 p2 : V) (h : H) : callZ Try.prog kp 7 [p0, p1, p2] h = f7 (callZ Try.prog kp) loopZ p0 p1 p2 h :=
  (callZ_eqF _ _ _ _ _).trans (congrFun (congrFun (congrFun (congrFun (congrFun (congrFun (r7) _) _) p0) p1) p2) h)

/-- zoetrope/zoetropelaw04.SymsSets -/
@[simp] def k8 : List Nat := [0, 1, 2, 5, 6, 7, 8, 9, 10, 11, 12, 13, 14, 15, 17, 19, 45]
noncomputable def s8 (K : Oracle) (L : Looper) (e : E) (h : H) : Out :=
 sq (bf (bx h 77 (e.s k8 2)) fun t5 h1 =>
 some ⟨.nm, ⟨[(e.s k8 0), (e.s k8 1), (e.s k8 2), t5, (.bool false), (e.s k8 7), (e.s k8 8), (e.s k8 9), (e.s k8 10), (e.s k8 11), (e.s k8 12), (e.s k8 13), (e.s k8 14), (e.s k8 15), (e.s k8 17), (e.s k8 19), (e.s k8 45)], 6, (.bool false)⟩, h1⟩) fun e h =>
 sq (bc k8 [20, 21, 22, 23, 7, 8] e (K 10 [(e.s k8 0)] h) fun t21 h1 =>
 bc k8 [20, 21, 22, 23, 7, 8] e (K 10 [(e.s k8 1)] h1) fun t23 h2 =>
 bf (nw h2 25 [.nils]) fun t7 h3 =>
 bf (nw h3 25 [.nils]) fun t8 h4 =>
 bf (stZ 1 h4 t7 t21) fun _ h5 =>
 bf (stZ 1 h5 t8 t23) fun _ h6 =>
 some ⟨.nm, ⟨[(e.s k8 0), (e.s k8 1), (e.s k8 2), (e.s k8 5), (e.s k8 6), t7, t8, (e.s k8 9), (e.s k8 10), (e.s k8 11), (e.s k8 12), (e.s k8 13), (e.s k8 14), (e.s k8 15), (e.s k8 17), (e.s k8 19), (e.s k8 45)], 0, (e.s k8 0)⟩, h6⟩) fun e h =>
 sq (sq (bd (iaA 4 1 (e.s k8 5) (.int .i64 0)) fun t24 =>
 bd (ld h t24) fun t25 =>
 bc k8 [24, 25, 26, 27] e (K 36 [t25, (.int .i64 4)] h) fun t26 h1 =>
 bd (binK 0 .eql t26 (.int .i64 0)) fun t27 =>
 some ⟨.nm, ⟨[(e.s k8 0), (e.s k8 1), (e.s k8 2), (e.s k8 5), (e.s k8 6), (e.s k8 7), (e.s k8 8), (e.s k8 9), (e.s k8 10), (e.s k8 11), (e.s k8 12), (e.s k8 13), (e.s k8 14), (e.s k8 15), (e.s k8 17), (e.s k8 19), (e.s k8 45)], 27, t27⟩, h1⟩) fun e h =>
 br (e.s k8 27) (sq (bd (iaA 4 1 (e.s k8 5) (.int .i64 1)) fun t28 =>
 bd (ld h t28) fun t29 =>
 bd (fa 0 (e.s k8 8)) fun t30 =>
 bd (ld h t30) fun t31 =>
 bd (lnS t31) fun t32 =>
 bc k8 [28, 29, 30, 31, 32, 33, 9] e (K 36 [t29, t32] h) fun t33 h1 =>
 some ⟨.nm, ⟨[(e.s k8 0), (e.s k8 1), (e.s k8 2), (e.s k8 5), (e.s k8 6), (e.s k8 7), (e.s k8 8), t33, (e.s k8 10), (e.s k8 11), (e.s k8 12), (e.s k8 13), (e.s k8 14), (e.s k8 15), (e.s k8 17), (e.s k8 19), (e.s k8 45)], 9, t33⟩, h1⟩) fun e h =>
 sq (bd (iaA 4 1 (e.s k8 5) (.int .i64 2)) fun t34 =>
 bd (ld h t34) fun t35 =>
 bd (fa 0 (e.s k8 8)) fun t36 =>
 bd (ld h t36) fun t37 =>
 bd (iaS 1 t37 (e.s k8 9)) fun t39 =>
 bd (ld h t39) fun t40 =>
 bd (lnS t40) fun t41 =>
 bn (K 36 [t35, t41] h) fun t42 h1 =>
 ck (ld h t34) t35 (ck (ld h t36) t37 (ck (ld h t39) t40 (some ⟨.nm, ⟨[(e.s k8 0), (e.s k8 1), (e.s k8 2), (e.s k8 5), (e.s k8 6), (e.s k8 7), (e.s k8 8), (e.s k8 9), t42, (e.s k8 11), (e.s k8 12), (e.s k8 13), (e.s k8 14), (e.s k8 15), (e.s k8 17), (e.s k8 19), (e.s k8 45)], 10, t42⟩, h1⟩)))) fun e h =>
 sq (bd (iaA 4 1 (e.s k8 5) (.int .i64 3)) fun t43 =>
 bd (ld h t43) fun t44 =>
 bc k8 [43, 44, 45] e (K 36 [t44, (.int .i64 5)] h) fun t45 h1 =>
 some ⟨.nm, ⟨[(e.s k8 0), (e.s k8 1), (e.s k8 2), (e.s k8 5), (e.s k8 6), (e.s k8 7), (e.s k8 8), (e.s k8 9), (e.s k8 10), (e.s k8 11), (e.s k8 12), (e.s k8 13), (e.s k8 14), (e.s k8 15), (e.s k8 17), (e.s k8 19), t45], 45, t45⟩, h1⟩) fun e h =>
 blk 0 (sq (bd (binK 0 .eql (e.s k8 45) (.int .i64 0)) fun t52 =>
 some ⟨.nm, ⟨[(e.s k8 0), (e.s k8 1), (e.s k8 2), (e.s k8 5), (e.s k8 6), (e.s k8 7), (e.s k8 8), (e.s k8 9), (e.s k8 10), (e.s k8 11), (e.s k8 12), (e.s k8 13), (e.s k8 14), (e.s k8 15), (e.s k8 17), (e.s k8 19), (e.s k8 45)], 51, t52⟩, h⟩) fun e h =>
 br (e.s k8 51) (bd (fa 0 (e.s k8 8)) fun t53 =>
 bd (ld h t53) fun t54 =>
 bd (fa 0 (e.s k8 8)) fun t56 =>
 bd (ld h t56) fun t57 =>
 bd (iaS 1 t57 (e.s k8 9)) fun t59 =>
 bd (ld h t59) fun t60 =>
 bd (slS 2 t60 none (some (e.s k8 10)) none) fun t62 =>
 bd (iaS 1 t54 (e.s k8 9)) fun t63 =>
 bf (stZ 1 h t63 t62) fun _ h1 =>
 ck (ld h t53) t54 (ck (ld h t56) t57 (ck (ld h t59) t60 (some ⟨.nm, ⟨[(e.s k8 0), (e.s k8 1), (e.s k8 2), (e.s k8 5), (e.s k8 6), (e.s k8 7), (e.s k8 8), (e.s k8 9), (e.s k8 10), (e.s k8 11), (e.s k8 12), (e.s k8 13), (e.s k8 14), (e.s k8 15), (e.s k8 17), (e.s k8 19), (e.s k8 45)], 0, (e.s k8 0)⟩, h1⟩))))
 (sq (bd (binK 0 .eql (e.s k8 45) (.int .i64 1)) fun t65 =>
 some ⟨.nm, ⟨[(e.s k8 0), (e.s k8 1), (e.s k8 2), (e.s k8 5), (e.s k8 6), (e.s k8 7), (e.s k8 8), (e.s k8 9), (e.s k8 10), (e.s k8 11), (e.s k8 12), (e.s k8 13), (e.s k8 14), (e.s k8 15), (e.s k8 17), (e.s k8 19), (e.s k8 45)], 64, t65⟩, h⟩) fun e h =>
 br (e.s k8 64) (bd (fa 0 (e.s k8 8)) fun t66 =>
 bd (ld h t66) fun t67 =>
 bd (iaS 1 t67 (e.s k8 9)) fun t69 =>
 bd (ld h t69) fun t70 =>
 bd (fa 0 (e.s k8 8)) fun t72 =>
 bd (ld h t72) fun t73 =>
 bd (iaS 1 t73 (e.s k8 9)) fun t75 =>
 bd (ld h t75) fun t76 =>
 bd (iaS 2 t76 (e.s k8 10)) fun t78 =>
 bd (fa 0 t78) fun t79 =>
 bd (ld h t79) fun t80 =>
 bd (slS 1 t80 (some (.int .i64 1)) none none) fun t81 =>
 bd (iaS 2 t70 (e.s k8 10)) fun t82 =>
 bd (fa 0 t82) fun t83 =>
 bf (stZ 1 h t83 t81) fun _ h1 =>
 ck (ld h t66) t67 (ck (ld h t69) t70 (ck (ld h t72) t73 (ck (ld h t75) t76 (ck (ld h t79) t80 (some ⟨.nm, ⟨[(e.s k8 0), (e.s k8 1), (e.s k8 2), (e.s k8 5), (e.s k8 6), (e.s k8 7), (e.s k8 8), (e.s k8 9), (e.s k8 10), (e.s k8 11), (e.s k8 12), (e.s k8 13), (e.s k8 14), (e.s k8 15), (e.s k8 17), (e.s k8 19), (e.s k8 45)], 0, (e.s k8 0)⟩, h1⟩))))))
 (sq (bd (binK 0 .eql (e.s k8 45) (.int .i64 2)) fun t85 =>
 some ⟨.nm, ⟨[(e.s k8 0), (e.s k8 1), (e.s k8 2), (e.s k8 5), (e.s k8 6), (e.s k8 7), (e.s k8 8), (e.s k8 9), (e.s k8 10), (e.s k8 11), (e.s k8 12), (e.s k8 13), (e.s k8 14), (e.s k8 15), (e.s k8 17), (e.s k8 19), (e.s k8 45)], 84, t85⟩, h⟩) fun e h =>
 br (e.s k8 84) (bd (fa 0 (e.s k8 8)) fun t86 =>
 bd (ld h t86) fun t87 =>
 bd (iaS 1 t87 (e.s k8 9)) fun t89 =>
 bd (ld h t89) fun t90 =>
 bd (iaS 2 t90 (e.s k8 10)) fun t92 =>
 bd (fa 1 t92) fun t93 =>
 bf (stZ 1 h t93 (.int .i64 33)) fun _ h1 =>
 some ⟨.nm, ⟨[(e.s k8 0), (e.s k8 1), (e.s k8 2), (e.s k8 5), (e.s k8 6), (e.s k8 7), (e.s k8 8), (e.s k8 9), (e.s k8 10), (e.s k8 11), (e.s k8 12), (e.s k8 13), (e.s k8 14), (e.s k8 15), (e.s k8 17), (e.s k8 19), (e.s k8 45)], 0, (e.s k8 0)⟩, h1⟩)
 (sq (bd (binK 0 .eql (e.s k8 45) (.int .i64 3)) fun t95 =>
 some ⟨.nm, ⟨[(e.s k8 0), (e.s k8 1), (e.s k8 2), (e.s k8 5), (e.s k8 6), (e.s k8 7), (e.s k8 8), (e.s k8 9), (e.s k8 10), (e.s k8 11), (e.s k8 12), (e.s k8 13), (e.s k8 14), (e.s k8 15), (e.s k8 17), (e.s k8 19), (e.s k8 45)], 94, t95⟩, h⟩) fun e h =>
 br (e.s k8 94) (bd (fa 0 (e.s k8 8)) fun t96 =>
 bd (ld h t96) fun t97 =>
 bd (iaS 1 t97 (e.s k8 9)) fun t99 =>
 bd (ld h t99) fun t100 =>
 bd (iaS 2 t100 (e.s k8 10)) fun t102 =>
 bd (fa 0 t102) fun t103 =>
 bd (ld h t103) fun t104 =>
 bd (iaS 1 t104 (.int .i64 0)) fun t105 =>
 bf (stZ 1 h t105 (.int .u16 32769)) fun _ h1 =>
 some ⟨.nm, ⟨[(e.s k8 0), (e.s k8 1), (e.s k8 2), (e.s k8 5), (e.s k8 6), (e.s k8 7), (e.s k8 8), (e.s k8 9), (e.s k8 10), (e.s k8 11), (e.s k8 12), (e.s k8 13), (e.s k8 14), (e.s k8 15), (e.s k8 17), (e.s k8 19), (e.s k8 45)], 0, (e.s k8 0)⟩, h1⟩)
 (bd (fa 0 (e.s k8 8)) fun t46 =>
 bd (ld h t46) fun t47 =>
 bd (slS 1 t47 none (some (e.s k8 9)) none) fun t49 =>
 bd (fa 0 (e.s k8 8)) fun t50 =>
 bf (stZ 1 h t50 t49) fun _ h1 =>
 some ⟨.nm, ⟨[(e.s k8 0), (e.s k8 1), (e.s k8 2), (e.s k8 5), (e.s k8 6), (e.s k8 7), (e.s k8 8), (e.s k8 9), (e.s k8 10), (e.s k8 11), (e.s k8 12), (e.s k8 13), (e.s k8 14), (e.s k8 15), (e.s k8 17), (e.s k8 19), (e.s k8 45)], 0, (e.s k8 0)⟩, h1⟩))))))
 (some ⟨.nm, e, h⟩)) fun e h =>
 sq (bd (ldn 1 h (e.s k8 8)) fun t106 =>
 bc k8 [106, 107, 11] e (K 11 [t106] h) fun t107 h1 =>
 bf (nw h1 25 [.nils]) fun t11 h2 =>
 bf (stZ 1 h2 t11 t107) fun _ h3 =>
 some ⟨.nm, ⟨[(e.s k8 0), (e.s k8 1), (e.s k8 2), (e.s k8 5), (e.s k8 6), (e.s k8 7), (e.s k8 8), (e.s k8 9), (e.s k8 10), t11, (e.s k8 12), (e.s k8 13), (e.s k8 14), (e.s k8 15), (e.s k8 17), (e.s k8 19), (e.s k8 45)], 0, (e.s k8 0)⟩, h3⟩) fun e h =>
 sq (sq (bd (ldn 1 h (e.s k8 11)) fun t108 =>
 bn (K 34 [t108] h) fun t109 h1 =>
 bd (ldn 1 h1 (e.s k8 8)) fun t110 =>
 bn (K 37 [t110] h1) fun t111 h2 =>
 bd (binK 0 .neq t109 t111) fun t112 =>
 bd (gl t112 false (ldn 1 h2 (e.s k8 7))) fun t114 =>
 bn (gk t112 false h2 (K 34 [t114] h2)) fun t115 h3 =>
 bd (gl t112 false (binK 0 .neq t115 (.int .i64 0))) fun t116 =>
 bd (pk t112 (.bool true) t116) fun t117 =>
 bd (gl t117 false (ldn 1 h3 (e.s k8 11))) fun t119 =>
 bn (gk t117 false h3 (K 38 [t119] h3)) fun t120 h4 =>
 bd (gl t117 false (ldn 1 h4 (e.s k8 8))) fun t121 =>
 bn (gk t117 false h4 (K 15 [t120, t121] h4)) fun t122 h5 =>
 bd (gl t117 false (unV .not t122)) fun t123 =>
 bd (pk t117 (.bool true) t123) fun t124 =>
 ck (ldn 1 h (e.s k8 11)) t108 (ck (ldn 1 h (e.s k8 8)) t110 (ck (ldn 1 h1 (e.s k8 8)) t110 (ck (gl t112 false (ldn 1 h2 (e.s k8 7))) t114 (ck (gl t117 false (ldn 1 h3 (e.s k8 11))) t119 (ck (gl t117 false (ldn 1 h3 (e.s k8 8))) t121 (ck (gl t117 false (ldn 1 h4 (e.s k8 8))) t121 (some ⟨.nm, ⟨[(e.s k8 0), (e.s k8 1), (e.s k8 2), (e.s k8 5), (e.s k8 6), (e.s k8 7), (e.s k8 8), (e.s k8 9), (e.s k8 10), (e.s k8 11), (e.s k8 12), (e.s k8 13), (e.s k8 14), (e.s k8 15), (e.s k8 17), (e.s k8 19), (e.s k8 45)], 124, t124⟩, h5⟩)))))))) fun e h =>
 br (e.s k8 124) (sq (some ⟨.nm, ⟨[(e.s k8 0), (e.s k8 1), (e.s k8 2), (e.s k8 5), (.bool false), (e.s k8 7), (e.s k8 8), (e.s k8 9), (e.s k8 10), (e.s k8 11), (e.s k8 12), (e.s k8 13), (e.s k8 14), (e.s k8 15), (e.s k8 17), (e.s k8 19), (e.s k8 45)], 6, (.bool false)⟩, h⟩) fun e h =>
 some ⟨.rt, e, h⟩)
 (some ⟨.nm, e, h⟩)) fun e h =>
 sq (bd (ldn 1 h (e.s k8 7)) fun t126 =>
 bd (ldn 1 h (e.s k8 11)) fun t127 =>
 bd (ldn 1 h (e.s k8 7)) fun t128 =>
 bf (bs h 25 3 [.nils, .nils, .nils] [(some (0, 1), t126), (some (1, 1), t127), (some (2, 1), t128)]) fun t129 h1 =>
 bc k8 [126, 127, 128, 129, 130, 125, 131, 132, 12, 13] e (K 39 [t129] h1) fun t130 h2 =>
 bd (exV t130 0) fun t131 =>
 bd (exV t130 1) fun t132 =>
 bf (nw h2 25 [.nils]) fun t12 h3 =>
 bf (stZ 1 h3 t12 t131) fun _ h4 =>
 some ⟨.nm, ⟨[(e.s k8 0), (e.s k8 1), (e.s k8 2), (e.s k8 5), (e.s k8 6), (e.s k8 7), (e.s k8 8), (e.s k8 9), (e.s k8 10), (e.s k8 11), t12, t132, (e.s k8 14), (e.s k8 15), (e.s k8 17), (e.s k8 19), (e.s k8 45)], 13, t132⟩, h4⟩) fun e h =>
 sq (bd (ldn 1 h (e.s k8 7)) fun t134 =>
 bd (ldn 1 h (e.s k8 8)) fun t135 =>
 bd (ldn 1 h (e.s k8 7)) fun t136 =>
 bf (bs h 25 3 [.nils, .nils, .nils] [(some (0, 1), t134), (some (1, 1), t135), (some (2, 1), t136)]) fun t137 h1 =>
 bc k8 [134, 135, 136, 137, 138, 133, 139, 140, 14, 15] e (K 40 [t137] h1) fun t138 h2 =>
 bd (exV t138 0) fun t139 =>
 bd (exV t138 1) fun t140 =>
 bf (nw h2 25 [.nils]) fun t14 h3 =>
 bf (stZ 1 h3 t14 t139) fun _ h4 =>
 some ⟨.nm, ⟨[(e.s k8 0), (e.s k8 1), (e.s k8 2), (e.s k8 5), (e.s k8 6), (e.s k8 7), (e.s k8 8), (e.s k8 9), (e.s k8 10), (e.s k8 11), (e.s k8 12), (e.s k8 13), t14, t140, (e.s k8 17), (e.s k8 19), (e.s k8 45)], 15, t140⟩, h4⟩) fun e h =>
 sq (bd (ldn 1 h (e.s k8 11)) fun t142 =>
 bc k8 [142, 143, 141, 144, 145, 16, 17] e (K 12 [t142, (.bool true)] h) fun t143 h1 =>
 bd (exV t143 0) fun t144 =>
 bd (exV t143 1) fun t145 =>
 some ⟨.nm, ⟨[(e.s k8 0), (e.s k8 1), (e.s k8 2), (e.s k8 5), (e.s k8 6), (e.s k8 7), (e.s k8 8), (e.s k8 9), (e.s k8 10), (e.s k8 11), (e.s k8 12), (e.s k8 13), (e.s k8 14), (e.s k8 15), t145, (e.s k8 19), (e.s k8 45)], 17, t145⟩, h1⟩) fun e h =>
 sq (bd (ldn 1 h (e.s k8 8)) fun t147 =>
 bc k8 [147, 148, 146, 149, 150, 18, 19] e (K 13 [t147, (.bool true)] h) fun t148 h1 =>
 bd (exV t148 0) fun t149 =>
 bd (exV t148 1) fun t150 =>
 some ⟨.nm, ⟨[(e.s k8 0), (e.s k8 1), (e.s k8 2), (e.s k8 5), (e.s k8 6), (e.s k8 7), (e.s k8 8), (e.s k8 9), (e.s k8 10), (e.s k8 11), (e.s k8 12), (e.s k8 13), (e.s k8 14), (e.s k8 15), (e.s k8 17), t150, (e.s k8 45)], 19, t150⟩, h1⟩) fun e h =>
 sq (bd (binK 0 .eql (e.s k8 13) (e.s k8 15)) fun t153 =>
 bd (gl t153 true (some (e.s k8 17))) fun t155 =>
 bd (gl t153 true (some (e.s k8 19))) fun t156 =>
 bd (gl t153 true (binK 0 .eql t155 t156)) fun t157 =>
 bd (pk t153 t157 (.bool false)) fun t158 =>
 bd (gl t158 true (ldn 1 h (e.s k8 12))) fun t160 =>
 bd (gl t158 true (ldn 1 h (e.s k8 14))) fun t161 =>
 bc k8 [151, 152, 153, 154, 155, 156, 157, 158, 159, 160, 161, 162, 163, 164, 165, 166, 167, 168, 169, 170, 171, 6] e (gk t158 true h (K 15 [t160, t161] h)) fun t162 h1 =>
 bd (pk t158 t162 (.bool false)) fun t163 =>
 bd (gl t163 true (ldn 1 h1 (e.s k8 11))) fun t165 =>
 bd (gl t163 true (ldn 1 h1 (e.s k8 8))) fun t166 =>
 bc k8 [151, 152, 153, 154, 155, 156, 157, 158, 159, 160, 161, 162, 163, 164, 165, 166, 167, 168, 169, 170, 171, 6] e (gk t163 true h1 (K 15 [t165, t166] h1)) fun t167 h2 =>
 bd (pk t163 t167 (.bool false)) fun t168 =>
 bc k8 [151, 152, 153, 154, 155, 156, 157, 158, 159, 160, 161, 162, 163, 164, 165, 166, 167, 168, 169, 170, 171, 6] e (gk t168 true h2 (K 22 [] h2)) fun t170 h3 =>
 bd (pk t168 t170 (.bool false)) fun t171 =>
 some ⟨.nm, ⟨[(e.s k8 0), (e.s k8 1), (e.s k8 2), (e.s k8 5), t171, (e.s k8 7), (e.s k8 8), (e.s k8 9), (e.s k8 10), (e.s k8 11), (e.s k8 12), (e.s k8 13), (e.s k8 14), (e.s k8 15), (e.s k8 17), (e.s k8 19), (e.s k8 45)], 6, t171⟩, h3⟩) fun e h =>
 some ⟨.rt, e, h⟩
noncomputable def f8 (K : Oracle) (L : Looper) (p0 p1 p2 : V) (h : H) : Option (Rv × H) := fin Try.prog k8 [.tmp 6] (s8 K L ⟨[p0, p1, p2, V.und, V.und, V.und, V.und, V.und, V.und, V.und, V.und, V.und, V.und, V.und, V.und, V.und, V.und], 0, p0⟩ h)
theorem r8 : (fun K L p0 p1 p2 h => runFF Try.prog kp K L 8 [p0, p1, p2] h) = f8 := by kernel_rfl
theorem c8 (p0 p1 p2 : V) (h : H) : callZ Try.prog kp 8 [p0, p1, p2] h = f8 (callZ Try.prog kp) loopZ p0 p1 p2 h :=
  (callZ_eqF _ _ _ _ _).trans (congrFun (congrFun (congrFun (congrFun (congrFun (congrFun (r8) _) _) p0) p1) p2) h)

/-- zoetrope/zoetropelaw04.SymsNames -/
@[simp] def k9 : List Nat := [0, 1, 2, 3, 4, 5, 6, 7, 8, 9, 10, 11, 12, 13, 14, 15, 18, 21, 23, 25, 27, 28]
noncomputable def l9_0 (K : Oracle) (L : Looper) (e : E) (h : H) : Out :=
 sq (sq (bd (binK 0 .lss (e.s k9 2) (.int .i64 2)) fun t30 =>
 some ⟨.nm, ⟨[(e.s k9 0), (e.s k9 1), (e.s k9 2), (e.s k9 3), (e.s k9 4), (e.s k9 5), (e.s k9 6), (e.s k9 7), (e.s k9 8), (e.s k9 9), (e.s k9 10), (e.s k9 11), (e.s k9 12), (e.s k9 13), (e.s k9 14), (e.s k9 15), (e.s k9 18), (e.s k9 21), (e.s k9 23), (e.s k9 25), (e.s k9 27), (e.s k9 28)], 30, t30⟩, h⟩) fun e h =>
 br (e.s k9 30) (some ⟨.nm, e, h⟩)
 (some ⟨.ex 0, e, h⟩)) fun e h =>
 sq (blk 1 (sq (bc k9 [34, 35, 33, 36, 37, 3, 4] e (K 30 [(e.s k9 1), (.int .i64 (-1)), (.int .i64 (-1)), (.int .i64 (-1))] h) fun t35 h1 =>
 bd (exV t35 0) fun t36 =>
 bd (exV t35 1) fun t37 =>
 some ⟨.nm, ⟨[(e.s k9 0), (e.s k9 1), (e.s k9 2), t36, t37, (e.s k9 5), (e.s k9 6), (e.s k9 7), (e.s k9 8), (e.s k9 9), (e.s k9 10), (e.s k9 11), (e.s k9 12), (e.s k9 13), (e.s k9 14), (e.s k9 15), (e.s k9 18), (e.s k9 21), (e.s k9 23), (e.s k9 25), (e.s k9 27), (e.s k9 28)], 4, t37⟩, h1⟩) fun e h =>
 sq (bc k9 [39, 40, 38, 41, 42, 5, 6] e (K 29 [(e.s k9 1), (.int .i64 (-1)), (.int .i64 0)] h) fun t40 h1 =>
 bd (exV t40 0) fun t41 =>
 bd (exV t40 1) fun t42 =>
 some ⟨.nm, ⟨[(e.s k9 0), (e.s k9 1), (e.s k9 2), (e.s k9 3), (e.s k9 4), t41, t42, (e.s k9 7), (e.s k9 8), (e.s k9 9), (e.s k9 10), (e.s k9 11), (e.s k9 12), (e.s k9 13), (e.s k9 14), (e.s k9 15), (e.s k9 18), (e.s k9 21), (e.s k9 23), (e.s k9 25), (e.s k9 27), (e.s k9 28)], 6, t42⟩, h1⟩) fun e h =>
 sq (bc k9 [44, 45, 43, 46, 47, 7, 8] e (K 17 [(e.s k9 1)] h) fun t45 h1 =>
 bd (exV t45 0) fun t46 =>
 bd (exV t45 1) fun t47 =>
 bf (nw h1 25 [.nils]) fun t7 h2 =>
 bf (stZ 1 h2 t7 t46) fun _ h3 =>
 some ⟨.nm, ⟨[(e.s k9 0), (e.s k9 1), (e.s k9 2), (e.s k9 3), (e.s k9 4), (e.s k9 5), (e.s k9 6), t7, t47, (e.s k9 9), (e.s k9 10), (e.s k9 11), (e.s k9 12), (e.s k9 13), (e.s k9 14), (e.s k9 15), (e.s k9 18), (e.s k9 21), (e.s k9 23), (e.s k9 25), (e.s k9 27), (e.s k9 28)], 8, t47⟩, h3⟩) fun e h =>
 sq (bc k9 [49, 50, 48, 51, 52, 9, 10] e (K 19 [(e.s k9 1)] h) fun t50 h1 =>
 bd (exV t50 0) fun t51 =>
 bd (exV t50 1) fun t52 =>
 some ⟨.nm, ⟨[(e.s k9 0), (e.s k9 1), (e.s k9 2), (e.s k9 3), (e.s k9 4), (e.s k9 5), (e.s k9 6), (e.s k9 7), (e.s k9 8), t51, t52, (e.s k9 11), (e.s k9 12), (e.s k9 13), (e.s k9 14), (e.s k9 15), (e.s k9 18), (e.s k9 21), (e.s k9 23), (e.s k9 25), (e.s k9 27), (e.s k9 28)], 10, t52⟩, h1⟩) fun e h =>
 sq (sq (bd (binK 0 .neq (e.s k9 3) (.int .i64 0)) fun t54 =>
 bd (gl t54 false (some (e.s k9 5))) fun t56 =>
 bd (gl t54 false (binK 0 .neq t56 (.int .i64 0))) fun t57 =>
 bd (pk t54 (.bool true) t57) fun t58 =>
 bd (gl t58 false (fa 0 (e.s k9 7))) fun t60 =>
 bd (gl t58 false (ld h t60)) fun t61 =>
 bd (gl t58 false (lnS t61)) fun t62 =>
 bd (gl t58 false (binK 0 .neq t62 (.int .i64 0))) fun t63 =>
 bd (pk t58 (.bool true) t63) fun t64 =>
 bd (gl t64 false (some (e.s k9 9))) fun t66 =>
 bd (gl t64 false (lnS t66)) fun t67 =>
 bd (gl t64 false (binK 0 .neq t67 (.int .i64 0))) fun t68 =>
 bd (pk t64 (.bool true) t68) fun t69 =>
 bd (gl t69 false (some (e.s k9 4))) fun t71 =>
 bd (gl t69 false (binK 0 .neq t71 (.int .i64 1))) fun t72 =>
 bd (pk t69 (.bool true) t72) fun t73 =>
 bd (gl t73 false (some (e.s k9 6))) fun t75 =>
 bd (gl t73 false (binK 0 .neq t75 (.int .i64 1))) fun t76 =>
 bd (pk t73 (.bool true) t76) fun t77 =>
 bd (gl t77 false (some (e.s k9 8))) fun t79 =>
 bd (gl t77 false (binK 0 .neq t79 (.int .i64 1))) fun t80 =>
 bd (pk t77 (.bool true) t80) fun t81 =>
 bd (gl t81 false (some (e.s k9 10))) fun t83 =>
 bd (gl t81 false (binK 0 .neq t83 (.int .i64 1))) fun t84 =>
 bd (pk t81 (.bool true) t84) fun t85 =>
 bd (gl t85 false (some (e.s k9 1))) fun t87 =>
 bc k9 [53, 54, 55, 56, 57, 58, 59, 60, 61, 62, 63, 64, 65, 66, 67, 68, 69, 70, 71, 72, 73, 74, 75, 76, 77, 78, 79, 80, 81, 82, 83, 84, 85, 86, 87, 88, 89, 90, 91, 92, 93, 94] e (gk t85 false h (K 14 [t87] h)) fun t88 h1 =>
 bd (pk t85 (.bool true) t88) fun t89 =>
 bd (gl t89 false (some (e.s k9 1))) fun t91 =>
 bc k9 [53, 54, 55, 56, 57, 58, 59, 60, 61, 62, 63, 64, 65, 66, 67, 68, 69, 70, 71, 72, 73, 74, 75, 76, 77, 78, 79, 80, 81, 82, 83, 84, 85, 86, 87, 88, 89, 90, 91, 92, 93, 94] e (gk t89 false h1 (K 32 [t91] h1)) fun t92 h2 =>
 bd (gl t89 false (binK 0 .neq t92 (.int .i64 0))) fun t93 =>
 bd (pk t89 (.bool true) t93) fun t94 =>
 some ⟨.nm, ⟨[(e.s k9 0), (e.s k9 1), (e.s k9 2), (e.s k9 3), (e.s k9 4), (e.s k9 5), (e.s k9 6), (e.s k9 7), (e.s k9 8), (e.s k9 9), (e.s k9 10), (e.s k9 11), (e.s k9 12), (e.s k9 13), (e.s k9 14), (e.s k9 15), (e.s k9 18), (e.s k9 21), (e.s k9 23), (e.s k9 25), (e.s k9 27), (e.s k9 28)], 94, t94⟩, h2⟩) fun e h =>
 br (e.s k9 94) (sq (some ⟨.nm, ⟨[(.bool false), (e.s k9 1), (e.s k9 2), (e.s k9 3), (e.s k9 4), (e.s k9 5), (e.s k9 6), (e.s k9 7), (e.s k9 8), (e.s k9 9), (e.s k9 10), (e.s k9 11), (e.s k9 12), (e.s k9 13), (e.s k9 14), (e.s k9 15), (e.s k9 18), (e.s k9 21), (e.s k9 23), (e.s k9 25), (e.s k9 27), (e.s k9 28)], 0, (.bool false)⟩, h⟩) fun e h =>
 some ⟨.rt, e, h⟩)
 (some ⟨.nm, e, h⟩)) fun e h =>
 bd (bl [.nilp, .nilp, .nils, (.bool false), (.int .i64 0)] []) fun t95 =>
 bf (bx h 84 t95) fun t96 h1 =>
 some ⟨.nm, ⟨[(e.s k9 0), t96, (e.s k9 2), (e.s k9 3), (e.s k9 4), (e.s k9 5), (e.s k9 6), (e.s k9 7), (e.s k9 8), (e.s k9 9), (e.s k9 10), (e.s k9 11), (e.s k9 12), (e.s k9 13), (e.s k9 14), (e.s k9 15), (e.s k9 18), (e.s k9 21), (e.s k9 23), (e.s k9 25), (e.s k9 27), (e.s k9 28)], 1, t96⟩, h1⟩)) fun e h =>
 bd (binK 0 .add (e.s k9 2) (.int .i64 1)) fun t32 =>
 some ⟨.nm, ⟨[(e.s k9 0), (e.s k9 1), t32, (e.s k9 3), (e.s k9 4), (e.s k9 5), (e.s k9 6), (e.s k9 7), (e.s k9 8), (e.s k9 9), (e.s k9 10), (e.s k9 11), (e.s k9 12), (e.s k9 13), (e.s k9 14), (e.s k9 15), (e.s k9 18), (e.s k9 21), (e.s k9 23), (e.s k9 25), (e.s k9 27), (e.s k9 28)], 2, t32⟩, h⟩
noncomputable def l9_1 (K : Oracle) (L : Looper) (e : E) (h : H) : Out :=
 sq (sq (bd (binK 0 .lss (e.s k9 12) (.int .i64 32)) fun t99 =>
 some ⟨.nm, ⟨[(e.s k9 0), (e.s k9 1), (e.s k9 2), (e.s k9 3), (e.s k9 4), (e.s k9 5), (e.s k9 6), (e.s k9 7), (e.s k9 8), (e.s k9 9), (e.s k9 10), (e.s k9 11), (e.s k9 12), (e.s k9 13), (e.s k9 14), (e.s k9 15), (e.s k9 18), (e.s k9 21), (e.s k9 23), (e.s k9 25), (e.s k9 27), (e.s k9 28)], 99, t99⟩, h⟩) fun e h =>
 br (e.s k9 99) (some ⟨.nm, e, h⟩)
 (some ⟨.ex 2, e, h⟩)) fun e h =>
 sq (blk 3 (sq (bc k9 [103, 104, 102, 105, 106, 107, 13, 14, 15] e (K 33 [(e.s k9 12)] h) fun t104 h1 =>
 bd (exV t104 0) fun t105 =>
 bd (exV t104 1) fun t106 =>
 bd (exV t104 2) fun t107 =>
 some ⟨.nm, ⟨[(e.s k9 0), (e.s k9 1), (e.s k9 2), (e.s k9 3), (e.s k9 4), (e.s k9 5), (e.s k9 6), (e.s k9 7), (e.s k9 8), (e.s k9 9), (e.s k9 10), (e.s k9 11), (e.s k9 12), t105, t106, t107, (e.s k9 18), (e.s k9 21), (e.s k9 23), (e.s k9 25), (e.s k9 27), (e.s k9 28)], 15, t107⟩, h1⟩) fun e h =>
 sq (bd (binK 0 .mul (.int .i64 2) (e.s k9 12)) fun t111 =>
 bd (iaS 1 (e.s k9 11) t111) fun t112 =>
 bd (ld h t112) fun t113 =>
 bd (binK 0 .neq (e.s k9 13) t113) fun t114 =>
 bd (gl t114 false (some (e.s k9 14))) fun t116 =>
 bd (gl t114 false (some (e.s k9 11))) fun t117 =>
 bd (gl t114 false (some (e.s k9 12))) fun t118 =>
 bd (gl t114 false (binK 0 .mul (.int .i64 2) t118)) fun t119 =>
 bd (gl t114 false (binK 0 .add t119 (.int .i64 1))) fun t120 =>
 bd (gl t114 false (iaS 1 t117 t120)) fun t121 =>
 bd (gl t114 false (ld h t121)) fun t122 =>
 bd (gl t114 false (binK 0 .neq t116 t122)) fun t123 =>
 bd (pk t114 (.bool true) t123) fun t124 =>
 bd (gl t124 false (some (e.s k9 15))) fun t126 =>
 bd (gl t124 false (binK 0 .neq t126 (.int .i64 0))) fun t127 =>
 bd (pk t124 (.bool true) t127) fun t128 =>
 some ⟨.nm, ⟨[(e.s k9 0), (e.s k9 1), (e.s k9 2), (e.s k9 3), (e.s k9 4), (e.s k9 5), (e.s k9 6), (e.s k9 7), (e.s k9 8), (e.s k9 9), (e.s k9 10), (e.s k9 11), (e.s k9 12), (e.s k9 13), (e.s k9 14), (e.s k9 15), (e.s k9 18), (e.s k9 21), (e.s k9 23), (e.s k9 25), (e.s k9 27), (e.s k9 28)], 128, t128⟩, h⟩) fun e h =>
 br (e.s k9 128) (sq (some ⟨.nm, ⟨[(.bool false), (e.s k9 1), (e.s k9 2), (e.s k9 3), (e.s k9 4), (e.s k9 5), (e.s k9 6), (e.s k9 7), (e.s k9 8), (e.s k9 9), (e.s k9 10), (e.s k9 11), (e.s k9 12), (e.s k9 13), (e.s k9 14), (e.s k9 15), (e.s k9 18), (e.s k9 21), (e.s k9 23), (e.s k9 25), (e.s k9 27), (e.s k9 28)], 0, (.bool false)⟩, h⟩) fun e h =>
 some ⟨.rt, e, h⟩)
 (some ⟨.nm, e, h⟩))) fun e h =>
 bd (binK 0 .add (e.s k9 12) (.int .i64 1)) fun t101 =>
 some ⟨.nm, ⟨[(e.s k9 0), (e.s k9 1), (e.s k9 2), (e.s k9 3), (e.s k9 4), (e.s k9 5), (e.s k9 6), (e.s k9 7), (e.s k9 8), (e.s k9 9), (e.s k9 10), (e.s k9 11), t101, (e.s k9 13), (e.s k9 14), (e.s k9 15), (e.s k9 18), (e.s k9 21), (e.s k9 23), (e.s k9 25), (e.s k9 27), (e.s k9 28)], 12, t101⟩, h⟩
noncomputable def s9 (K : Oracle) (L : Looper) (e : E) (h : H) : Out :=
 sq (some ⟨.nm, ⟨[(.bool false), (e.s k9 1), (e.s k9 2), (e.s k9 3), (e.s k9 4), (e.s k9 5), (e.s k9 6), (e.s k9 7), (e.s k9 8), (e.s k9 9), (e.s k9 10), (e.s k9 11), (e.s k9 12), (e.s k9 13), (e.s k9 14), (e.s k9 15), (e.s k9 18), (e.s k9 21), (e.s k9 23), (e.s k9 25), (e.s k9 27), (e.s k9 28)], 0, (.bool false)⟩, h⟩) fun e h =>
 sq (some ⟨.nm, ⟨[(e.s k9 0), .nilp, (e.s k9 2), (e.s k9 3), (e.s k9 4), (e.s k9 5), (e.s k9 6), (e.s k9 7), (e.s k9 8), (e.s k9 9), (e.s k9 10), (e.s k9 11), (e.s k9 12), (e.s k9 13), (e.s k9 14), (e.s k9 15), (e.s k9 18), (e.s k9 21), (e.s k9 23), (e.s k9 25), (e.s k9 27), (e.s k9 28)], 1, .nilp⟩, h⟩) fun e h =>
 sq (sq (some ⟨.nm, ⟨[(e.s k9 0), (e.s k9 1), (.int .i64 0), (e.s k9 3), (e.s k9 4), (e.s k9 5), (e.s k9 6), (e.s k9 7), (e.s k9 8), (e.s k9 9), (e.s k9 10), (e.s k9 11), (e.s k9 12), (e.s k9 13), (e.s k9 14), (e.s k9 15), (e.s k9 18), (e.s k9 21), (e.s k9 23), (e.s k9 25), (e.s k9 27), (e.s k9 28)], 2, (.int .i64 0)⟩, h⟩) fun e h =>
 blk 0 (L (l9_0 K L) e h)) fun e h =>
 sq (bf (bs h 3 64 (List.replicate 64 (.int .i64 0)) [(some (0, 1), (.int .i64 8)), (some (1, 1), (.int .i64 10)), (some (2, 1), (.int .i64 4)), (some (3, 1), (.int .i64 8)), (some (4, 1), (.int .i64 3)), (some (5, 1), (.int .i64 2)), (some (6, 1), (.int .i64 3)), (some (7, 1), (.int .i64 2)), (some (8, 1), (.int .i64 4)), (some (9, 1), (.int .i64 13)), (some (10, 1), (.int .i64 8)), (some (11, 1), (.int .i64 7)), (some (12, 1), (.int .i64 1)), (some (13, 1), (.int .i64 13)), (some (14, 1), (.int .i64 1)), (some (15, 1), (.int .i64 14)), (some (16, 1), (.int .i64 1)), (some (17, 1), (.int .i64 8)), (some (18, 1), (.int .i64 2)), (some (19, 1), (.int .i64 16)), (some (20, 1), (.int .i64 1)), (some (21, 1), (.int .i64 2)), (some (22, 1), (.int .i64 3)), (some (23, 1), (.int .i64 3)), (some (24, 1), (.int .i64 3)), (some (25, 1), (.int .i64 9)), (some (26, 1), (.int .i64 1)), (some (27, 1), (.int .i64 2)), (some (28, 1), (.int .i64 3)), (some (29, 1), (.int .i64 3)), (some (30, 1), (.int .i64 1)), (some (31, 1), (.int .i64 2)), (some (32, 1), (.int .i64 3)), (some (33, 1), (.int .i64 4)), (some (34, 1), (.int .i64 1)), (some (35, 1), (.int .i64 4)), (some (36, 1), (.int .i64 2)), (some (37, 1), (.int .i64 11)), (some (38, 1), (.int .i64 2)), (some (39, 1), (.int .i64 8)), (some (40, 1), (.int .i64 1)), (some (41, 1), (.int .i64 3)), (some (42, 1), (.int .i64 1)), (some (43, 1), (.int .i64 2)), (some (44, 1), (.int .i64 4)), (some (45, 1), (.int .i64 2)), (some (46, 1), (.int .i64 2)), (some (47, 1), (.int .i64 5)), (some (48, 1), (.int .i64 2)), (some (49, 1), (.int .i64 7)), (some (50, 1), (.int .i64 2)), (some (51, 1), (.int .i64 9)), (some (52, 1), (.int .i64 2)), (some (53, 1), (.int .i64 11)), (some (54, 1), (.int .i64 2)), (some (55, 1), (.int .i64 3)), (some (56, 1), (.int .i64 10)), (some (57, 1), (.int .i64 4)), (some (58, 1), (.int .i64 14)), (some (59, 1), (.int .i64 4)), (some (60, 1), (.int .i64 6)), (some (61, 1), (.int .i64 2)), (some (62, 1), (.int .i64 3)), (some (63, 1), (.int .i64 2))]) fun t97 h1 =>
 some ⟨.nm, ⟨[(e.s k9 0), (e.s k9 1), (e.s k9 2), (e.s k9 3), (e.s k9 4), (e.s k9 5), (e.s k9 6), (e.s k9 7), (e.s k9 8), (e.s k9 9), (e.s k9 10), t97, (e.s k9 12), (e.s k9 13), (e.s k9 14), (e.s k9 15), (e.s k9 18), (e.s k9 21), (e.s k9 23), (e.s k9 25), (e.s k9 27), (e.s k9 28)], 11, t97⟩, h1⟩) fun e h =>
 sq (sq (some ⟨.nm, ⟨[(e.s k9 0), (e.s k9 1), (e.s k9 2), (e.s k9 3), (e.s k9 4), (e.s k9 5), (e.s k9 6), (e.s k9 7), (e.s k9 8), (e.s k9 9), (e.s k9 10), (e.s k9 11), (.int .i64 0), (e.s k9 13), (e.s k9 14), (e.s k9 15), (e.s k9 18), (e.s k9 21), (e.s k9 23), (e.s k9 25), (e.s k9 27), (e.s k9 28)], 12, (.int .i64 0)⟩, h⟩) fun e h =>
 blk 2 (L (l9_1 K L) e h)) fun e h =>
 sq (bc k9 [130, 129, 131, 132, 133, 16, 17, 18] e (K 33 [(.int .i64 (-1))] h) fun t130 h1 =>
 bd (exV t130 0) fun t131 =>
 bd (exV t130 1) fun t132 =>
 bd (exV t130 2) fun t133 =>
 some ⟨.nm, ⟨[(e.s k9 0), (e.s k9 1), (e.s k9 2), (e.s k9 3), (e.s k9 4), (e.s k9 5), (e.s k9 6), (e.s k9 7), (e.s k9 8), (e.s k9 9), (e.s k9 10), (e.s k9 11), (e.s k9 12), (e.s k9 13), (e.s k9 14), (e.s k9 15), t133, (e.s k9 21), (e.s k9 23), (e.s k9 25), (e.s k9 27), (e.s k9 28)], 18, t133⟩, h1⟩) fun e h =>
 sq (bc k9 [135, 134, 136, 137, 138, 19, 20, 21] e (K 33 [(.int .i64 32)] h) fun t135 h1 =>
 bd (exV t135 0) fun t136 =>
 bd (exV t135 1) fun t137 =>
 bd (exV t135 2) fun t138 =>
 some ⟨.nm, ⟨[(e.s k9 0), (e.s k9 1), (e.s k9 2), (e.s k9 3), (e.s k9 4), (e.s k9 5), (e.s k9 6), (e.s k9 7), (e.s k9 8), (e.s k9 9), (e.s k9 10), (e.s k9 11), (e.s k9 12), (e.s k9 13), (e.s k9 14), (e.s k9 15), (e.s k9 18), t138, (e.s k9 23), (e.s k9 25), (e.s k9 27), (e.s k9 28)], 21, t138⟩, h1⟩) fun e h =>
 sq (bc k9 [140, 139, 141, 142, 22, 23] e (K 39 [.nils] h) fun t140 h1 =>
 bd (exV t140 0) fun t141 =>
 bd (exV t140 1) fun t142 =>
 bf (nw h1 25 [.nils]) fun t22 h2 =>
 bf (stZ 1 h2 t22 t141) fun _ h3 =>
 some ⟨.nm, ⟨[(e.s k9 0), (e.s k9 1), (e.s k9 2), (e.s k9 3), (e.s k9 4), (e.s k9 5), (e.s k9 6), (e.s k9 7), (e.s k9 8), (e.s k9 9), (e.s k9 10), (e.s k9 11), (e.s k9 12), (e.s k9 13), (e.s k9 14), (e.s k9 15), (e.s k9 18), (e.s k9 21), t142, (e.s k9 25), (e.s k9 27), (e.s k9 28)], 23, t142⟩, h3⟩) fun e h =>
 sq (bd (bl [.nils] []) fun t144 =>
 bc k9 [144, 145, 143, 146, 147, 24, 25] e (K 25 [.nils, t144, (.bool true)] h) fun t145 h1 =>
 bd (exV t145 0) fun t146 =>
 bd (exV t145 1) fun t147 =>
 some ⟨.nm, ⟨[(e.s k9 0), (e.s k9 1), (e.s k9 2), (e.s k9 3), (e.s k9 4), (e.s k9 5), (e.s k9 6), (e.s k9 7), (e.s k9 8), (e.s k9 9), (e.s k9 10), (e.s k9 11), (e.s k9 12), (e.s k9 13), (e.s k9 14), (e.s k9 15), (e.s k9 18), (e.s k9 21), (e.s k9 23), t147, (e.s k9 27), (e.s k9 28)], 25, t147⟩, h1⟩) fun e h =>
 sq (bf (ms h 75 24 [.nils] (.int .i64 32) (.int .i64 32)) fun t149 h1 =>
 bd (bl [.nils] [(some (0, 1), t149)]) fun t150 =>
 bc k9 [149, 150, 151, 148, 152, 153, 26, 27] e (K 12 [t150, (.bool true)] h1) fun t151 h2 =>
 bd (exV t151 0) fun t152 =>
 bd (exV t151 1) fun t153 =>
 some ⟨.nm, ⟨[(e.s k9 0), (e.s k9 1), (e.s k9 2), (e.s k9 3), (e.s k9 4), (e.s k9 5), (e.s k9 6), (e.s k9 7), (e.s k9 8), (e.s k9 9), (e.s k9 10), (e.s k9 11), (e.s k9 12), (e.s k9 13), (e.s k9 14), (e.s k9 15), (e.s k9 18), (e.s k9 21), (e.s k9 23), (e.s k9 25), t153, (e.s k9 28)], 27, t153⟩, h2⟩) fun e h =>
 sq (bd (bl [(.bool false), (.int .i64 0), (.int .i64 0), (.int .i64 0), (.int .i64 0)] [(some (2, 1), (.int .i64 32))]) fun t154 =>
 bd (bl [(.bool false), (.int .i64 0), (.int .i64 0), (.int .i64 0), (.int .i64 0)] [(some (2, 1), (.int .i64 (-1)))]) fun t155 =>
 bd (bl [(.bool false), (.int .i64 0), (.int .i64 0), (.int .i64 0), (.int .i64 0)] [(some (2, 1), (.int .i64 2)), (some (3, 1), (.int .i64 3))]) fun t156 =>
 bd (bl [(.bool false), (.int .i64 0), (.int .i64 0), (.int .i64 0), (.int .i64 0)] [(some (2, 1), (.int .i64 2)), (some (3, 1), (.int .i64 (-1)))]) fun t157 =>
 bd (bl [(.bool false), (.int .i64 0), (.int .i64 0), (.int .i64 0), (.int .i64 0)] [(some (2, 1), (.int .i64 2)), (some (4, 1), (.int .i64 2))]) fun t158 =>
 bd (bl [(.bool false), (.int .i64 0), (.int .i64 0), (.int .i64 0), (.int .i64 0)] [(some (2, 1), (.int .i64 2)), (some (4, 1), (.int .i64 (-1)))]) fun t159 =>
 bd (bl [(.bool false), (.int .i64 0), (.int .i64 0), (.int .i64 0), (.int .i64 0)] [(some (0, 1), (.bool true)), (some (1, 1), (.int .i64 31))]) fun t160 =>
 bd (bl [(.bool false), (.int .i64 0), (.int .i64 0), (.int .i64 0), (.int .i64 0)] [(some (0, 1), (.bool true)), (some (1, 1), (.int .i64 (-1)))]) fun t161 =>
 bd (bl [(.bool false), (.int .i64 0), (.int .i64 0), (.int .i64 0), (.int .i64 0)] [(some (0, 1), (.bool true)), (some (1, 1), (.int .i64 30)), (some (4, 1), (.int .i64 1073741823))]) fun t162 =>
 bd (bl [(.bool false), (.int .i64 0), (.int .i64 0), (.int .i64 0), (.int .i64 0)] [(some (0, 1), (.bool true)), (some (1, 1), (.int .i64 3)), (some (4, 1), (.int .i64 8))]) fun t163 =>
 bd (bl [(.bool false), (.int .i64 0), (.int .i64 0), (.int .i64 0), (.int .i64 0)] [(some (0, 1), (.bool true)), (some (1, 1), (.int .i64 3)), (some (4, 1), (.int .i64 (-1)))]) fun t164 =>
 bd (bl [(.bool false), (.int .i64 0), (.int .i64 0), (.int .i64 0), (.int .i64 0)] [(some (0, 1), (.bool true))]) fun t165 =>
 bf (bs h 43 12 [(.bool false), (.int .i64 0), (.int .i64 0), (.int .i64 0), (.int .i64 0), (.bool false), (.int .i64 0), (.int .i64 0), (.int .i64 0), (.int .i64 0), (.bool false), (.int .i64 0), (.int .i64 0), (.int .i64 0), (.int .i64 0), (.bool false), (.int .i64 0), (.int .i64 0), (.int .i64 0), (.int .i64 0), (.bool false), (.int .i64 0), (.int .i64 0), (.int .i64 0), (.int .i64 0), (.bool false), (.int .i64 0), (.int .i64 0), (.int .i64 0), (.int .i64 0), (.bool false), (.int .i64 0), (.int .i64 0), (.int .i64 0), (.int .i64 0), (.bool false), (.int .i64 0), (.int .i64 0), (.int .i64 0), (.int .i64 0), (.bool false), (.int .i64 0), (.int .i64 0), (.int .i64 0), (.int .i64 0), (.bool false), (.int .i64 0), (.int .i64 0), (.int .i64 0), (.int .i64 0), (.bool false), (.int .i64 0), (.int .i64 0), (.int .i64 0), (.int .i64 0), (.bool false), (.int .i64 0), (.int .i64 0), (.int .i64 0), (.int .i64 0)] [(some (0, 5), t154), (some (5, 5), t155), (some (10, 5), t156), (some (15, 5), t157), (some (20, 5), t158), (some (25, 5), t159), (some (30, 5), t160), (some (35, 5), t161), (some (40, 5), t162), (some (45, 5), t163), (some (50, 5), t164), (some (55, 5), t165)]) fun t166 h1 =>
 some ⟨.nm, ⟨[(e.s k9 0), (e.s k9 1), (e.s k9 2), (e.s k9 3), (e.s k9 4), (e.s k9 5), (e.s k9 6), (e.s k9 7), (e.s k9 8), (e.s k9 9), (e.s k9 10), (e.s k9 11), (e.s k9 12), (e.s k9 13), (e.s k9 14), (e.s k9 15), (e.s k9 18), (e.s k9 21), (e.s k9 23), (e.s k9 25), (e.s k9 27), t166], 28, t166⟩, h1⟩) fun e h =>
 sq (bc k9 [167, 168, 169, 170, 171, 172, 173, 174, 175, 176, 177, 178, 179, 180, 181, 182, 183, 184, 185, 186, 187, 188, 189, 190, 191, 192, 193, 194, 195, 196, 197, 198, 199, 200, 201, 202, 203, 204, 205, 206, 207, 0] e (gk (.bool true) true h (K 22 [] h)) fun t168 h1 =>
 bd (pk (.bool true) t168 (.bool false)) fun t169 =>
 bd (gl t169 true (some (e.s k9 18))) fun t171 =>
 bd (gl t169 true (binK 0 .eql t171 (.int .i64 41))) fun t172 =>
 bd (pk t169 t172 (.bool false)) fun t173 =>
 bd (gl t173 true (some (e.s k9 21))) fun t175 =>
 bd (gl t173 true (binK 0 .eql t175 (.int .i64 41))) fun t176 =>
 bd (pk t173 t176 (.bool false)) fun t177 =>
 bd (gl t177 true (some (e.s k9 23))) fun t179 =>
 bd (gl t177 true (binK 0 .eql t179 (.int .i64 2))) fun t180 =>
 bd (pk t177 t180 (.bool false)) fun t181 =>
 bd (gl t181 true (some (e.s k9 25))) fun t183 =>
 bd (gl t181 true (binK 0 .eql t183 (.int .i64 2))) fun t184 =>
 bd (pk t181 t184 (.bool false)) fun t185 =>
 bd (gl t185 true (some (e.s k9 27))) fun t187 =>
 bd (gl t185 true (binK 0 .eql t187 (.int .i64 2))) fun t188 =>
 bd (pk t185 t188 (.bool false)) fun t189 =>
 bc k9 [167, 168, 169, 170, 171, 172, 173, 174, 175, 176, 177, 178, 179, 180, 181, 182, 183, 184, 185, 186, 187, 188, 189, 190, 191, 192, 193, 194, 195, 196, 197, 198, 199, 200, 201, 202, 203, 204, 205, 206, 207, 0] e (gk t189 true h1 (K 27 [] h1)) fun t191 h2 =>
 bc k9 [167, 168, 169, 170, 171, 172, 173, 174, 175, 176, 177, 178, 179, 180, 181, 182, 183, 184, 185, 186, 187, 188, 189, 190, 191, 192, 193, 194, 195, 196, 197, 198, 199, 200, 201, 202, 203, 204, 205, 206, 207, 0] e (gk t189 true h2 (K 34 [t191] h2)) fun t192 h3 =>
 bd (gl t189 true (binK 0 .eql t192 (.int .i64 0))) fun t193 =>
 bd (pk t189 t193 (.bool false)) fun t194 =>
 bd (gl t194 true (some (e.s k9 28))) fun t196 =>
 bc k9 [167, 168, 169, 170, 171, 172, 173, 174, 175, 176, 177, 178, 179, 180, 181, 182, 183, 184, 185, 186, 187, 188, 189, 190, 191, 192, 193, 194, 195, 196, 197, 198, 199, 200, 201, 202, 203, 204, 205, 206, 207, 0] e (gk t194 true h3 (K 3 [.nils, t196, (.bool true)] h3)) fun t197 h4 =>
 bd (pk t194 t197 (.bool false)) fun t198 =>
 bd (gl t198 true (some (e.s k9 28))) fun t200 =>
 bc k9 [167, 168, 169, 170, 171, 172, 173, 174, 175, 176, 177, 178, 179, 180, 181, 182, 183, 184, 185, 186, 187, 188, 189, 190, 191, 192, 193, 194, 195, 196, 197, 198, 199, 200, 201, 202, 203, 204, 205, 206, 207, 0] e (gk t198 true h4 (K 4 [.nils, t200, (.bool true)] h4)) fun t201 h5 =>
 bd (pk t198 t201 (.bool false)) fun t202 =>
 bf (gf t202 true h5 (bs h5 5 5 [(.int .u8 0), (.int .u8 0), (.int .u8 0), (.int .u8 0), (.int .u8 0)] [(some (0, 1), (.int .u8 255)), (some (1, 1), (.int .u8 255)), (some (2, 1), (.int .u8 255)), (some (3, 1), (.int .u8 255)), (some (4, 1), (.int .u8 255))])) fun t204 h6 =>
 bd (gl t202 true (some (e.s k9 28))) fun t205 =>
 bc k9 [167, 168, 169, 170, 171, 172, 173, 174, 175, 176, 177, 178, 179, 180, 181, 182, 183, 184, 185, 186, 187, 188, 189, 190, 191, 192, 193, 194, 195, 196, 197, 198, 199, 200, 201, 202, 203, 204, 205, 206, 207, 0] e (gk t202 true h6 (K 4 [t204, t205, (.bool false)] h6)) fun t206 h7 =>
 bd (pk t202 t206 (.bool false)) fun t207 =>
 some ⟨.nm, ⟨[t207, (e.s k9 1), (e.s k9 2), (e.s k9 3), (e.s k9 4), (e.s k9 5), (e.s k9 6), (e.s k9 7), (e.s k9 8), (e.s k9 9), (e.s k9 10), (e.s k9 11), (e.s k9 12), (e.s k9 13), (e.s k9 14), (e.s k9 15), (e.s k9 18), (e.s k9 21), (e.s k9 23), (e.s k9 25), (e.s k9 27), (e.s k9 28)], 0, t207⟩, h7⟩) fun e h =>
 some ⟨.rt, e, h⟩
noncomputable def f9 (K : Oracle) (L : Looper) (h : H) : Option (Rv × H) := fin Try.prog k9 [.tmp 0] (s9 K L ⟨[V.und, V.und, V.und, V.und, V.und, V.und, V.und, V.und, V.und, V.und, V.und, V.und, V.und, V.und, V.und, V.und, V.und, V.und, V.und, V.und, V.und, V.und], 0, V.und⟩ h)
theorem r9 : (fun K L h => runFF Try.prog kp K L 9 [] h) = f9 := by kernel_rfl
theorem c9 (h : H) : callZ Try.prog kp 9 [] h = f9 (callZ Try.prog kp) loopZ h :=
  (callZ_eqF _ _ _ _ _).trans (congrFun (congrFun (congrFun (r9) _) _) h)

/-- zoetrope/zoetropelaw04.set -/
@[simp] def k10 : List Nat := [0, 2, 3, 5]
noncomputable def l10_0 (K : Oracle) (L : Looper) (e : E) (h : H) : Out :=
 sq (sq (bd (lnS (e.s k10 0)) fun t13 =>
 bd (binK 0 .lss (e.s k10 5) t13) fun t14 =>
 bd (gl t14 true (some (e.s k10 5))) fun t16 =>
 bd (gl t14 true (binK 0 .lss t16 (.int .i64 100))) fun t17 =>
 bd (pk t14 t17 (.bool false)) fun t18 =>
 some ⟨.nm, ⟨[(e.s k10 0), (e.s k10 2), (e.s k10 3), (e.s k10 5)], 18, t18⟩, h⟩) fun e h =>
 br (e.s k10 18) (some ⟨.nm, e, h⟩)
 (some ⟨.ex 0, e, h⟩)) fun e h =>
 sq (blk 1 (bd (iaS 5 (e.s k10 0) (e.s k10 5)) fun t24 =>
 bd (fa 2 t24) fun t25 =>
 bd (ld h t25) fun t26 =>
 bd (iaS 5 (e.s k10 0) (e.s k10 5)) fun t29 =>
 bd (fa 3 t29) fun t30 =>
 bd (ld h t30) fun t31 =>
 bd (iaS 5 (e.s k10 0) (e.s k10 5)) fun t34 =>
 bd (fa 4 t34) fun t35 =>
 bd (ld h t35) fun t36 =>
 bn (K 41 [(e.s k10 3), t26, t31, t36] h) fun t37 h1 =>
 ck (ld h t25) t26 (ck (ld h t30) t31 (ck (ld h t35) t36 (some ⟨.nm, ⟨[(e.s k10 0), (e.s k10 2), (e.s k10 3), (e.s k10 5)], 37, t37⟩, h1⟩))))) fun e h =>
 bd (binK 0 .add (e.s k10 5) (.int .i64 1)) fun t20 =>
 some ⟨.nm, ⟨[(e.s k10 0), (e.s k10 2), (e.s k10 3), t20], 5, t20⟩, h⟩
noncomputable def s10 (K : Oracle) (L : Looper) (e : E) (h : H) : Out :=
 sq (bf (nw h 25 [.nils]) fun t2 h1 =>
 some ⟨.nm, ⟨[(e.s k10 0), t2, (e.s k10 3), (e.s k10 5)], 2, t2⟩, h1⟩) fun e h =>
 sq (bc k10 [7, 8, 6, 9, 10, 3, 4] e (K 24 [] h) fun t7 h1 =>
 bc k10 [7, 8, 6, 9, 10, 3, 4] e (K 13 [t7, (.bool true)] h1) fun t8 h2 =>
 bd (exV t8 0) fun t9 =>
 bd (exV t8 1) fun t10 =>
 some ⟨.nm, ⟨[(e.s k10 0), (e.s k10 2), t9, (e.s k10 5)], 4, t10⟩, h2⟩) fun e h =>
 sq (sq (some ⟨.nm, ⟨[(e.s k10 0), (e.s k10 2), (e.s k10 3), (.int .i64 0)], 5, (.int .i64 0)⟩, h⟩) fun e h =>
 blk 0 (L (l10_0 K L) e h)) fun e h =>
 sq (bd (nilC (e.s k10 3)) fun t39 =>
 bd (fa 2 t39) fun t40 =>
 bd (ldn 1 h t40) fun t41 =>
 bf (stZ 1 h (e.s k10 2) t41) fun _ h1 =>
 some ⟨.nm, ⟨[(e.s k10 0), (e.s k10 2), (e.s k10 3), (e.s k10 5)], 0, (e.s k10 0)⟩, h1⟩) fun e h =>
 some ⟨.rt, e, h⟩
noncomputable def f10 (K : Oracle) (L : Looper) (p0 : V) (h : H) : Option (Rv × H) := fin Try.prog k10 [.cell 2 25] (s10 K L ⟨[p0, V.und, V.und, V.und], 0, p0⟩ h)
theorem r10 : (fun K L p0 h => runFF Try.prog kp K L 10 [p0] h) = f10 := by kernel_rfl
theorem c10 (p0 : V) (h : H) : callZ Try.prog kp 10 [p0] h = f10 (callZ Try.prog kp) loopZ p0 h :=
  (callZ_eqF _ _ _ _ _).trans (congrFun (congrFun (congrFun (congrFun (r10) _) _) p0) h)

/-- zoetrope/zoetroperef04.Copy -/
@[simp] def k11 : List Nat := [0, 1, 2, 3, 4, 5, 6, 7]
noncomputable def l11_0 (K : Oracle) (L : Looper) (e : E) (h : H) : Out :=
 sq (sq (bd (fa 0 (e.s k11 1)) fun t16 =>
 bd (ld h t16) fun t17 =>
 bd (iaS 1 t17 (e.s k11 4)) fun t19 =>
 bd (ld h t19) fun t20 =>
 bd (lnS t20) fun t21 =>
 bd (binK 0 .lss (e.s k11 6) t21) fun t22 =>
 some ⟨.nm, ⟨[(e.s k11 0), (e.s k11 1), (e.s k11 2), (e.s k11 3), (e.s k11 4), (e.s k11 5), (e.s k11 6), (e.s k11 7)], 22, t22⟩, h⟩) fun e h =>
 br (e.s k11 22) (some ⟨.nm, e, h⟩)
 (some ⟨.ex 2, e, h⟩)) fun e h =>
 sq (blk 3 (sq (bd (fa 0 (e.s k11 1)) fun t25 =>
 bd (ld h t25) fun t26 =>
 bd (iaS 1 t26 (e.s k11 4)) fun t28 =>
 bd (ld h t28) fun t29 =>
 bd (iaS 2 t29 (e.s k11 6)) fun t31 =>
 bd (fa 1 t31) fun t32 =>
 bd (ld h t32) fun t33 =>
 bd (bl [.nils, (.int .i64 0)] [(some (1, 1), t33)]) fun t34 =>
 bf (nw h 72 [.nils, (.int .i64 0)]) fun t7 h1 =>
 bf (stZ 2 h1 t7 t34) fun _ h2 =>
 some ⟨.nm, ⟨[(e.s k11 0), (e.s k11 1), (e.s k11 2), (e.s k11 3), (e.s k11 4), (e.s k11 5), (e.s k11 6), t7], 0, (e.s k11 0)⟩, h2⟩) fun e h =>
 sq (bd (fa 0 (e.s k11 7)) fun t35 =>
 bd (ld h t35) fun t36 =>
 bd (fa 0 (e.s k11 1)) fun t37 =>
 bd (ld h t37) fun t38 =>
 bd (iaS 1 t38 (e.s k11 4)) fun t40 =>
 bd (ld h t40) fun t41 =>
 bd (iaS 2 t41 (e.s k11 6)) fun t43 =>
 bd (fa 0 t43) fun t44 =>
 bd (ld h t44) fun t45 =>
 bf (apZ 38 1 2 h t36 t45) fun t46 h1 =>
 bd (fa 0 (e.s k11 7)) fun t47 =>
 bf (stZ 1 h1 t47 t46) fun _ h2 =>
 ck (ld h t35) t36 (ck (ld h t37) t38 (ck (ld h t40) t41 (ck (ld h t44) t45 (some ⟨.nm, ⟨[(e.s k11 0), (e.s k11 1), (e.s k11 2), (e.s k11 3), (e.s k11 4), (e.s k11 5), (e.s k11 6), (e.s k11 7)], 0, (e.s k11 0)⟩, h2⟩))))) fun e h =>
 bd (ldn 2 h (e.s k11 7)) fun t49 =>
 bf (bs h 72 1 [.nils, (.int .i64 0)] [(some (0, 2), t49)]) fun t50 h1 =>
 bf (apZ 72 2 32 h1 (e.s k11 5) t50) fun t51 h2 =>
 some ⟨.nm, ⟨[(e.s k11 0), (e.s k11 1), (e.s k11 2), (e.s k11 3), (e.s k11 4), t51, (e.s k11 6), (e.s k11 7)], 5, t51⟩, h2⟩)) fun e h =>
 bd (binK 0 .add (e.s k11 6) (.int .i64 1)) fun t24 =>
 some ⟨.nm, ⟨[(e.s k11 0), (e.s k11 1), (e.s k11 2), (e.s k11 3), (e.s k11 4), (e.s k11 5), t24, (e.s k11 7)], 6, t24⟩, h⟩
noncomputable def l11_1 (K : Oracle) (L : Looper) (e : E) (h : H) : Out :=
 sq (sq (bd (fa 0 (e.s k11 1)) fun t9 =>
 bd (ld h t9) fun t10 =>
 bd (lnS t10) fun t11 =>
 bd (binK 0 .lss (e.s k11 4) t11) fun t12 =>
 some ⟨.nm, ⟨[(e.s k11 0), (e.s k11 1), (e.s k11 2), (e.s k11 3), (e.s k11 4), (e.s k11 5), (e.s k11 6), (e.s k11 7)], 12, t12⟩, h⟩) fun e h =>
 br (e.s k11 12) (some ⟨.nm, e, h⟩)
 (some ⟨.ex 0, e, h⟩)) fun e h =>
 sq (blk 1 (sq (some ⟨.nm, ⟨[(e.s k11 0), (e.s k11 1), (e.s k11 2), (e.s k11 3), (e.s k11 4), .nils, (e.s k11 6), (e.s k11 7)], 5, .nils⟩, h⟩) fun e h =>
 sq (sq (some ⟨.nm, ⟨[(e.s k11 0), (e.s k11 1), (e.s k11 2), (e.s k11 3), (e.s k11 4), (e.s k11 5), (.int .i64 0), (e.s k11 7)], 6, (.int .i64 0)⟩, h⟩) fun e h =>
 blk 2 (L (l11_0 K L) e h)) fun e h =>
 bd (fa 0 (e.s k11 3)) fun t52 =>
 bd (ld h t52) fun t53 =>
 bf (bs h 75 1 [.nils] [(some (0, 1), (e.s k11 5))]) fun t55 h1 =>
 bf (apZ 75 1 24 h1 t53 t55) fun t56 h2 =>
 bd (fa 0 (e.s k11 3)) fun t57 =>
 bf (stZ 1 h2 t57 t56) fun _ h3 =>
 some ⟨.nm, ⟨[(e.s k11 0), (e.s k11 1), (e.s k11 2), (e.s k11 3), (e.s k11 4), (e.s k11 5), (e.s k11 6), (e.s k11 7)], 0, (e.s k11 0)⟩, h3⟩)) fun e h =>
 bd (binK 0 .add (e.s k11 4) (.int .i64 1)) fun t14 =>
 some ⟨.nm, ⟨[(e.s k11 0), (e.s k11 1), (e.s k11 2), (e.s k11 3), t14, (e.s k11 5), (e.s k11 6), (e.s k11 7)], 4, t14⟩, h⟩
noncomputable def s11 (K : Oracle) (L : Looper) (e : E) (h : H) : Out :=
 sq (bf (bx h 25 (e.s k11 0)) fun t1 h1 =>
 bf (nw h1 25 [.nils]) fun t2 h2 =>
 some ⟨.nm, ⟨[(e.s k11 0), t1, t2, (e.s k11 3), (e.s k11 4), (e.s k11 5), (e.s k11 6), (e.s k11 7)], 2, t2⟩, h2⟩) fun e h =>
 sq (bf (nw h 25 [.nils]) fun t3 h1 =>
 some ⟨.nm, ⟨[(e.s k11 0), (e.s k11 1), (e.s k11 2), t3, (e.s k11 4), (e.s k11 5), (e.s k11 6), (e.s k11 7)], 3, t3⟩, h1⟩) fun e h =>
 sq (sq (some ⟨.nm, ⟨[(e.s k11 0), (e.s k11 1), (e.s k11 2), (e.s k11 3), (.int .i64 0), (e.s k11 5), (e.s k11 6), (e.s k11 7)], 4, (.int .i64 0)⟩, h⟩) fun e h =>
 blk 0 (L (l11_1 K L) e h)) fun e h =>
 sq (bd (ldn 1 h (e.s k11 3)) fun t58 =>
 bf (stZ 1 h (e.s k11 2) t58) fun _ h1 =>
 some ⟨.nm, ⟨[(e.s k11 0), (e.s k11 1), (e.s k11 2), (e.s k11 3), (e.s k11 4), (e.s k11 5), (e.s k11 6), (e.s k11 7)], 0, (e.s k11 0)⟩, h1⟩) fun e h =>
 some ⟨.rt, e, h⟩
noncomputable def f11 (K : Oracle) (L : Looper) (p0 : V) (h : H) : Option (Rv × H) := fin Try.prog k11 [.cell 2 25] (s11 K L ⟨[p0, V.und, V.und, V.und, V.und, V.und, V.und, V.und], 0, p0⟩ h)
theorem r11 : (fun K L p0 h => runFF Try.prog kp K L 11 [p0] h) = f11 := by kernel_rfl
theorem c11 (p0 : V) (h : H) : callZ Try.prog kp 11 [p0] h = f11 (callZ Try.prog kp) loopZ p0 h :=
  (callZ_eqF _ _ _ _ _).trans (congrFun (congrFun (congrFun (congrFun (r11) _) _) p0) h)

/-- zoetrope/syms.Writer -/
@[simp] def k12 : List Nat := [0, 1, 2, 4, 5, 6]
noncomputable def s12 (K : Oracle) (L : Looper) (e : E) (h : H) : Out :=
 sq (bf (bx h 25 (e.s k12 0)) fun t2 h1 =>
 some ⟨.nm, ⟨[(e.s k12 0), (e.s k12 1), t2, .nilp, (.int .i64 0), (e.s k12 6)], 5, (.int .i64 0)⟩, h1⟩) fun e h =>
 sq (sq (bd (ldn 1 h (e.s k12 2)) fun t7 =>
 bc k12 [7, 8, 6] e (K 34 [t7] h) fun t8 h1 =>
 some ⟨.nm, ⟨[(e.s k12 0), (e.s k12 1), (e.s k12 2), (e.s k12 4), (e.s k12 5), t8], 6, t8⟩, h1⟩) fun e h =>
 sq (bd (binK 0 .neq (e.s k12 6) (.int .i64 0)) fun t10 =>
 some ⟨.nm, ⟨[(e.s k12 0), (e.s k12 1), (e.s k12 2), (e.s k12 4), (e.s k12 5), (e.s k12 6)], 10, t10⟩, h⟩) fun e h =>
 br (e.s k12 10) (sq (some ⟨.nm, ⟨[(e.s k12 0), (e.s k12 1), (e.s k12 2), .nilp, (e.s k12 6), (e.s k12 6)], 5, (e.s k12 6)⟩, h⟩) fun e h =>
 some ⟨.rt, e, h⟩)
 (some ⟨.nm, e, h⟩)) fun e h =>
 sq (bn (K 42 [] h) fun t12 h1 =>
 bd (ldn 1 h1 (e.s k12 2)) fun t13 =>
 bn (K 38 [t13] h1) fun t14 h2 =>
 bd (bl [.nilp, .nilp, .nils, (.bool false), (.int .i64 0)] [(some (0, 1), t12), (some (2, 1), t14), (some (3, 1), (e.s k12 1))]) fun t16 =>
 bf (bx h2 84 t16) fun t17 h3 =>
 ck (ldn 1 h (e.s k12 2)) t13 (ck (ldn 1 h1 (e.s k12 2)) t13 (some ⟨.nm, ⟨[(e.s k12 0), (e.s k12 1), (e.s k12 2), t17, (.int .i64 0), (e.s k12 6)], 5, (.int .i64 0)⟩, h3⟩))) fun e h =>
 some ⟨.rt, e, h⟩
noncomputable def f12 (K : Oracle) (L : Looper) (p0 p1 : V) (h : H) : Option (Rv × H) := fin Try.prog k12 [.tmp 4, .tmp 5] (s12 K L ⟨[p0, p1, V.und, V.und, V.und, V.und], 0, p0⟩ h)
theorem r12 : (fun K L p0 p1 h => runFF Try.prog kp K L 12 [p0, p1] h) = f12 := by kernel_rfl
theorem c12 (p0 p1 : V) (h : H) : callZ Try.prog kp 12 [p0, p1] h = f12 (callZ Try.prog kp) loopZ p0 p1 h :=
  (callZ_eqF _ _ _ _ _).trans (congrFun (congrFun (congrFun (congrFun (congrFun (r12) _) _) p0) p1) h)

/-- zoetrope/zoetroperef04.Writer -/
@[simp] def k13 : List Nat := [0, 1, 2, 4, 5]
noncomputable def s13 (K : Oracle) (L : Looper) (e : E) (h : H) : Out :=
 sq (bf (bx h 25 (e.s k13 0)) fun t2 h1 =>
 some ⟨.nm, ⟨[(e.s k13 0), (e.s k13 1), t2, .nilp, (.int .i64 0)], 5, (.int .i64 0)⟩, h1⟩) fun e h =>
 sq (sq (bd (ldn 1 h (e.s k13 2)) fun t6 =>
 bc k13 [6, 7, 8] e (K 37 [t6] h) fun t7 h1 =>
 bd (binK 0 .neq t7 (.int .i64 0)) fun t8 =>
 some ⟨.nm, ⟨[(e.s k13 0), (e.s k13 1), (e.s k13 2), (e.s k13 4), (e.s k13 5)], 8, t8⟩, h1⟩) fun e h =>
 br (e.s k13 8) (sq (some ⟨.nm, ⟨[(e.s k13 0), (e.s k13 1), (e.s k13 2), .nilp, (.int .i64 2)], 5, (.int .i64 2)⟩, h⟩) fun e h =>
 some ⟨.rt, e, h⟩)
 (some ⟨.nm, e, h⟩)) fun e h =>
 sq (bn (K 43 [] h) fun t9 h1 =>
 bd (ldn 1 h1 (e.s k13 2)) fun t10 =>
 bn (K 11 [t10] h1) fun t11 h2 =>
 bd (bl [.nilp, .nilp, .nils, (.bool false), (.int .i64 0)] [(some (0, 1), t9), (some (2, 1), t11), (some (3, 1), (e.s k13 1))]) fun t13 =>
 bf (bx h2 51 t13) fun t14 h3 =>
 ck (ldn 1 h (e.s k13 2)) t10 (ck (ldn 1 h1 (e.s k13 2)) t10 (some ⟨.nm, ⟨[(e.s k13 0), (e.s k13 1), (e.s k13 2), t14, (.int .i64 0)], 5, (.int .i64 0)⟩, h3⟩))) fun e h =>
 some ⟨.rt, e, h⟩
noncomputable def f13 (K : Oracle) (L : Looper) (p0 p1 : V) (h : H) : Option (Rv × H) := fin Try.prog k13 [.tmp 4, .tmp 5] (s13 K L ⟨[p0, p1, V.und, V.und, V.und], 0, p0⟩ h)
theorem r13 : (fun K L p0 p1 h => runFF Try.prog kp K L 13 [p0, p1] h) = f13 := by kernel_rfl
theorem c13 (p0 p1 : V) (h : H) : callZ Try.prog kp 13 [p0, p1] h = f13 (callZ Try.prog kp) loopZ p0 p1 h :=
  (callZ_eqF _ _ _ _ _).trans (congrFun (congrFun (congrFun (congrFun (congrFun (r13) _) _) p0) p1) h)

/-- (*zoetrope/syms.Coder).Writes -/
@[simp] def k14 : List Nat := [0, 2]
noncomputable def s14 (K : Oracle) (L : Looper) (e : E) (h : H) : Out :=
 sq (some ⟨.nm, ⟨[(e.s k14 0), (.bool false)], 2, (.bool false)⟩, h⟩) fun e h =>
 sq (bd (binK 2 .neq (e.s k14 0) .nilp) fun t4 =>
 bd (gl t4 true (some (e.s k14 0))) fun t6 =>
 bd (gl t4 true (nilC t6)) fun t7 =>
 bd (gl t4 true (fa 0 t7)) fun t8 =>
 bd (gl t4 true (ld h t8)) fun t9 =>
 bd (gl t4 true (binK 2 .neq t9 .nilp)) fun t10 =>
 bd (pk t4 t10 (.bool false)) fun t11 =>
 some ⟨.nm, ⟨[(e.s k14 0), t11], 2, t11⟩, h⟩) fun e h =>
 some ⟨.rt, e, h⟩
noncomputable def f14 (K : Oracle) (L : Looper) (p0 : V) (h : H) : Option (Rv × H) := fin Try.prog k14 [.tmp 2] (s14 K L ⟨[p0, V.und], 0, p0⟩ h)
theorem r14 : (fun K L p0 h => runFF Try.prog kp K L 14 [p0] h) = f14 := by kernel_rfl
theorem c14 (p0 : V) (h : H) : callZ Try.prog kp 14 [p0] h = f14 (callZ Try.prog kp) loopZ p0 h :=
  (callZ_eqF _ _ _ _ _).trans (congrFun (congrFun (congrFun (congrFun (r14) _) _) p0) h)

/-- zoetrope/zoetroperef04.Same -/
@[simp] def k15 : List Nat := [0, 1, 2, 3, 4, 5, 6, 7, 8, 9]
noncomputable def l15_0 (K : Oracle) (L : Looper) (e : E) (h : H) : Out :=
 sq (sq (bd (fa 0 (e.s k15 7)) fun t78 =>
 bd (ld h t78) fun t79 =>
 bd (lnS t79) fun t80 =>
 bd (binK 0 .lss (e.s k15 9) t80) fun t81 =>
 some ⟨.nm, ⟨[(e.s k15 0), (e.s k15 1), (e.s k15 2), (e.s k15 3), (e.s k15 4), (e.s k15 5), (e.s k15 6), (e.s k15 7), (e.s k15 8), (e.s k15 9)], 81, t81⟩, h⟩) fun e h =>
 br (e.s k15 81) (some ⟨.nm, e, h⟩)
 (some ⟨.ex 4, e, h⟩)) fun e h =>
 sq (blk 5 (sq (bd (fa 0 (e.s k15 7)) fun t84 =>
 bd (ld h t84) fun t85 =>
 bd (iaS 1 t85 (e.s k15 9)) fun t87 =>
 bd (ld h t87) fun t88 =>
 bd (fa 0 (e.s k15 8)) fun t89 =>
 bd (ld h t89) fun t90 =>
 bd (iaS 1 t90 (e.s k15 9)) fun t92 =>
 bd (ld h t92) fun t93 =>
 bd (binK 0 .neq t88 t93) fun t94 =>
 ck (ld h t84) t85 (ck (ld h t87) t88 (ck (ld h t89) t90 (ck (ld h t92) t93 (some ⟨.nm, ⟨[(e.s k15 0), (e.s k15 1), (e.s k15 2), (e.s k15 3), (e.s k15 4), (e.s k15 5), (e.s k15 6), (e.s k15 7), (e.s k15 8), (e.s k15 9)], 94, t94⟩, h⟩))))) fun e h =>
 br (e.s k15 94) (sq (some ⟨.nm, ⟨[(e.s k15 0), (e.s k15 1), (e.s k15 2), (e.s k15 3), (.bool false), (e.s k15 5), (e.s k15 6), (e.s k15 7), (e.s k15 8), (e.s k15 9)], 4, (.bool false)⟩, h⟩) fun e h =>
 some ⟨.rt, e, h⟩)
 (some ⟨.nm, e, h⟩))) fun e h =>
 bd (binK 0 .add (e.s k15 9) (.int .i64 1)) fun t83 =>
 some ⟨.nm, ⟨[(e.s k15 0), (e.s k15 1), (e.s k15 2), (e.s k15 3), (e.s k15 4), (e.s k15 5), (e.s k15 6), (e.s k15 7), (e.s k15 8), t83], 9, t83⟩, h⟩
noncomputable def l15_1 (K : Oracle) (L : Looper) (e : E) (h : H) : Out :=
 sq (sq (bd (fa 0 (e.s k15 2)) fun t38 =>
 bd (ld h t38) fun t39 =>
 bd (iaS 1 t39 (e.s k15 5)) fun t41 =>
 bd (ld h t41) fun t42 =>
 bd (lnS t42) fun t43 =>
 bd (binK 0 .lss (e.s k15 6) t43) fun t44 =>
 some ⟨.nm, ⟨[(e.s k15 0), (e.s k15 1), (e.s k15 2), (e.s k15 3), (e.s k15 4), (e.s k15 5), (e.s k15 6), (e.s k15 7), (e.s k15 8), (e.s k15 9)], 44, t44⟩, h⟩) fun e h =>
 br (e.s k15 44) (some ⟨.nm, e, h⟩)
 (some ⟨.ex 2, e, h⟩)) fun e h =>
 sq (blk 3 (sq (bd (fa 0 (e.s k15 2)) fun t47 =>
 bd (ld h t47) fun t48 =>
 bd (iaS 1 t48 (e.s k15 5)) fun t50 =>
 bd (ld h t50) fun t51 =>
 bd (iaS 2 t51 (e.s k15 6)) fun t53 =>
 bd (ldn 2 h t53) fun t54 =>
 bf (nw h 72 [.nils, (.int .i64 0)]) fun t7 h1 =>
 bf (nw h1 72 [.nils, (.int .i64 0)]) fun t8 h2 =>
 bf (stZ 2 h2 t7 t54) fun _ h3 =>
 bd (fa 0 (e.s k15 3)) fun t55 =>
 bd (ld h3 t55) fun t56 =>
 bd (iaS 1 t56 (e.s k15 5)) fun t58 =>
 bd (ld h3 t58) fun t59 =>
 bd (iaS 2 t59 (e.s k15 6)) fun t61 =>
 bd (ldn 2 h3 t61) fun t62 =>
 bf (stZ 2 h3 t8 t62) fun _ h4 =>
 ck (ld h t47) t48 (ck (ld h t50) t51 (ck (ldn 2 h t53) t54 (ck (ld h t55) t56 (ck (ld h3 t55) t56 (ck (ld h t58) t59 (ck (ld h3 t58) t59 (ck (ldn 2 h t61) t62 (ck (ldn 2 h3 t61) t62 (some ⟨.nm, ⟨[(e.s k15 0), (e.s k15 1), (e.s k15 2), (e.s k15 3), (e.s k15 4), (e.s k15 5), (e.s k15 6), t7, t8, (e.s k15 9)], 0, (e.s k15 0)⟩, h4⟩)))))))))) fun e h =>
 sq (sq (bd (fa 1 (e.s k15 7)) fun t63 =>
 bd (ld h t63) fun t64 =>
 bd (fa 1 (e.s k15 8)) fun t65 =>
 bd (ld h t65) fun t66 =>
 bd (binK 0 .neq t64 t66) fun t67 =>
 bd (gl t67 false (fa 0 (e.s k15 7))) fun t69 =>
 bd (gl t67 false (ld h t69)) fun t70 =>
 bd (gl t67 false (lnS t70)) fun t71 =>
 bd (gl t67 false (fa 0 (e.s k15 8))) fun t72 =>
 bd (gl t67 false (ld h t72)) fun t73 =>
 bd (gl t67 false (lnS t73)) fun t74 =>
 bd (gl t67 false (binK 0 .neq t71 t74)) fun t75 =>
 bd (pk t67 (.bool true) t75) fun t76 =>
 some ⟨.nm, ⟨[(e.s k15 0), (e.s k15 1), (e.s k15 2), (e.s k15 3), (e.s k15 4), (e.s k15 5), (e.s k15 6), (e.s k15 7), (e.s k15 8), (e.s k15 9)], 76, t76⟩, h⟩) fun e h =>
 br (e.s k15 76) (sq (some ⟨.nm, ⟨[(e.s k15 0), (e.s k15 1), (e.s k15 2), (e.s k15 3), (.bool false), (e.s k15 5), (e.s k15 6), (e.s k15 7), (e.s k15 8), (e.s k15 9)], 4, (.bool false)⟩, h⟩) fun e h =>
 some ⟨.rt, e, h⟩)
 (some ⟨.nm, e, h⟩)) fun e h =>
 sq (some ⟨.nm, ⟨[(e.s k15 0), (e.s k15 1), (e.s k15 2), (e.s k15 3), (e.s k15 4), (e.s k15 5), (e.s k15 6), (e.s k15 7), (e.s k15 8), (.int .i64 0)], 9, (.int .i64 0)⟩, h⟩) fun e h =>
 blk 4 (L (l15_0 K L) e h))) fun e h =>
 bd (binK 0 .add (e.s k15 6) (.int .i64 1)) fun t46 =>
 some ⟨.nm, ⟨[(e.s k15 0), (e.s k15 1), (e.s k15 2), (e.s k15 3), (e.s k15 4), (e.s k15 5), t46, (e.s k15 7), (e.s k15 8), (e.s k15 9)], 6, t46⟩, h⟩
noncomputable def l15_2 (K : Oracle) (L : Looper) (e : E) (h : H) : Out :=
 sq (sq (bd (fa 0 (e.s k15 2)) fun t18 =>
 bd (ld h t18) fun t19 =>
 bd (lnS t19) fun t20 =>
 bd (binK 0 .lss (e.s k15 5) t20) fun t21 =>
 some ⟨.nm, ⟨[(e.s k15 0), (e.s k15 1), (e.s k15 2), (e.s k15 3), (e.s k15 4), (e.s k15 5), (e.s k15 6), (e.s k15 7), (e.s k15 8), (e.s k15 9)], 21, t21⟩, h⟩) fun e h =>
 br (e.s k15 21) (some ⟨.nm, e, h⟩)
 (some ⟨.ex 0, e, h⟩)) fun e h =>
 sq (blk 1 (sq (sq (bd (fa 0 (e.s k15 2)) fun t24 =>
 bd (ld h t24) fun t25 =>
 bd (iaS 1 t25 (e.s k15 5)) fun t27 =>
 bd (ld h t27) fun t28 =>
 bd (lnS t28) fun t29 =>
 bd (fa 0 (e.s k15 3)) fun t30 =>
 bd (ld h t30) fun t31 =>
 bd (iaS 1 t31 (e.s k15 5)) fun t33 =>
 bd (ld h t33) fun t34 =>
 bd (lnS t34) fun t35 =>
 bd (binK 0 .neq t29 t35) fun t36 =>
 ck (ld h t24) t25 (ck (ld h t27) t28 (ck (ld h t30) t31 (ck (ld h t33) t34 (some ⟨.nm, ⟨[(e.s k15 0), (e.s k15 1), (e.s k15 2), (e.s k15 3), (e.s k15 4), (e.s k15 5), (e.s k15 6), (e.s k15 7), (e.s k15 8), (e.s k15 9)], 36, t36⟩, h⟩))))) fun e h =>
 br (e.s k15 36) (sq (some ⟨.nm, ⟨[(e.s k15 0), (e.s k15 1), (e.s k15 2), (e.s k15 3), (.bool false), (e.s k15 5), (e.s k15 6), (e.s k15 7), (e.s k15 8), (e.s k15 9)], 4, (.bool false)⟩, h⟩) fun e h =>
 some ⟨.rt, e, h⟩)
 (some ⟨.nm, e, h⟩)) fun e h =>
 sq (some ⟨.nm, ⟨[(e.s k15 0), (e.s k15 1), (e.s k15 2), (e.s k15 3), (e.s k15 4), (e.s k15 5), (.int .i64 0), (e.s k15 7), (e.s k15 8), (e.s k15 9)], 6, (.int .i64 0)⟩, h⟩) fun e h =>
 blk 2 (L (l15_1 K L) e h))) fun e h =>
 bd (binK 0 .add (e.s k15 5) (.int .i64 1)) fun t23 =>
 some ⟨.nm, ⟨[(e.s k15 0), (e.s k15 1), (e.s k15 2), (e.s k15 3), (e.s k15 4), t23, (e.s k15 6), (e.s k15 7), (e.s k15 8), (e.s k15 9)], 5, t23⟩, h⟩
noncomputable def s15 (K : Oracle) (L : Looper) (e : E) (h : H) : Out :=
 sq (bf (bx h 25 (e.s k15 0)) fun t2 h1 =>
 bf (bx h1 25 (e.s k15 1)) fun t3 h2 =>
 some ⟨.nm, ⟨[(e.s k15 0), (e.s k15 1), t2, t3, (.bool false), (e.s k15 5), (e.s k15 6), (e.s k15 7), (e.s k15 8), (e.s k15 9)], 4, (.bool false)⟩, h2⟩) fun e h =>
 sq (sq (bd (fa 0 (e.s k15 2)) fun t10 =>
 bd (ld h t10) fun t11 =>
 bd (lnS t11) fun t12 =>
 bd (fa 0 (e.s k15 3)) fun t13 =>
 bd (ld h t13) fun t14 =>
 bd (lnS t14) fun t15 =>
 bd (binK 0 .neq t12 t15) fun t16 =>
 some ⟨.nm, ⟨[(e.s k15 0), (e.s k15 1), (e.s k15 2), (e.s k15 3), (e.s k15 4), (e.s k15 5), (e.s k15 6), (e.s k15 7), (e.s k15 8), (e.s k15 9)], 16, t16⟩, h⟩) fun e h =>
 br (e.s k15 16) (sq (some ⟨.nm, ⟨[(e.s k15 0), (e.s k15 1), (e.s k15 2), (e.s k15 3), (.bool false), (e.s k15 5), (e.s k15 6), (e.s k15 7), (e.s k15 8), (e.s k15 9)], 4, (.bool false)⟩, h⟩) fun e h =>
 some ⟨.rt, e, h⟩)
 (some ⟨.nm, e, h⟩)) fun e h =>
 sq (sq (some ⟨.nm, ⟨[(e.s k15 0), (e.s k15 1), (e.s k15 2), (e.s k15 3), (e.s k15 4), (.int .i64 0), (e.s k15 6), (e.s k15 7), (e.s k15 8), (e.s k15 9)], 5, (.int .i64 0)⟩, h⟩) fun e h =>
 blk 0 (L (l15_2 K L) e h)) fun e h =>
 sq (some ⟨.nm, ⟨[(e.s k15 0), (e.s k15 1), (e.s k15 2), (e.s k15 3), (.bool true), (e.s k15 5), (e.s k15 6), (e.s k15 7), (e.s k15 8), (e.s k15 9)], 4, (.bool true)⟩, h⟩) fun e h =>
 some ⟨.rt, e, h⟩
noncomputable def f15 (K : Oracle) (L : Looper) (p0 p1 : V) (h : H) : Option (Rv × H) := fin Try.prog k15 [.tmp 4] (s15 K L ⟨[p0, p1, V.und, V.und, V.und, V.und, V.und, V.und, V.und, V.und], 0, p0⟩ h)
theorem r15 : (fun K L p0 p1 h => runFF Try.prog kp K L 15 [p0, p1] h) = f15 := by kernel_rfl
theorem c15 (p0 p1 : V) (h : H) : callZ Try.prog kp 15 [p0, p1] h = f15 (callZ Try.prog kp) loopZ p0 p1 h :=
  (callZ_eqF _ _ _ _ _).trans (congrFun (congrFun (congrFun (congrFun (congrFun (r15) _) _) p0) p1) h)

/-- zoetrope/zoetropelaw04.spoil -/
@[simp] def k16 : List Nat := [0, 1, 2, 4, 5, 6]
noncomputable def l16_0 (K : Oracle) (L : Looper) (e : E) (h : H) : Out :=
 sq (sq (bd (fa 0 (e.s k16 2)) fun t25 =>
 bd (ld h t25) fun t26 =>
 bd (iaS 1 t26 (e.s k16 4)) fun t28 =>
 bd (ld h t28) fun t29 =>
 bd (iaS 2 t29 (e.s k16 5)) fun t31 =>
 bd (fa 0 t31) fun t32 =>
 bd (ld h t32) fun t33 =>
 bd (lnS t33) fun t34 =>
 bd (binK 0 .lss (e.s k16 6) t34) fun t35 =>
 some ⟨.nm, ⟨[(e.s k16 0), (e.s k16 1), (e.s k16 2), (e.s k16 4), (e.s k16 5), (e.s k16 6)], 35, t35⟩, h⟩) fun e h =>
 br (e.s k16 35) (some ⟨.nm, e, h⟩)
 (some ⟨.ex 4, e, h⟩)) fun e h =>
 sq (blk 5 (bd (fa 0 (e.s k16 2)) fun t38 =>
 bd (ld h t38) fun t39 =>
 bd (iaS 1 t39 (e.s k16 4)) fun t41 =>
 bd (ld h t41) fun t42 =>
 bd (iaS 2 t42 (e.s k16 5)) fun t44 =>
 bd (fa 0 t44) fun t45 =>
 bd (ld h t45) fun t46 =>
 bd (fa 0 (e.s k16 2)) fun t48 =>
 bd (ld h t48) fun t49 =>
 bd (iaS 1 t49 (e.s k16 4)) fun t51 =>
 bd (ld h t51) fun t52 =>
 bd (iaS 2 t52 (e.s k16 5)) fun t54 =>
 bd (fa 0 t54) fun t55 =>
 bd (ld h t55) fun t56 =>
 bd (iaS 1 t56 (e.s k16 6)) fun t58 =>
 bd (ld h t58) fun t59 =>
 bd (binK 0 .xor t59 (e.s k16 1)) fun t61 =>
 bd (iaS 1 t46 (e.s k16 6)) fun t62 =>
 bf (stZ 1 h t62 t61) fun _ h1 =>
 ck (ld h t38) t39 (ck (ld h t41) t42 (ck (ld h t45) t46 (ck (ld h t48) t49 (ck (ld h t51) t52 (ck (ld h t55) t56 (ck (ld h t58) t59 (some ⟨.nm, ⟨[(e.s k16 0), (e.s k16 1), (e.s k16 2), (e.s k16 4), (e.s k16 5), (e.s k16 6)], 0, (e.s k16 0)⟩, h1⟩))))))))) fun e h =>
 bd (binK 0 .add (e.s k16 6) (.int .i64 1)) fun t37 =>
 some ⟨.nm, ⟨[(e.s k16 0), (e.s k16 1), (e.s k16 2), (e.s k16 4), (e.s k16 5), t37], 6, t37⟩, h⟩
noncomputable def l16_1 (K : Oracle) (L : Looper) (e : E) (h : H) : Out :=
 sq (sq (bd (fa 0 (e.s k16 2)) fun t15 =>
 bd (ld h t15) fun t16 =>
 bd (iaS 1 t16 (e.s k16 4)) fun t18 =>
 bd (ld h t18) fun t19 =>
 bd (lnS t19) fun t20 =>
 bd (binK 0 .lss (e.s k16 5) t20) fun t21 =>
 some ⟨.nm, ⟨[(e.s k16 0), (e.s k16 1), (e.s k16 2), (e.s k16 4), (e.s k16 5), (e.s k16 6)], 21, t21⟩, h⟩) fun e h =>
 br (e.s k16 21) (some ⟨.nm, e, h⟩)
 (some ⟨.ex 2, e, h⟩)) fun e h =>
 sq (blk 3 (sq (sq (some ⟨.nm, ⟨[(e.s k16 0), (e.s k16 1), (e.s k16 2), (e.s k16 4), (e.s k16 5), (.int .i64 0)], 6, (.int .i64 0)⟩, h⟩) fun e h =>
 blk 4 (L (l16_0 K L) e h)) fun e h =>
 bd (fa 0 (e.s k16 2)) fun t63 =>
 bd (ld h t63) fun t64 =>
 bd (iaS 1 t64 (e.s k16 4)) fun t66 =>
 bd (ld h t66) fun t67 =>
 bd (iaS 2 t67 (e.s k16 5)) fun t69 =>
 bd (fa 1 t69) fun t70 =>
 bf (stZ 1 h t70 (.int .i64 99)) fun _ h1 =>
 some ⟨.nm, ⟨[(e.s k16 0), (e.s k16 1), (e.s k16 2), (e.s k16 4), (e.s k16 5), (e.s k16 6)], 0, (e.s k16 0)⟩, h1⟩)) fun e h =>
 bd (binK 0 .add (e.s k16 5) (.int .i64 1)) fun t23 =>
 some ⟨.nm, ⟨[(e.s k16 0), (e.s k16 1), (e.s k16 2), (e.s k16 4), t23, (e.s k16 6)], 5, t23⟩, h⟩
noncomputable def l16_2 (K : Oracle) (L : Looper) (e : E) (h : H) : Out :=
 sq (sq (bd (fa 0 (e.s k16 2)) fun t8 =>
 bd (ld h t8) fun t9 =>
 bd (lnS t9) fun t10 =>
 bd (binK 0 .lss (e.s k16 4) t10) fun t11 =>
 some ⟨.nm, ⟨[(e.s k16 0), (e.s k16 1), (e.s k16 2), (e.s k16 4), (e.s k16 5), (e.s k16 6)], 11, t11⟩, h⟩) fun e h =>
 br (e.s k16 11) (some ⟨.nm, e, h⟩)
 (some ⟨.ex 0, e, h⟩)) fun e h =>
 sq (blk 1 (sq (some ⟨.nm, ⟨[(e.s k16 0), (e.s k16 1), (e.s k16 2), (e.s k16 4), (.int .i64 0), (e.s k16 6)], 5, (.int .i64 0)⟩, h⟩) fun e h =>
 blk 2 (L (l16_1 K L) e h))) fun e h =>
 bd (binK 0 .add (e.s k16 4) (.int .i64 1)) fun t13 =>
 some ⟨.nm, ⟨[(e.s k16 0), (e.s k16 1), (e.s k16 2), t13, (e.s k16 5), (e.s k16 6)], 4, t13⟩, h⟩
noncomputable def s16 (K : Oracle) (L : Looper) (e : E) (h : H) : Out :=
 sq (bf (bx h 25 (e.s k16 0)) fun t2 h1 =>
 some ⟨.nm, ⟨[(e.s k16 0), (e.s k16 1), t2, (e.s k16 4), (e.s k16 5), (e.s k16 6)], 2, t2⟩, h1⟩) fun e h =>
 sq (some ⟨.nm, ⟨[(e.s k16 0), (e.s k16 1), (e.s k16 2), (.int .i64 0), (e.s k16 5), (e.s k16 6)], 4, (.int .i64 0)⟩, h⟩) fun e h =>
 blk 0 (L (l16_2 K L) e h)
noncomputable def f16 (K : Oracle) (L : Looper) (p0 p1 : V) (h : H) : Option (Rv × H) := fin Try.prog k16 [] (s16 K L ⟨[p0, p1, V.und, V.und, V.und, V.und], 0, p0⟩ h)
theorem r16 : (fun K L p0 p1 h => runFF Try.prog kp K L 16 [p0, p1] h) = f16 := by kernel_rfl
theorem c16 (p0 p1 : V) (h : H) : callZ Try.prog kp 16 [p0, p1] h = f16 (callZ Try.prog kp) loopZ p0 p1 h :=
  (callZ_eqF _ _ _ _ _).trans (congrFun (congrFun (congrFun (congrFun (congrFun (r16) _) _) p0) p1) h)

/-- (*zoetrope/syms.Coder).Set -/
@[simp] def k17 : List Nat := [0, 2, 3]
noncomputable def s17 (K : Oracle) (L : Looper) (e : E) (h : H) : Out :=
 sq (bf (nw h 25 [.nils]) fun t2 h1 =>
 some ⟨.nm, ⟨[(e.s k17 0), t2, (.int .i64 0)], 3, (.int .i64 0)⟩, h1⟩) fun e h =>
 sq (sq (bc k17 [4, 5] e (K 44 [(e.s k17 0)] h) fun t5 h1 =>
 some ⟨.nm, ⟨[(e.s k17 0), (e.s k17 2), (e.s k17 3)], 5, t5⟩, h1⟩) fun e h =>
 br (e.s k17 5) (sq (bd (bl [.nils] []) fun t6 =>
 bf (stZ 1 h (e.s k17 2) t6) fun _ h1 =>
 some ⟨.nm, ⟨[(e.s k17 0), (e.s k17 2), (.int .i64 1)], 3, (.int .i64 1)⟩, h1⟩) fun e h =>
 some ⟨.rt, e, h⟩)
 (some ⟨.nm, e, h⟩)) fun e h =>
 sq (bd (nilC (e.s k17 0)) fun t8 =>
 bd (fa 2 t8) fun t9 =>
 bd (ldn 1 h t9) fun t10 =>
 bc k17 [7, 8, 9, 10, 11, 3] e (K 38 [t10] h) fun t11 h1 =>
 bf (stZ 1 h1 (e.s k17 2) t11) fun _ h2 =>
 some ⟨.nm, ⟨[(e.s k17 0), (e.s k17 2), (.int .i64 0)], 3, (.int .i64 0)⟩, h2⟩) fun e h =>
 some ⟨.rt, e, h⟩
noncomputable def f17 (K : Oracle) (L : Looper) (p0 : V) (h : H) : Option (Rv × H) := fin Try.prog k17 [.cell 2 25, .tmp 3] (s17 K L ⟨[p0, V.und, V.und], 0, p0⟩ h)
theorem r17 : (fun K L p0 h => runFF Try.prog kp K L 17 [p0] h) = f17 := by kernel_rfl
theorem c17 (p0 : V) (h : H) : callZ Try.prog kp 17 [p0] h = f17 (callZ Try.prog kp) loopZ p0 h :=
  (callZ_eqF _ _ _ _ _).trans (congrFun (congrFun (congrFun (congrFun (r17) _) _) p0) h)

/-- zoetrope/zoetropelaw04.step -/
@[simp] def k18 : List Nat := [0, 1, 2, 5, 6, 7, 8, 9, 10, 11, 12, 13, 14]
noncomputable def s18 (K : Oracle) (L : Looper) (e : E) (h : H) : Out :=
 sq (bf (bx h 43 (e.s k18 2)) fun t5 h1 =>
 some ⟨.nm, ⟨[(e.s k18 0), (e.s k18 1), (e.s k18 2), t5, (.bool false), (e.s k18 7), (e.s k18 8), (e.s k18 9), (e.s k18 10), (e.s k18 11), (e.s k18 12), (e.s k18 13), (e.s k18 14)], 6, (.bool false)⟩, h1⟩) fun e h =>
 sq (sq (bd (fa 0 (e.s k18 5)) fun t15 =>
 bd (ld h t15) fun t16 =>
 some ⟨.nm, ⟨[(e.s k18 0), (e.s k18 1), (e.s k18 2), (e.s k18 5), (e.s k18 6), (e.s k18 7), (e.s k18 8), (e.s k18 9), (e.s k18 10), (e.s k18 11), (e.s k18 12), (e.s k18 13), (e.s k18 14)], 16, t16⟩, h⟩) fun e h =>
 br (e.s k18 16) (sq (bd (fa 1 (e.s k18 5)) fun t19 =>
 bd (ld h t19) fun t20 =>
 bd (fa 4 (e.s k18 5)) fun t21 =>
 bd (ld h t21) fun t22 =>
 bc k18 [18, 19, 20, 21, 22, 23, 17, 24, 25, 7, 8] e (K 29 [(e.s k18 0), t20, t22] h) fun t23 h1 =>
 bd (exV t23 0) fun t24 =>
 bd (exV t23 1) fun t25 =>
 some ⟨.nm, ⟨[(e.s k18 0), (e.s k18 1), (e.s k18 2), (e.s k18 5), (e.s k18 6), t24, t25, (e.s k18 9), (e.s k18 10), (e.s k18 11), (e.s k18 12), (e.s k18 13), (e.s k18 14)], 8, t25⟩, h1⟩) fun e h =>
 sq (bd (fa 1 (e.s k18 5)) fun t28 =>
 bd (ld h t28) fun t29 =>
 bd (fa 4 (e.s k18 5)) fun t30 =>
 bd (ld h t30) fun t31 =>
 bc k18 [27, 28, 29, 30, 31, 32, 26, 33, 34, 9, 10] e (K 45 [(e.s k18 1), t29, t31] h) fun t32 h1 =>
 bd (exV t32 0) fun t33 =>
 bd (exV t32 1) fun t34 =>
 some ⟨.nm, ⟨[(e.s k18 0), (e.s k18 1), (e.s k18 2), (e.s k18 5), (e.s k18 6), (e.s k18 7), (e.s k18 8), t33, t34, (e.s k18 11), (e.s k18 12), (e.s k18 13), (e.s k18 14)], 10, t34⟩, h1⟩) fun e h =>
 sq (bd (binK 0 .eql (e.s k18 7) (e.s k18 9)) fun t37 =>
 bd (gl t37 true (some (e.s k18 8))) fun t39 =>
 bd (gl t37 true (some (e.s k18 10))) fun t40 =>
 bd (gl t37 true (binK 0 .eql t39 t40)) fun t41 =>
 bd (pk t37 t41 (.bool false)) fun t42 =>
 bd (gl t42 true (some (e.s k18 0))) fun t44 =>
 bn (gk t42 true h (K 32 [t44] h)) fun t45 h1 =>
 bd (gl t42 true (some (e.s k18 1))) fun t46 =>
 bd (gl t42 true (nilC t46)) fun t47 =>
 bd (gl t42 true (fa 4 t47)) fun t48 =>
 bd (gl t42 true (ld h1 t48)) fun t49 =>
 bd (gl t42 true (binK 0 .eql t45 t49)) fun t50 =>
 bd (pk t42 t50 (.bool false)) fun t51 =>
 ck (gl t42 true (ld h t48)) t49 (ck (gl t42 true (ld h1 t48)) t49 (some ⟨.nm, ⟨[(e.s k18 0), (e.s k18 1), (e.s k18 2), (e.s k18 5), t51, (e.s k18 7), (e.s k18 8), (e.s k18 9), (e.s k18 10), (e.s k18 11), (e.s k18 12), (e.s k18 13), (e.s k18 14)], 6, t51⟩, h1⟩))) fun e h =>
 some ⟨.rt, e, h⟩)
 (some ⟨.nm, e, h⟩)) fun e h =>
 sq (bd (fa 2 (e.s k18 5)) fun t54 =>
 bd (ld h t54) fun t55 =>
 bd (fa 3 (e.s k18 5)) fun t56 =>
 bd (ld h t56) fun t57 =>
 bd (fa 4 (e.s k18 5)) fun t58 =>
 bd (ld h t58) fun t59 =>
 bc k18 [53, 54, 55, 56, 57, 58, 59, 60, 52, 61, 62, 11, 12] e (K 30 [(e.s k18 0), t55, t57, t59] h) fun t60 h1 =>
 bd (exV t60 0) fun t61 =>
 bd (exV t60 1) fun t62 =>
 some ⟨.nm, ⟨[(e.s k18 0), (e.s k18 1), (e.s k18 2), (e.s k18 5), (e.s k18 6), (e.s k18 7), (e.s k18 8), (e.s k18 9), (e.s k18 10), t61, t62, (e.s k18 13), (e.s k18 14)], 12, t62⟩, h1⟩) fun e h =>
 sq (bd (fa 2 (e.s k18 5)) fun t65 =>
 bd (ld h t65) fun t66 =>
 bd (fa 3 (e.s k18 5)) fun t67 =>
 bd (ld h t67) fun t68 =>
 bd (fa 4 (e.s k18 5)) fun t69 =>
 bd (ld h t69) fun t70 =>
 bc k18 [64, 65, 66, 67, 68, 69, 70, 71, 63, 72, 73, 13, 14] e (K 41 [(e.s k18 1), t66, t68, t70] h) fun t71 h1 =>
 bd (exV t71 0) fun t72 =>
 bd (exV t71 1) fun t73 =>
 some ⟨.nm, ⟨[(e.s k18 0), (e.s k18 1), (e.s k18 2), (e.s k18 5), (e.s k18 6), (e.s k18 7), (e.s k18 8), (e.s k18 9), (e.s k18 10), (e.s k18 11), (e.s k18 12), t72, t73], 14, t73⟩, h1⟩) fun e h =>
 sq (bd (binK 0 .eql (e.s k18 11) (e.s k18 13)) fun t76 =>
 bd (gl t76 true (some (e.s k18 12))) fun t78 =>
 bd (gl t76 true (some (e.s k18 14))) fun t79 =>
 bd (gl t76 true (binK 0 .eql t78 t79)) fun t80 =>
 bd (pk t76 t80 (.bool false)) fun t81 =>
 bd (gl t81 true (some (e.s k18 0))) fun t83 =>
 bn (gk t81 true h (K 32 [t83] h)) fun t84 h1 =>
 bd (gl t81 true (some (e.s k18 1))) fun t85 =>
 bd (gl t81 true (nilC t85)) fun t86 =>
 bd (gl t81 true (fa 4 t86)) fun t87 =>
 bd (gl t81 true (ld h1 t87)) fun t88 =>
 bd (gl t81 true (binK 0 .eql t84 t88)) fun t89 =>
 bd (pk t81 t89 (.bool false)) fun t90 =>
 ck (gl t81 true (ld h t87)) t88 (ck (gl t81 true (ld h1 t87)) t88 (some ⟨.nm, ⟨[(e.s k18 0), (e.s k18 1), (e.s k18 2), (e.s k18 5), t90, (e.s k18 7), (e.s k18 8), (e.s k18 9), (e.s k18 10), (e.s k18 11), (e.s k18 12), (e.s k18 13), (e.s k18 14)], 6, t90⟩, h1⟩))) fun e h =>
 some ⟨.rt, e, h⟩
noncomputable def f18 (K : Oracle) (L : Looper) (p0 p1 p2 : V) (h : H) : Option (Rv × H) := fin Try.prog k18 [.tmp 6] (s18 K L ⟨[p0, p1, p2, V.und, V.und, V.und, V.und, V.und, V.und, V.und, V.und, V.und, V.und], 0, p0⟩ h)
theorem r18 : (fun K L p0 p1 p2 h => runFF Try.prog kp K L 18 [p0, p1, p2] h) = f18 := by kernel_rfl
theorem c18 (p0 p1 p2 : V) (h : H) : callZ Try.prog kp 18 [p0, p1, p2] h = f18 (callZ Try.prog kp) loopZ p0 p1 p2 h :=
  (callZ_eqF _ _ _ _ _).trans (congrFun (congrFun (congrFun (congrFun (congrFun (congrFun (r18) _) _) p0) p1) p2) h)

/-- (*zoetrope/syms.Coder).Bytes -/
@[simp] def k19 : List Nat := [0, 2, 3]
noncomputable def s19 (K : Oracle) (L : Looper) (e : E) (h : H) : Out :=
 sq (some ⟨.nm, ⟨[(e.s k19 0), .nils, (.int .i64 0)], 3, (.int .i64 0)⟩, h⟩) fun e h =>
 sq (blk 0 (sq (bc k19 [5, 6, 4] e (K 44 [(e.s k19 0)] h) fun t6 h1 =>
 some ⟨.nm, ⟨[(e.s k19 0), (e.s k19 2), (e.s k19 3)], 4, t6⟩, h1⟩) fun e h =>
 br (e.s k19 4) (sq (some ⟨.nm, ⟨[(e.s k19 0), .nils, (.int .i64 1)], 3, (.int .i64 1)⟩, h⟩) fun e h =>
 some ⟨.rt, e, h⟩)
 (sq (bc k19 [8, 9, 10, 7] e (K 14 [(e.s k19 0)] h) fun t9 h1 =>
 bd (unV .not t9) fun t10 =>
 some ⟨.nm, ⟨[(e.s k19 0), (e.s k19 2), (e.s k19 3)], 7, t10⟩, h1⟩) fun e h =>
 br (e.s k19 7) (sq (some ⟨.nm, ⟨[(e.s k19 0), .nils, (.int .i64 40)], 3, (.int .i64 40)⟩, h⟩) fun e h =>
 some ⟨.rt, e, h⟩)
 (some ⟨.nm, e, h⟩)))) fun e h =>
 sq (bd (nilC (e.s k19 0)) fun t12 =>
 bd (fa 0 t12) fun t13 =>
 bd (ld h t13) fun t14 =>
 bc k19 [11, 12, 13, 14, 15, 2, 3] e (K 46 [t14] h) fun t15 h1 =>
 some ⟨.nm, ⟨[(e.s k19 0), t15, (.int .i64 0)], 3, (.int .i64 0)⟩, h1⟩) fun e h =>
 some ⟨.rt, e, h⟩
noncomputable def f19 (K : Oracle) (L : Looper) (p0 : V) (h : H) : Option (Rv × H) := fin Try.prog k19 [.tmp 2, .tmp 3] (s19 K L ⟨[p0, V.und, V.und], 0, p0⟩ h)
theorem r19 : (fun K L p0 h => runFF Try.prog kp K L 19 [p0] h) = f19 := by kernel_rfl
theorem c19 (p0 : V) (h : H) : callZ Try.prog kp 19 [p0] h = f19 (callZ Try.prog kp) loopZ p0 h :=
  (callZ_eqF _ _ _ _ _).trans (congrFun (congrFun (congrFun (congrFun (r19) _) _) p0) h)

/-- (*zoetrope/zoetroperef04.Coder).Bytes -/
@[simp] def k20 : List Nat := [0, 2, 3]
noncomputable def s20 (K : Oracle) (L : Looper) (e : E) (h : H) : Out :=
 sq (some ⟨.nm, ⟨[(e.s k20 0), .nils, (.int .i64 0)], 3, (.int .i64 0)⟩, h⟩) fun e h =>
 sq (sq (bd (nilC (e.s k20 0)) fun t5 =>
 bd (fa 0 t5) fun t6 =>
 bd (ld h t6) fun t7 =>
 bd (binK 2 .eql t7 .nilp) fun t8 =>
 some ⟨.nm, ⟨[(e.s k20 0), (e.s k20 2), (e.s k20 3)], 8, t8⟩, h⟩) fun e h =>
 br (e.s k20 8) (sq (some ⟨.nm, ⟨[(e.s k20 0), .nils, (.int .i64 40)], 3, (.int .i64 40)⟩, h⟩) fun e h =>
 some ⟨.rt, e, h⟩)
 (some ⟨.nm, e, h⟩)) fun e h =>
 sq (bd (nilC (e.s k20 0)) fun t10 =>
 bd (fa 0 t10) fun t11 =>
 bd (ld h t11) fun t12 =>
 bc k20 [9, 10, 11, 12, 13, 2, 3] e (K 47 [t12] h) fun t13 h1 =>
 some ⟨.nm, ⟨[(e.s k20 0), t13, (.int .i64 0)], 3, (.int .i64 0)⟩, h1⟩) fun e h =>
 some ⟨.rt, e, h⟩
noncomputable def f20 (K : Oracle) (L : Looper) (p0 : V) (h : H) : Option (Rv × H) := fin Try.prog k20 [.tmp 2, .tmp 3] (s20 K L ⟨[p0, V.und, V.und], 0, p0⟩ h)
theorem r20 : (fun K L p0 h => runFF Try.prog kp K L 20 [p0] h) = f20 := by kernel_rfl
theorem c20 (p0 : V) (h : H) : callZ Try.prog kp 20 [p0] h = f20 (callZ Try.prog kp) loopZ p0 h :=
  (callZ_eqF _ _ _ _ _).trans (congrFun (congrFun (congrFun (congrFun (r20) _) _) p0) h)

/-- zoetrope/zoetroperef00.EqBytes -/
@[simp] def k21 : List Nat := [0, 1, 4, 5]
noncomputable def l21_0 (K : Oracle) (L : Looper) (e : E) (h : H) : Out :=
 sq (sq (bd (lnS (e.s k21 0)) fun t13 =>
 bd (binK 0 .lss (e.s k21 5) t13) fun t14 =>
 some ⟨.nm, ⟨[(e.s k21 0), (e.s k21 1), (e.s k21 4), (e.s k21 5)], 14, t14⟩, h⟩) fun e h =>
 br (e.s k21 14) (some ⟨.nm, e, h⟩)
 (some ⟨.ex 0, e, h⟩)) fun e h =>
 sq (blk 1 (sq (bd (iaS 1 (e.s k21 0) (e.s k21 5)) fun t19 =>
 bd (ld h t19) fun t20 =>
 bd (iaS 1 (e.s k21 1) (e.s k21 5)) fun t23 =>
 bd (ld h t23) fun t24 =>
 bd (binK 0 .neq t20 t24) fun t25 =>
 ck (ld h t19) t20 (ck (ld h t23) t24 (some ⟨.nm, ⟨[(e.s k21 0), (e.s k21 1), (e.s k21 4), (e.s k21 5)], 25, t25⟩, h⟩))) fun e h =>
 br (e.s k21 25) (sq (some ⟨.nm, ⟨[(e.s k21 0), (e.s k21 1), (.bool false), (e.s k21 5)], 4, (.bool false)⟩, h⟩) fun e h =>
 some ⟨.rt, e, h⟩)
 (some ⟨.nm, e, h⟩))) fun e h =>
 bd (binK 0 .add (e.s k21 5) (.int .i64 1)) fun t16 =>
 some ⟨.nm, ⟨[(e.s k21 0), (e.s k21 1), (e.s k21 4), t16], 5, t16⟩, h⟩
noncomputable def s21 (K : Oracle) (L : Looper) (e : E) (h : H) : Out :=
 sq (some ⟨.nm, ⟨[(e.s k21 0), (e.s k21 1), (.bool false), (e.s k21 5)], 4, (.bool false)⟩, h⟩) fun e h =>
 sq (sq (bd (lnS (e.s k21 0)) fun t7 =>
 bd (lnS (e.s k21 1)) fun t9 =>
 bd (binK 0 .neq t7 t9) fun t10 =>
 some ⟨.nm, ⟨[(e.s k21 0), (e.s k21 1), (e.s k21 4), (e.s k21 5)], 10, t10⟩, h⟩) fun e h =>
 br (e.s k21 10) (sq (some ⟨.nm, ⟨[(e.s k21 0), (e.s k21 1), (.bool false), (e.s k21 5)], 4, (.bool false)⟩, h⟩) fun e h =>
 some ⟨.rt, e, h⟩)
 (some ⟨.nm, e, h⟩)) fun e h =>
 sq (sq (some ⟨.nm, ⟨[(e.s k21 0), (e.s k21 1), (e.s k21 4), (.int .i64 0)], 5, (.int .i64 0)⟩, h⟩) fun e h =>
 blk 0 (L (l21_0 K L) e h)) fun e h =>
 sq (some ⟨.nm, ⟨[(e.s k21 0), (e.s k21 1), (.bool true), (e.s k21 5)], 4, (.bool true)⟩, h⟩) fun e h =>
 some ⟨.rt, e, h⟩
noncomputable def f21 (K : Oracle) (L : Looper) (p0 p1 : V) (h : H) : Option (Rv × H) := fin Try.prog k21 [.tmp 4] (s21 K L ⟨[p0, p1, V.und, V.und], 0, p0⟩ h)
theorem r21 : (fun K L p0 p1 h => runFF Try.prog kp K L 21 [p0, p1] h) = f21 := by kernel_rfl
theorem c21 (p0 p1 : V) (h : H) : callZ Try.prog kp 21 [p0, p1] h = f21 (callZ Try.prog kp) loopZ p0 p1 h :=
  (callZ_eqF _ _ _ _ _).trans (congrFun (congrFun (congrFun (congrFun (congrFun (r21) _) _) p0) p1) h)

/-- zoetrope/zoetropelaw04.awake -/
@[simp] def k22 : List Nat := [0, 1, 2, 3, 5, 7, 8, 9, 10, 11, 13]
noncomputable def s22 (K : Oracle) (L : Looper) (e : E) (h : H) : Out :=
 sq (some ⟨.nm, ⟨[(.bool false), (e.s k22 1), (e.s k22 2), (e.s k22 3), (e.s k22 5), (e.s k22 7), (e.s k22 8), (e.s k22 9), (e.s k22 10), (e.s k22 11), (e.s k22 13)], 0, (.bool false)⟩, h⟩) fun e h =>
 sq (bc k22 [16, 17, 15, 18, 19, 1, 2] e (K 27 [] h) fun t16 h1 =>
 bc k22 [16, 17, 15, 18, 19, 1, 2] e (K 12 [t16, (.bool true)] h1) fun t17 h2 =>
 bd (exV t17 0) fun t18 =>
 bd (exV t17 1) fun t19 =>
 some ⟨.nm, ⟨[(e.s k22 0), t18, t19, (e.s k22 3), (e.s k22 5), (e.s k22 7), (e.s k22 8), (e.s k22 9), (e.s k22 10), (e.s k22 11), (e.s k22 13)], 2, t19⟩, h2⟩) fun e h =>
 sq (sq (bd (binK 0 .neq (e.s k22 2) (.int .i64 0)) fun t21 =>
 bd (gl t21 false (some (e.s k22 1))) fun t23 =>
 bd (gl t21 false (binK 2 .eql t23 .nilp)) fun t24 =>
 bd (pk t21 (.bool true) t24) fun t25 =>
 some ⟨.nm, ⟨[(e.s k22 0), (e.s k22 1), (e.s k22 2), (e.s k22 3), (e.s k22 5), (e.s k22 7), (e.s k22 8), (e.s k22 9), (e.s k22 10), (e.s k22 11), (e.s k22 13)], 25, t25⟩, h⟩) fun e h =>
 br (e.s k22 25) (sq (some ⟨.nm, ⟨[(.bool false), (e.s k22 1), (e.s k22 2), (e.s k22 3), (e.s k22 5), (e.s k22 7), (e.s k22 8), (e.s k22 9), (e.s k22 10), (e.s k22 11), (e.s k22 13)], 0, (.bool false)⟩, h⟩) fun e h =>
 some ⟨.rt, e, h⟩)
 (some ⟨.nm, e, h⟩)) fun e h =>
 sq (bc k22 [27, 28, 26, 29, 30, 3, 4] e (K 30 [(e.s k22 1), (.int .i64 2), (.int .i64 0), (.int .i64 1)] h) fun t28 h1 =>
 bd (exV t28 0) fun t29 =>
 bd (exV t28 1) fun t30 =>
 some ⟨.nm, ⟨[(e.s k22 0), (e.s k22 1), (e.s k22 2), t29, (e.s k22 5), (e.s k22 7), (e.s k22 8), (e.s k22 9), (e.s k22 10), (e.s k22 11), (e.s k22 13)], 4, t30⟩, h1⟩) fun e h =>
 sq (bc k22 [32, 33, 31, 34, 35, 5, 6] e (K 29 [(e.s k22 1), (.int .i64 3), (.int .i64 5)] h) fun t33 h1 =>
 bd (exV t33 0) fun t34 =>
 bd (exV t33 1) fun t35 =>
 some ⟨.nm, ⟨[(e.s k22 0), (e.s k22 1), (e.s k22 2), (e.s k22 3), t34, (e.s k22 7), (e.s k22 8), (e.s k22 9), (e.s k22 10), (e.s k22 11), (e.s k22 13)], 6, t35⟩, h1⟩) fun e h =>
 sq (bc k22 [37, 38, 36, 39, 40, 7, 8] e (K 19 [(e.s k22 1)] h) fun t38 h1 =>
 bd (exV t38 0) fun t39 =>
 bd (exV t38 1) fun t40 =>
 some ⟨.nm, ⟨[(e.s k22 0), (e.s k22 1), (e.s k22 2), (e.s k22 3), (e.s k22 5), t39, t40, (e.s k22 9), (e.s k22 10), (e.s k22 11), (e.s k22 13)], 8, t40⟩, h1⟩) fun e h =>
 sq (bc k22 [42, 43, 44, 41, 45, 46, 9, 10] e (K 27 [] h) fun t43 h1 =>
 bc k22 [42, 43, 44, 41, 45, 46, 9, 10] e (K 25 [(e.s k22 7), t43, (.bool true)] h1) fun t44 h2 =>
 bd (exV t44 0) fun t45 =>
 bd (exV t44 1) fun t46 =>
 some ⟨.nm, ⟨[(e.s k22 0), (e.s k22 1), (e.s k22 2), (e.s k22 3), (e.s k22 5), (e.s k22 7), (e.s k22 8), t45, t46, (e.s k22 11), (e.s k22 13)], 10, t46⟩, h2⟩) fun e h =>
 sq (sq (bd (binK 0 .neq (e.s k22 8) (.int .i64 0)) fun t48 =>
 bd (gl t48 false (some (e.s k22 10))) fun t50 =>
 bd (gl t48 false (binK 0 .neq t50 (.int .i64 0))) fun t51 =>
 bd (pk t48 (.bool true) t51) fun t52 =>
 bd (gl t52 false (some (e.s k22 9))) fun t54 =>
 bd (gl t52 false (binK 2 .eql t54 .nilp)) fun t55 =>
 bd (pk t52 (.bool true) t55) fun t56 =>
 some ⟨.nm, ⟨[(e.s k22 0), (e.s k22 1), (e.s k22 2), (e.s k22 3), (e.s k22 5), (e.s k22 7), (e.s k22 8), (e.s k22 9), (e.s k22 10), (e.s k22 11), (e.s k22 13)], 56, t56⟩, h⟩) fun e h =>
 br (e.s k22 56) (sq (some ⟨.nm, ⟨[(.bool false), (e.s k22 1), (e.s k22 2), (e.s k22 3), (e.s k22 5), (e.s k22 7), (e.s k22 8), (e.s k22 9), (e.s k22 10), (e.s k22 11), (e.s k22 13)], 0, (.bool false)⟩, h⟩) fun e h =>
 some ⟨.rt, e, h⟩)
 (some ⟨.nm, e, h⟩)) fun e h =>
 sq (bc k22 [58, 59, 57, 60, 61, 11, 12] e (K 30 [(e.s k22 9), (.int .i64 2), (.int .i64 0), (.int .i64 0)] h) fun t59 h1 =>
 bd (exV t59 0) fun t60 =>
 bd (exV t59 1) fun t61 =>
 some ⟨.nm, ⟨[(e.s k22 0), (e.s k22 1), (e.s k22 2), (e.s k22 3), (e.s k22 5), (e.s k22 7), (e.s k22 8), (e.s k22 9), (e.s k22 10), t60, (e.s k22 13)], 12, t61⟩, h1⟩) fun e h =>
 sq (bc k22 [63, 64, 62, 65, 66, 13, 14] e (K 29 [(e.s k22 9), (.int .i64 3), (.int .i64 0)] h) fun t64 h1 =>
 bd (exV t64 0) fun t65 =>
 bd (exV t64 1) fun t66 =>
 some ⟨.nm, ⟨[(e.s k22 0), (e.s k22 1), (e.s k22 2), (e.s k22 3), (e.s k22 5), (e.s k22 7), (e.s k22 8), (e.s k22 9), (e.s k22 10), (e.s k22 11), t65], 14, t66⟩, h1⟩) fun e h =>
 sq (bd (binK 0 .eql (e.s k22 3) (.int .i64 1)) fun t68 =>
 bd (gl t68 true (some (e.s k22 5))) fun t70 =>
 bd (gl t68 true (binK 0 .eql t70 (.int .i64 5))) fun t71 =>
 bd (pk t68 t71 (.bool false)) fun t72 =>
 bd (gl t72 true (some (e.s k22 11))) fun t74 =>
 bd (gl t72 true (binK 0 .eql t74 (.int .i64 1))) fun t75 =>
 bd (pk t72 t75 (.bool false)) fun t76 =>
 bd (gl t76 true (some (e.s k22 13))) fun t78 =>
 bd (gl t76 true (binK 0 .eql t78 (.int .i64 5))) fun t79 =>
 bd (pk t76 t79 (.bool false)) fun t80 =>
 bd (gl t80 true (some (e.s k22 1))) fun t82 =>
 bc k22 [67, 68, 69, 70, 71, 72, 73, 74, 75, 76, 77, 78, 79, 80, 81, 82, 83, 84, 85, 86, 87, 88, 89, 90, 0] e (gk t80 true h (K 32 [t82] h)) fun t83 h1 =>
 bd (gl t80 true (binK 0 .eql t83 (.int .i64 4))) fun t84 =>
 bd (pk t80 t84 (.bool false)) fun t85 =>
 bd (gl t85 true (some (e.s k22 9))) fun t87 =>
 bc k22 [67, 68, 69, 70, 71, 72, 73, 74, 75, 76, 77, 78, 79, 80, 81, 82, 83, 84, 85, 86, 87, 88, 89, 90, 0] e (gk t85 true h1 (K 32 [t87] h1)) fun t88 h2 =>
 bd (gl t85 true (binK 0 .eql t88 (.int .i64 4))) fun t89 =>
 bd (pk t85 t89 (.bool false)) fun t90 =>
 some ⟨.nm, ⟨[t90, (e.s k22 1), (e.s k22 2), (e.s k22 3), (e.s k22 5), (e.s k22 7), (e.s k22 8), (e.s k22 9), (e.s k22 10), (e.s k22 11), (e.s k22 13)], 0, t90⟩, h2⟩) fun e h =>
 some ⟨.rt, e, h⟩
noncomputable def f22 (K : Oracle) (L : Looper) (h : H) : Option (Rv × H) := fin Try.prog k22 [.tmp 0] (s22 K L ⟨[V.und, V.und, V.und, V.und, V.und, V.und, V.und, V.und, V.und, V.und, V.und], 0, V.und⟩ h)
theorem r22 : (fun K L h => runFF Try.prog kp K L 22 [] h) = f22 := by kernel_rfl
theorem c22 (h : H) : callZ Try.prog kp 22 [] h = f22 (callZ Try.prog kp) loopZ h :=
  (callZ_eqF _ _ _ _ _).trans (congrFun (congrFun (congrFun (r22) _) _) h)

/-- zoetrope/zoetroperef00.CopyBytes -/
@[simp] def k23 : List Nat := [0, 2, 3]
noncomputable def s23 (K : Oracle) (L : Looper) (e : E) (h : H) : Out :=
 sq (some ⟨.nm, ⟨[(e.s k23 0), .nils, (e.s k23 3)], 2, .nils⟩, h⟩) fun e h =>
 sq (some ⟨.nm, ⟨[(e.s k23 0), (e.s k23 2), .nils], 3, .nils⟩, h⟩) fun e h =>
 sq (bf (apZ 5 1 1 h (e.s k23 3) (e.s k23 0)) fun t6 h1 =>
 some ⟨.nm, ⟨[(e.s k23 0), (e.s k23 2), t6], 3, t6⟩, h1⟩) fun e h =>
 sq (some ⟨.nm, ⟨[(e.s k23 0), (e.s k23 3), (e.s k23 3)], 2, (e.s k23 3)⟩, h⟩) fun e h =>
 some ⟨.rt, e, h⟩
noncomputable def f23 (K : Oracle) (L : Looper) (p0 : V) (h : H) : Option (Rv × H) := fin Try.prog k23 [.tmp 2] (s23 K L ⟨[p0, V.und, V.und], 0, p0⟩ h)
theorem r23 : (fun K L p0 h => runFF Try.prog kp K L 23 [p0] h) = f23 := by kernel_rfl
theorem c23 (p0 : V) (h : H) : callZ Try.prog kp 23 [p0] h = f23 (callZ Try.prog kp) loopZ p0 h :=
  (callZ_eqF _ _ _ _ _).trans (congrFun (congrFun (congrFun (congrFun (r23) _) _) p0) h)

/-- zoetrope/zoetroperef04.Default -/
@[simp] def k24 : List Nat := [0, 1, 2, 3, 4, 5, 6]
noncomputable def l24_0 (K : Oracle) (L : Looper) (e : E) (h : H) : Out :=
 sq (sq (bd (iaS 3 (e.s k24 2) (e.s k24 3)) fun t18 =>
 bd (iaA 3 1 t18 (.int .i64 0)) fun t19 =>
 bd (ld h t19) fun t20 =>
 bd (binK 0 .lss (e.s k24 5) t20) fun t21 =>
 some ⟨.nm, ⟨[(e.s k24 0), (e.s k24 1), (e.s k24 2), (e.s k24 3), (e.s k24 4), (e.s k24 5), (e.s k24 6)], 21, t21⟩, h⟩) fun e h =>
 br (e.s k24 21) (some ⟨.nm, e, h⟩)
 (some ⟨.ex 2, e, h⟩)) fun e h =>
 sq (blk 3 (sq (bd (iaS 3 (e.s k24 2) (e.s k24 3)) fun t27 =>
 bd (iaA 3 1 t27 (.int .i64 1)) fun t28 =>
 bd (ld h t28) fun t29 =>
 bc k24 [25, 26, 27, 28, 29, 30, 24, 31, 32, 6, 7] e (K 49 [t29] h) fun t30 h1 =>
 bd (exV t30 0) fun t31 =>
 bd (exV t30 1) fun t32 =>
 bf (nw h1 72 [.nils, (.int .i64 0)]) fun t6 h2 =>
 bf (stZ 2 h2 t6 t31) fun _ h3 =>
 some ⟨.nm, ⟨[(e.s k24 0), (e.s k24 1), (e.s k24 2), (e.s k24 3), (e.s k24 4), (e.s k24 5), t6], 7, t32⟩, h3⟩) fun e h =>
 sq (sq (bd (iaS 3 (e.s k24 2) (e.s k24 3)) fun t35 =>
 bd (iaA 3 1 t35 (.int .i64 2)) fun t36 =>
 bd (ld h t36) fun t37 =>
 bd (binK 0 .eql t37 (.int .i64 1)) fun t38 =>
 some ⟨.nm, ⟨[(e.s k24 0), (e.s k24 1), (e.s k24 2), (e.s k24 3), (e.s k24 4), (e.s k24 5), (e.s k24 6)], 38, t38⟩, h⟩) fun e h =>
 br (e.s k24 38) (bd (iaS 3 (e.s k24 2) (e.s k24 3)) fun t42 =>
 bd (iaA 3 1 t42 (.int .i64 1)) fun t43 =>
 bd (ld h t43) fun t44 =>
 bc k24 [40, 41, 42, 43, 44, 45, 39, 46, 47] e (K 50 [t44] h) fun t45 h1 =>
 bd (exV t45 0) fun t46 =>
 bd (exV t45 1) fun t47 =>
 bf (stZ 2 h1 (e.s k24 6) t46) fun _ h2 =>
 some ⟨.nm, ⟨[(e.s k24 0), (e.s k24 1), (e.s k24 2), (e.s k24 3), (e.s k24 4), (e.s k24 5), (e.s k24 6)], 0, (e.s k24 0)⟩, h2⟩)
 (some ⟨.nm, e, h⟩)) fun e h =>
 bd (ldn 2 h (e.s k24 6)) fun t49 =>
 bf (bs h 72 1 [.nils, (.int .i64 0)] [(some (0, 2), t49)]) fun t50 h1 =>
 bf (apZ 72 2 32 h1 (e.s k24 4) t50) fun t51 h2 =>
 some ⟨.nm, ⟨[(e.s k24 0), (e.s k24 1), (e.s k24 2), (e.s k24 3), t51, (e.s k24 5), (e.s k24 6)], 4, t51⟩, h2⟩)) fun e h =>
 bd (binK 0 .add (e.s k24 5) (.int .i64 1)) fun t23 =>
 some ⟨.nm, ⟨[(e.s k24 0), (e.s k24 1), (e.s k24 2), (e.s k24 3), (e.s k24 4), t23, (e.s k24 6)], 5, t23⟩, h⟩
noncomputable def l24_1 (K : Oracle) (L : Looper) (e : E) (h : H) : Out :=
 sq (sq (bd (lnS (e.s k24 2)) fun t11 =>
 bd (binK 0 .lss (e.s k24 3) t11) fun t12 =>
 some ⟨.nm, ⟨[(e.s k24 0), (e.s k24 1), (e.s k24 2), (e.s k24 3), (e.s k24 4), (e.s k24 5), (e.s k24 6)], 12, t12⟩, h⟩) fun e h =>
 br (e.s k24 12) (some ⟨.nm, e, h⟩)
 (some ⟨.ex 0, e, h⟩)) fun e h =>
 sq (blk 1 (sq (some ⟨.nm, ⟨[(e.s k24 0), (e.s k24 1), (e.s k24 2), (e.s k24 3), .nils, (e.s k24 5), (e.s k24 6)], 4, .nils⟩, h⟩) fun e h =>
 sq (sq (some ⟨.nm, ⟨[(e.s k24 0), (e.s k24 1), (e.s k24 2), (e.s k24 3), (e.s k24 4), (.int .i64 0), (e.s k24 6)], 5, (.int .i64 0)⟩, h⟩) fun e h =>
 blk 2 (L (l24_0 K L) e h)) fun e h =>
 bd (fa 0 (e.s k24 1)) fun t52 =>
 bd (ld h t52) fun t53 =>
 bf (bs h 75 1 [.nils] [(some (0, 1), (e.s k24 4))]) fun t55 h1 =>
 bf (apZ 75 1 24 h1 t53 t55) fun t56 h2 =>
 bd (fa 0 (e.s k24 1)) fun t57 =>
 bf (stZ 1 h2 t57 t56) fun _ h3 =>
 some ⟨.nm, ⟨[(e.s k24 0), (e.s k24 1), (e.s k24 2), (e.s k24 3), (e.s k24 4), (e.s k24 5), (e.s k24 6)], 0, (e.s k24 0)⟩, h3⟩)) fun e h =>
 bd (binK 0 .add (e.s k24 3) (.int .i64 1)) fun t14 =>
 some ⟨.nm, ⟨[(e.s k24 0), (e.s k24 1), (e.s k24 2), t14, (e.s k24 4), (e.s k24 5), (e.s k24 6)], 3, t14⟩, h⟩
noncomputable def s24 (K : Oracle) (L : Looper) (e : E) (h : H) : Out :=
 sq (bf (nw h 25 [.nils]) fun t0 h1 =>
 some ⟨.nm, ⟨[t0, (e.s k24 1), (e.s k24 2), (e.s k24 3), (e.s k24 4), (e.s k24 5), (e.s k24 6)], 0, t0⟩, h1⟩) fun e h =>
 sq (bf (nw h 25 [.nils]) fun t1 h1 =>
 some ⟨.nm, ⟨[(e.s k24 0), t1, (e.s k24 2), (e.s k24 3), (e.s k24 4), (e.s k24 5), (e.s k24 6)], 1, t1⟩, h1⟩) fun e h =>
 sq (bc k24 [8, 2] e (K 48 [] h) fun t8 h1 =>
 some ⟨.nm, ⟨[(e.s k24 0), (e.s k24 1), t8, (e.s k24 3), (e.s k24 4), (e.s k24 5), (e.s k24 6)], 2, t8⟩, h1⟩) fun e h =>
 sq (sq (some ⟨.nm, ⟨[(e.s k24 0), (e.s k24 1), (e.s k24 2), (.int .i64 0), (e.s k24 4), (e.s k24 5), (e.s k24 6)], 3, (.int .i64 0)⟩, h⟩) fun e h =>
 blk 0 (L (l24_1 K L) e h)) fun e h =>
 sq (bd (ldn 1 h (e.s k24 1)) fun t58 =>
 bf (stZ 1 h (e.s k24 0) t58) fun _ h1 =>
 some ⟨.nm, ⟨[(e.s k24 0), (e.s k24 1), (e.s k24 2), (e.s k24 3), (e.s k24 4), (e.s k24 5), (e.s k24 6)], 0, (e.s k24 0)⟩, h1⟩) fun e h =>
 some ⟨.rt, e, h⟩
noncomputable def f24 (K : Oracle) (L : Looper) (h : H) : Option (Rv × H) := fin Try.prog k24 [.cell 0 25] (s24 K L ⟨[V.und, V.und, V.und, V.und, V.und, V.und, V.und], 0, V.und⟩ h)
theorem r24 : (fun K L h => runFF Try.prog kp K L 24 [] h) = f24 := by kernel_rfl
theorem c24 (h : H) : callZ Try.prog kp 24 [] h = f24 (callZ Try.prog kp) loopZ h :=
  (callZ_eqF _ _ _ _ _).trans (congrFun (congrFun (congrFun (r24) _) _) h)

/-- zoetrope/syms.Reader -/
@[simp] def k25 : List Nat := [0, 1, 2, 4, 6, 7, 8]
noncomputable def s25 (K : Oracle) (L : Looper) (e : E) (h : H) : Out :=
 sq (bf (bx h 25 (e.s k25 1)) fun t4 h1 =>
 some ⟨.nm, ⟨[(e.s k25 0), (e.s k25 1), (e.s k25 2), t4, .nilp, (.int .i64 0), (e.s k25 8)], 7, (.int .i64 0)⟩, h1⟩) fun e h =>
 sq (sq (bd (ldn 1 h (e.s k25 4)) fun t9 =>
 bc k25 [9, 10, 8] e (K 34 [t9] h) fun t10 h1 =>
 some ⟨.nm, ⟨[(e.s k25 0), (e.s k25 1), (e.s k25 2), (e.s k25 4), (e.s k25 6), (e.s k25 7), t10], 8, t10⟩, h1⟩) fun e h =>
 sq (bd (binK 0 .neq (e.s k25 8) (.int .i64 0)) fun t12 =>
 some ⟨.nm, ⟨[(e.s k25 0), (e.s k25 1), (e.s k25 2), (e.s k25 4), (e.s k25 6), (e.s k25 7), (e.s k25 8)], 12, t12⟩, h⟩) fun e h =>
 br (e.s k25 12) (sq (some ⟨.nm, ⟨[(e.s k25 0), (e.s k25 1), (e.s k25 2), (e.s k25 4), .nilp, (e.s k25 8), (e.s k25 8)], 7, (e.s k25 8)⟩, h⟩) fun e h =>
 some ⟨.rt, e, h⟩)
 (some ⟨.nm, e, h⟩)) fun e h =>
 sq (bn (K 51 [(e.s k25 0)] h) fun t15 h1 =>
 bd (ldn 1 h1 (e.s k25 4)) fun t16 =>
 bn (K 38 [t16] h1) fun t17 h2 =>
 bd (bl [.nilp, .nilp, .nils, (.bool false), (.int .i64 0)] [(some (1, 1), t15), (some (2, 1), t17), (some (3, 1), (e.s k25 2))]) fun t19 =>
 bf (bx h2 84 t19) fun t20 h3 =>
 ck (ldn 1 h (e.s k25 4)) t16 (ck (ldn 1 h1 (e.s k25 4)) t16 (some ⟨.nm, ⟨[(e.s k25 0), (e.s k25 1), (e.s k25 2), (e.s k25 4), t20, (.int .i64 0), (e.s k25 8)], 7, (.int .i64 0)⟩, h3⟩))) fun e h =>
 some ⟨.rt, e, h⟩
noncomputable def f25 (K : Oracle) (L : Looper) (p0 p1 p2 : V) (h : H) : Option (Rv × H) := fin Try.prog k25 [.tmp 6, .tmp 7] (s25 K L ⟨[p0, p1, p2, V.und, V.und, V.und, V.und], 0, p0⟩ h)
theorem r25 : (fun K L p0 p1 p2 h => runFF Try.prog kp K L 25 [p0, p1, p2] h) = f25 := by kernel_rfl
theorem c25 (p0 p1 p2 : V) (h : H) : callZ Try.prog kp 25 [p0, p1, p2] h = f25 (callZ Try.prog kp) loopZ p0 p1 p2 h :=
  (callZ_eqF _ _ _ _ _).trans (congrFun (congrFun (congrFun (congrFun (congrFun (congrFun (r25) _) _) p0) p1) p2) h)

/-- zoetrope/zoetroperef04.Reader -/
@[simp] def k26 : List Nat := [0, 1, 2, 4, 6, 7]
noncomputable def s26 (K : Oracle) (L : Looper) (e : E) (h : H) : Out :=
 sq (bf (bx h 25 (e.s k26 1)) fun t4 h1 =>
 some ⟨.nm, ⟨[(e.s k26 0), (e.s k26 1), (e.s k26 2), t4, .nilp, (.int .i64 0)], 7, (.int .i64 0)⟩, h1⟩) fun e h =>
 sq (sq (bd (ldn 1 h (e.s k26 4)) fun t8 =>
 bc k26 [8, 9, 10] e (K 37 [t8] h) fun t9 h1 =>
 bd (binK 0 .neq t9 (.int .i64 0)) fun t10 =>
 some ⟨.nm, ⟨[(e.s k26 0), (e.s k26 1), (e.s k26 2), (e.s k26 4), (e.s k26 6), (e.s k26 7)], 10, t10⟩, h1⟩) fun e h =>
 br (e.s k26 10) (sq (some ⟨.nm, ⟨[(e.s k26 0), (e.s k26 1), (e.s k26 2), (e.s k26 4), .nilp, (.int .i64 2)], 7, (.int .i64 2)⟩, h⟩) fun e h =>
 some ⟨.rt, e, h⟩)
 (some ⟨.nm, e, h⟩)) fun e h =>
 sq (bn (K 52 [(e.s k26 0)] h) fun t12 h1 =>
 bd (ldn 1 h1 (e.s k26 4)) fun t13 =>
 bn (K 11 [t13] h1) fun t14 h2 =>
 bd (bl [.nilp, .nilp, .nils, (.bool false), (.int .i64 0)] [(some (1, 1), t12), (some (2, 1), t14), (some (3, 1), (e.s k26 2))]) fun t16 =>
 bf (bx h2 51 t16) fun t17 h3 =>
 ck (ldn 1 h (e.s k26 4)) t13 (ck (ldn 1 h1 (e.s k26 4)) t13 (some ⟨.nm, ⟨[(e.s k26 0), (e.s k26 1), (e.s k26 2), (e.s k26 4), t17, (.int .i64 0)], 7, (.int .i64 0)⟩, h3⟩))) fun e h =>
 some ⟨.rt, e, h⟩
noncomputable def f26 (K : Oracle) (L : Looper) (p0 p1 p2 : V) (h : H) : Option (Rv × H) := fin Try.prog k26 [.tmp 6, .tmp 7] (s26 K L ⟨[p0, p1, p2, V.und, V.und, V.und], 0, p0⟩ h)
theorem r26 : (fun K L p0 p1 p2 h => runFF Try.prog kp K L 26 [p0, p1, p2] h) = f26 := by kernel_rfl
theorem c26 (p0 p1 p2 : V) (h : H) : callZ Try.prog kp 26 [p0, p1, p2] h = f26 (callZ Try.prog kp) loopZ p0 p1 p2 h :=
  (callZ_eqF _ _ _ _ _).trans (congrFun (congrFun (congrFun (congrFun (congrFun (congrFun (r26) _) _) p0) p1) p2) h)

/-- zoetrope/syms.Default -/
@[simp] def k27 : List Nat := [0, 1, 3, 4, 5, 6, 7, 8, 17, 18]
noncomputable def l27_0 (K : Oracle) (L : Looper) (e : E) (h : H) : Out :=
 sq (bd (binK 0 .lss (e.s k27 18) (e.s k27 17)) fun t19 =>
 some ⟨.nm, ⟨[(e.s k27 0), (e.s k27 1), (e.s k27 3), (e.s k27 4), (e.s k27 5), (e.s k27 6), (e.s k27 7), (e.s k27 8), (e.s k27 17), (e.s k27 18)], 19, t19⟩, h⟩) fun e h =>
 sq (br (e.s k27 19) (some ⟨.nm, e, h⟩)
 (some ⟨.ex 2, e, h⟩)) fun e h =>
 sq (blk 3 (sq (some ⟨.nm, ⟨[(e.s k27 0), (e.s k27 1), (e.s k27 3), (e.s k27 4), (e.s k27 5), (e.s k27 18), (e.s k27 7), (e.s k27 8), (e.s k27 17), (e.s k27 18)], 6, (e.s k27 18)⟩, h⟩) fun e h =>
 bd (fa 1 (e.s k27 3)) fun t25 =>
 bd (ld h t25) fun t26 =>
 bc k27 [22, 23, 24, 25, 26, 27, 21, 28, 29, 30] e (cdy K (e.s k27 4) [t26] h) fun t27 h1 =>
 bd (exV t27 0) fun t28 =>
 bd (exV t27 1) fun t29 =>
 bd (iaS 2 (e.s k27 5) (e.s k27 6)) fun t30 =>
 bf (stZ 2 h1 t30 t28) fun _ h2 =>
 some ⟨.nm, ⟨[(e.s k27 0), (e.s k27 1), (e.s k27 3), (e.s k27 4), (e.s k27 5), (e.s k27 6), (e.s k27 7), (e.s k27 8), (e.s k27 17), (e.s k27 18)], 0, (e.s k27 0)⟩, h2⟩)) fun e h =>
 bd (binK 0 .add (e.s k27 18) (.int .i64 1)) fun t31 =>
 some ⟨.nm, ⟨[(e.s k27 0), (e.s k27 1), (e.s k27 3), (e.s k27 4), (e.s k27 5), (e.s k27 6), (e.s k27 7), (e.s k27 8), (e.s k27 17), t31], 18, t31⟩, h⟩
noncomputable def l27_1 (K : Oracle) (L : Looper) (e : E) (h : H) : Out :=
 sq (bd (binK 0 .lss (e.s k27 8) (.int .i64 32)) fun t9 =>
 some ⟨.nm, ⟨[(e.s k27 0), (e.s k27 1), (e.s k27 3), (e.s k27 4), (e.s k27 5), (e.s k27 6), (e.s k27 7), (e.s k27 8), (e.s k27 17), (e.s k27 18)], 9, t9⟩, h⟩) fun e h =>
 sq (br (e.s k27 9) (some ⟨.nm, e, h⟩)
 (some ⟨.ex 0, e, h⟩)) fun e h =>
 sq (blk 1 (sq (bd (ixN 32 3 (e.s k27 7) (e.s k27 8)) fun t10 =>
 bf (nw h 95 [(.int .i64 0), (.int .i64 0), (.bool false)]) fun t3 h1 =>
 bf (stZ 3 h1 t3 t10) fun _ h2 =>
 some ⟨.nm, ⟨[(e.s k27 0), (e.s k27 1), t3, (e.s k27 4), (e.s k27 5), (e.s k27 6), (e.s k27 7), (e.s k27 8), (e.s k27 17), (e.s k27 18)], 0, (e.s k27 0)⟩, h2⟩) fun e h =>
 sq (some ⟨.nm, ⟨[(e.s k27 0), (e.s k27 1), (e.s k27 3), (.fn (.func 54) [] []), (e.s k27 5), (e.s k27 6), (e.s k27 7), (e.s k27 8), (e.s k27 17), (e.s k27 18)], 4, (.fn (.func 54) [] [])⟩, h⟩) fun e h =>
 sq (sq (bd (fa 2 (e.s k27 3)) fun t11 =>
 bd (ld h t11) fun t12 =>
 some ⟨.nm, ⟨[(e.s k27 0), (e.s k27 1), (e.s k27 3), (e.s k27 4), (e.s k27 5), (e.s k27 6), (e.s k27 7), (e.s k27 8), (e.s k27 17), (e.s k27 18)], 12, t12⟩, h⟩) fun e h =>
 br (e.s k27 12) (some ⟨.nm, ⟨[(e.s k27 0), (e.s k27 1), (e.s k27 3), (.fn (.func 55) [] []), (e.s k27 5), (e.s k27 6), (e.s k27 7), (e.s k27 8), (e.s k27 17), (e.s k27 18)], 4, (.fn (.func 55) [] [])⟩, h⟩)
 (some ⟨.nm, e, h⟩)) fun e h =>
 sq (bd (fa 0 (e.s k27 3)) fun t13 =>
 bd (ld h t13) fun t14 =>
 bf (ms h 72 32 [.nils, (.int .i64 0)] t14 t14) fun t15 h1 =>
 some ⟨.nm, ⟨[(e.s k27 0), (e.s k27 1), (e.s k27 3), (e.s k27 4), t15, (e.s k27 6), (e.s k27 7), (e.s k27 8), (e.s k27 17), (e.s k27 18)], 5, t15⟩, h1⟩) fun e h =>
 sq (sq (bd (lnS (e.s k27 5)) fun t17 =>
 some ⟨.nm, ⟨[(e.s k27 0), (e.s k27 1), (e.s k27 3), (e.s k27 4), (e.s k27 5), (e.s k27 6), (e.s k27 7), (e.s k27 8), t17, (.int .i64 0)], 18, (.int .i64 0)⟩, h⟩) fun e h =>
 blk 2 (L (l27_0 K L) e h)) fun e h =>
 bd (fa 0 (e.s k27 1)) fun t32 =>
 bd (ld h t32) fun t33 =>
 bf (bs h 75 1 [.nils] [(some (0, 1), (e.s k27 5))]) fun t35 h1 =>
 bf (apZ 75 1 24 h1 t33 t35) fun t36 h2 =>
 bd (fa 0 (e.s k27 1)) fun t37 =>
 bf (stZ 1 h2 t37 t36) fun _ h3 =>
 some ⟨.nm, ⟨[(e.s k27 0), (e.s k27 1), (e.s k27 3), (e.s k27 4), (e.s k27 5), (e.s k27 6), (e.s k27 7), (e.s k27 8), (e.s k27 17), (e.s k27 18)], 0, (e.s k27 0)⟩, h3⟩)) fun e h =>
 bd (binK 0 .add (e.s k27 8) (.int .i64 1)) fun t38 =>
 some ⟨.nm, ⟨[(e.s k27 0), (e.s k27 1), (e.s k27 3), (e.s k27 4), (e.s k27 5), (e.s k27 6), (e.s k27 7), t38, (e.s k27 17), (e.s k27 18)], 8, t38⟩, h⟩
noncomputable def s27 (K : Oracle) (L : Looper) (e : E) (h : H) : Out :=
 sq (bf (nw h 25 [.nils]) fun t0 h1 =>
 some ⟨.nm, ⟨[t0, (e.s k27 1), (e.s k27 3), (e.s k27 4), (e.s k27 5), (e.s k27 6), (e.s k27 7), (e.s k27 8), (e.s k27 17), (e.s k27 18)], 0, t0⟩, h1⟩) fun e h =>
 sq (bf (nw h 25 [.nils]) fun t1 h1 =>
 some ⟨.nm, ⟨[(e.s k27 0), t1, (e.s k27 3), (e.s k27 4), (e.s k27 5), (e.s k27 6), (e.s k27 7), (e.s k27 8), (e.s k27 17), (e.s k27 18)], 1, t1⟩, h1⟩) fun e h =>
 sq (sq (bc k27 [7, 8] e (K 53 [] h) fun t7 h1 =>
 some ⟨.nm, ⟨[(e.s k27 0), (e.s k27 1), (e.s k27 3), (e.s k27 4), (e.s k27 5), (e.s k27 6), t7, (.int .i64 0), (e.s k27 17), (e.s k27 18)], 8, (.int .i64 0)⟩, h1⟩) fun e h =>
 blk 0 (L (l27_1 K L) e h)) fun e h =>
 sq (bd (ldn 1 h (e.s k27 1)) fun t39 =>
 bf (stZ 1 h (e.s k27 0) t39) fun _ h1 =>
 some ⟨.nm, ⟨[(e.s k27 0), (e.s k27 1), (e.s k27 3), (e.s k27 4), (e.s k27 5), (e.s k27 6), (e.s k27 7), (e.s k27 8), (e.s k27 17), (e.s k27 18)], 0, (e.s k27 0)⟩, h1⟩) fun e h =>
 some ⟨.rt, e, h⟩
noncomputable def f27 (K : Oracle) (L : Looper) (h : H) : Option (Rv × H) := fin Try.prog k27 [.cell 0 25] (s27 K L ⟨[V.und, V.und, V.und, V.und, V.und, V.und, V.und, V.und, V.und, V.und], 0, V.und⟩ h)
theorem r27 : (fun K L h => runFF Try.prog kp K L 27 [] h) = f27 := by kernel_rfl
theorem c27 (h : H) : callZ Try.prog kp 27 [] h = f27 (callZ Try.prog kp) loopZ h :=
  (callZ_eqF _ _ _ _ _).trans (congrFun (congrFun (congrFun (r27) _) _) h)

/-- zoetrope/zoetropelaw04.may -/
@[simp] def k28 : List Nat := [0, 1, 2, 3, 4]
noncomputable def s28 (K : Oracle) (L : Looper) (e : E) (h : H) : Out :=
 sq (bf (bx h 43 (e.s k28 0)) fun t1 h1 =>
 bf (nw h1 43 [(.bool false), (.int .i64 0), (.int .i64 0), (.int .i64 0), (.int .i64 0)]) fun t2 h2 =>
 some ⟨.nm, ⟨[(e.s k28 0), t1, t2, (e.s k28 3), (e.s k28 4)], 2, t2⟩, h2⟩) fun e h =>
 sq (sq (bd (fa 0 (e.s k28 1)) fun t6 =>
 bd (ld h t6) fun t7 =>
 some ⟨.nm, ⟨[(e.s k28 0), (e.s k28 1), (e.s k28 2), (e.s k28 3), (e.s k28 4)], 7, t7⟩, h⟩) fun e h =>
 br (e.s k28 7) (sq (bd (fa 1 (e.s k28 1)) fun t8 =>
 bd (ld h t8) fun t9 =>
 bd (binK 0 .and t9 (.int .i64 15)) fun t10 =>
 bd (fa 1 (e.s k28 1)) fun t11 =>
 bf (stZ 1 h t11 t10) fun _ h1 =>
 some ⟨.nm, ⟨[(e.s k28 0), (e.s k28 1), (e.s k28 2), (e.s k28 3), (e.s k28 4)], 0, (e.s k28 0)⟩, h1⟩) fun e h =>
 sq (bd (fa 4 (e.s k28 1)) fun t12 =>
 bd (ld h t12) fun t13 =>
 bd (fa 1 (e.s k28 1)) fun t14 =>
 bd (ld h t14) fun t15 =>
 bd (binK 0 .shl (.int .i64 1) t15) fun t16 =>
 bd (binK 0 .sub t16 (.int .i64 1)) fun t17 =>
 bd (binK 0 .and t13 t17) fun t18 =>
 bd (fa 4 (e.s k28 1)) fun t19 =>
 bf (stZ 1 h t19 t18) fun _ h1 =>
 ck (ld h t12) t13 (ck (ld h t14) t15 (some ⟨.nm, ⟨[(e.s k28 0), (e.s k28 1), (e.s k28 2), (e.s k28 3), (e.s k28 4)], 0, (e.s k28 0)⟩, h1⟩))) fun e h =>
 sq (bd (ldn 5 h (e.s k28 1)) fun t20 =>
 bf (stZ 5 h (e.s k28 2) t20) fun _ h1 =>
 some ⟨.nm, ⟨[(e.s k28 0), (e.s k28 1), (e.s k28 2), (e.s k28 3), (e.s k28 4)], 0, (e.s k28 0)⟩, h1⟩) fun e h =>
 some ⟨.rt, e, h⟩)
 (some ⟨.nm, e, h⟩)) fun e h =>
 sq (bd (fa 2 (e.s k28 1)) fun t21 =>
 bd (ld h t21) fun t22 =>
 bd (binK 0 .and t22 (.int .i64 31)) fun t23 =>
 bd (fa 2 (e.s k28 1)) fun t24 =>
 bf (stZ 1 h t24 t23) fun _ h1 =>
 some ⟨.nm, ⟨[(e.s k28 0), (e.s k28 1), (e.s k28 2), (e.s k28 3), (e.s k28 4)], 0, (e.s k28 0)⟩, h1⟩) fun e h =>
 sq (bd (fa 2 (e.s k28 1)) fun t26 =>
 bd (ld h t26) fun t27 =>
 bc k28 [26, 27, 28, 25, 29, 30, 31, 3, 4, 5] e (K 33 [t27] h) fun t28 h1 =>
 bd (exV t28 0) fun t29 =>
 bd (exV t28 1) fun t30 =>
 bd (exV t28 2) fun t31 =>
 some ⟨.nm, ⟨[(e.s k28 0), (e.s k28 1), (e.s k28 2), t29, t30], 5, t31⟩, h1⟩) fun e h =>
 sq (sq (bd (binK 0 .lss (e.s k28 3) (.int .i64 1)) fun t33 =>
 bd (gl t33 false (some (e.s k28 4))) fun t35 =>
 bd (gl t33 false (binK 0 .lss t35 (.int .i64 1))) fun t36 =>
 bd (pk t33 (.bool true) t36) fun t37 =>
 some ⟨.nm, ⟨[(e.s k28 0), (e.s k28 1), (e.s k28 2), (e.s k28 3), (e.s k28 4)], 37, t37⟩, h⟩) fun e h =>
 br (e.s k28 37) (sq (bd (ldn 5 h (e.s k28 1)) fun t38 =>
 bf (stZ 5 h (e.s k28 2) t38) fun _ h1 =>
 some ⟨.nm, ⟨[(e.s k28 0), (e.s k28 1), (e.s k28 2), (e.s k28 3), (e.s k28 4)], 0, (e.s k28 0)⟩, h1⟩) fun e h =>
 some ⟨.rt, e, h⟩)
 (some ⟨.nm, e, h⟩)) fun e h =>
 sq (bd (fa 3 (e.s k28 1)) fun t39 =>
 bd (ld h t39) fun t40 =>
 bd (binK 0 .and t40 (.int .i64 65535)) fun t41 =>
 bd (binK 0 .rem t41 (e.s k28 3)) fun t43 =>
 bd (fa 3 (e.s k28 1)) fun t44 =>
 bf (stZ 1 h t44 t43) fun _ h1 =>
 some ⟨.nm, ⟨[(e.s k28 0), (e.s k28 1), (e.s k28 2), (e.s k28 3), (e.s k28 4)], 0, (e.s k28 0)⟩, h1⟩) fun e h =>
 sq (bd (fa 4 (e.s k28 1)) fun t45 =>
 bd (ld h t45) fun t46 =>
 bd (binK 0 .and t46 (.int .i64 65535)) fun t47 =>
 bd (binK 0 .rem t47 (e.s k28 4)) fun t49 =>
 bd (fa 4 (e.s k28 1)) fun t50 =>
 bf (stZ 1 h t50 t49) fun _ h1 =>
 some ⟨.nm, ⟨[(e.s k28 0), (e.s k28 1), (e.s k28 2), (e.s k28 3), (e.s k28 4)], 0, (e.s k28 0)⟩, h1⟩) fun e h =>
 sq (bd (ldn 5 h (e.s k28 1)) fun t51 =>
 bf (stZ 5 h (e.s k28 2) t51) fun _ h1 =>
 some ⟨.nm, ⟨[(e.s k28 0), (e.s k28 1), (e.s k28 2), (e.s k28 3), (e.s k28 4)], 0, (e.s k28 0)⟩, h1⟩) fun e h =>
 some ⟨.rt, e, h⟩
noncomputable def f28 (K : Oracle) (L : Looper) (p0 : V) (h : H) : Option (Rv × H) := fin Try.prog k28 [.cell 2 43] (s28 K L ⟨[p0, V.und, V.und, V.und, V.und], 0, p0⟩ h)
theorem r28 : (fun K L p0 h => runFF Try.prog kp K L 28 [p0] h) = f28 := by kernel_rfl
theorem c28 (p0 : V) (h : H) : callZ Try.prog kp 28 [p0] h = f28 (callZ Try.prog kp) loopZ p0 h :=
  (callZ_eqF _ _ _ _ _).trans (congrFun (congrFun (congrFun (congrFun (r28) _) _) p0) h)

/-- (*zoetrope/syms.Coder).Bits -/
@[simp] def k29 : List Nat := [0, 1, 2, 6, 7, 8, 9, 10, 11, 36, 37]
noncomputable def l29_0 (K : Oracle) (L : Looper) (e : E) (h : H) : Out :=
 sq (bd (binK 0 .lss (e.s k29 37) (e.s k29 36)) fun t38 =>
 some ⟨.nm, ⟨[(e.s k29 0), (e.s k29 1), (e.s k29 2), (e.s k29 6), (e.s k29 7), (e.s k29 8), (e.s k29 9), (e.s k29 10), (e.s k29 11), (e.s k29 36), (e.s k29 37)], 38, t38⟩, h⟩) fun e h =>
 sq (br (e.s k29 38) (some ⟨.nm, e, h⟩)
 (some ⟨.ex 1, e, h⟩)) fun e h =>
 sq (blk 2 (sq (some ⟨.nm, ⟨[(e.s k29 0), (e.s k29 1), (e.s k29 2), (e.s k29 6), (e.s k29 7), (e.s k29 8), (e.s k29 37), (e.s k29 10), (e.s k29 11), (e.s k29 36), (e.s k29 37)], 9, (e.s k29 37)⟩, h⟩) fun e h =>
 sq (bd (binK 0 .sub (e.s k29 1) (.int .i64 1)) fun t44 =>
 bd (binK 0 .sub t44 (e.s k29 9)) fun t46 =>
 bd (binK 0 .shr (e.s k29 2) t46) fun t47 =>
 bd (binK 0 .and t47 (.int .i64 1)) fun t48 =>
 bc k29 [41, 42, 43, 44, 45, 46, 47, 48, 49, 40, 50, 51, 10, 11] e (K 56 [(e.s k29 0), t48] h) fun t49 h1 =>
 bd (exV t49 0) fun t50 =>
 bd (exV t49 1) fun t51 =>
 some ⟨.nm, ⟨[(e.s k29 0), (e.s k29 1), (e.s k29 2), (e.s k29 6), (e.s k29 7), (e.s k29 8), (e.s k29 9), t50, t51, (e.s k29 36), (e.s k29 37)], 11, t51⟩, h1⟩) fun e h =>
 sq (sq (bd (binK 0 .neq (e.s k29 11) (.int .i64 0)) fun t53 =>
 some ⟨.nm, ⟨[(e.s k29 0), (e.s k29 1), (e.s k29 2), (e.s k29 6), (e.s k29 7), (e.s k29 8), (e.s k29 9), (e.s k29 10), (e.s k29 11), (e.s k29 36), (e.s k29 37)], 53, t53⟩, h⟩) fun e h =>
 br (e.s k29 53) (sq (some ⟨.nm, ⟨[(e.s k29 0), (e.s k29 1), (e.s k29 2), (.int .i64 0), (e.s k29 11), (e.s k29 8), (e.s k29 9), (e.s k29 10), (e.s k29 11), (e.s k29 36), (e.s k29 37)], 7, (e.s k29 11)⟩, h⟩) fun e h =>
 some ⟨.rt, e, h⟩)
 (some ⟨.nm, e, h⟩)) fun e h =>
 bd (binK 0 .shl (e.s k29 8) (.int .u64 1)) fun t56 =>
 bd (binK 0 .or t56 (e.s k29 10)) fun t58 =>
 some ⟨.nm, ⟨[(e.s k29 0), (e.s k29 1), (e.s k29 2), (e.s k29 6), (e.s k29 7), t58, (e.s k29 9), (e.s k29 10), (e.s k29 11), (e.s k29 36), (e.s k29 37)], 8, t58⟩, h⟩)) fun e h =>
 bd (binK 0 .add (e.s k29 37) (.int .i64 1)) fun t59 =>
 some ⟨.nm, ⟨[(e.s k29 0), (e.s k29 1), (e.s k29 2), (e.s k29 6), (e.s k29 7), (e.s k29 8), (e.s k29 9), (e.s k29 10), (e.s k29 11), (e.s k29 36), t59], 37, t59⟩, h⟩
noncomputable def s29 (K : Oracle) (L : Looper) (e : E) (h : H) : Out :=
 sq (some ⟨.nm, ⟨[(e.s k29 0), (e.s k29 1), (e.s k29 2), (.int .i64 0), (.int .i64 0), (e.s k29 8), (e.s k29 9), (e.s k29 10), (e.s k29 11), (e.s k29 36), (e.s k29 37)], 7, (.int .i64 0)⟩, h⟩) fun e h =>
 sq (blk 0 (sq (bc k29 [13, 14, 12] e (K 44 [(e.s k29 0)] h) fun t14 h1 =>
 some ⟨.nm, ⟨[(e.s k29 0), (e.s k29 1), (e.s k29 2), (e.s k29 6), (e.s k29 7), (e.s k29 8), (e.s k29 9), (e.s k29 10), (e.s k29 11), (e.s k29 36), (e.s k29 37)], 12, t14⟩, h1⟩) fun e h =>
 br (e.s k29 12) (sq (some ⟨.nm, ⟨[(e.s k29 0), (e.s k29 1), (e.s k29 2), (.int .i64 0), (.int .i64 1), (e.s k29 8), (e.s k29 9), (e.s k29 10), (e.s k29 11), (e.s k29 36), (e.s k29 37)], 7, (.int .i64 1)⟩, h⟩) fun e h =>
 some ⟨.rt, e, h⟩)
 (sq (bd (binK 0 .lss (e.s k29 1) (.int .i64 0)) fun t17 =>
 bd (gl t17 false (some (e.s k29 1))) fun t19 =>
 bd (gl t17 false (binK 0 .gtr t19 (.int .i64 30))) fun t20 =>
 bd (pk t17 (.bool true) t20) fun t21 =>
 bd (gl t21 false (some (e.s k29 0))) fun t23 =>
 bc k29 [16, 17, 18, 19, 20, 21, 22, 23, 24, 25, 26, 27, 28, 29, 30, 31, 32, 33, 34, 35, 15] e (gk t21 false h (K 14 [t23] h)) fun t24 h1 =>
 bd (gl t21 false (some t24)) fun t25 =>
 bd (gl t25 true (some (e.s k29 2))) fun t26 =>
 bd (gl t25 true (binK 0 .lss t26 (.int .i64 0))) fun t27 =>
 bd (gl t25 true (some t27)) fun t28 =>
 bd (gl t28 false (some (e.s k29 2))) fun t29 =>
 bd (gl t28 false (some (e.s k29 1))) fun t30 =>
 bd (gl t28 false (binK 0 .shr t29 t30)) fun t31 =>
 bd (gl t28 false (binK 0 .neq t31 (.int .i64 0))) fun t32 =>
 bd (gl t25 true (pk t28 (.bool true) t32)) fun t33 =>
 bd (gl t21 false (pk t25 t33 (.bool false))) fun t34 =>
 bd (pk t21 (.bool true) t34) fun t35 =>
 some ⟨.nm, ⟨[(e.s k29 0), (e.s k29 1), (e.s k29 2), (e.s k29 6), (e.s k29 7), (e.s k29 8), (e.s k29 9), (e.s k29 10), (e.s k29 11), (e.s k29 36), (e.s k29 37)], 15, t35⟩, h1⟩) fun e h =>
 br (e.s k29 15) (sq (some ⟨.nm, ⟨[(e.s k29 0), (e.s k29 1), (e.s k29 2), (.int .i64 0), (.int .i64 2), (e.s k29 8), (e.s k29 9), (e.s k29 10), (e.s k29 11), (e.s k29 36), (e.s k29 37)], 7, (.int .i64 2)⟩, h⟩) fun e h =>
 some ⟨.rt, e, h⟩)
 (some ⟨.nm, e, h⟩)))) fun e h =>
 sq (some ⟨.nm, ⟨[(e.s k29 0), (e.s k29 1), (e.s k29 2), (e.s k29 6), (e.s k29 7), (.int .i64 0), (e.s k29 9), (e.s k29 10), (e.s k29 11), (e.s k29 36), (e.s k29 37)], 8, (.int .i64 0)⟩, h⟩) fun e h =>
 sq (sq (some ⟨.nm, ⟨[(e.s k29 0), (e.s k29 1), (e.s k29 2), (e.s k29 6), (e.s k29 7), (e.s k29 8), (e.s k29 9), (e.s k29 10), (e.s k29 11), (e.s k29 1), (.int .i64 0)], 37, (.int .i64 0)⟩, h⟩) fun e h =>
 blk 1 (L (l29_0 K L) e h)) fun e h =>
 sq (bd (nilC (e.s k29 0)) fun t61 =>
 bd (fa 4 t61) fun t62 =>
 bd (ld h t62) fun t63 =>
 bd (binK 0 .add t63 (e.s k29 1)) fun t65 =>
 bd (nilC (e.s k29 0)) fun t66 =>
 bd (fa 4 t66) fun t67 =>
 bf (stZ 1 h t67 t65) fun _ h1 =>
 some ⟨.nm, ⟨[(e.s k29 0), (e.s k29 1), (e.s k29 2), (e.s k29 6), (e.s k29 7), (e.s k29 8), (e.s k29 9), (e.s k29 10), (e.s k29 11), (e.s k29 36), (e.s k29 37)], 0, (e.s k29 0)⟩, h1⟩) fun e h =>
 sq (some ⟨.nm, ⟨[(e.s k29 0), (e.s k29 1), (e.s k29 2), (e.s k29 8), (.int .i64 0), (e.s k29 8), (e.s k29 9), (e.s k29 10), (e.s k29 11), (e.s k29 36), (e.s k29 37)], 7, (.int .i64 0)⟩, h⟩) fun e h =>
 some ⟨.rt, e, h⟩
noncomputable def f29 (K : Oracle) (L : Looper) (p0 p1 p2 : V) (h : H) : Option (Rv × H) := fin Try.prog k29 [.tmp 6, .tmp 7] (s29 K L ⟨[p0, p1, p2, V.und, V.und, V.und, V.und, V.und, V.und, V.und, V.und], 0, p0⟩ h)
theorem r29 : (fun K L p0 p1 p2 h => runFF Try.prog kp K L 29 [p0, p1, p2] h) = f29 := by kernel_rfl
theorem c29 (p0 p1 p2 : V) (h : H) : callZ Try.prog kp 29 [p0, p1, p2] h = f29 (callZ Try.prog kp) loopZ p0 p1 p2 h :=
  (callZ_eqF _ _ _ _ _).trans (congrFun (congrFun (congrFun (congrFun (congrFun (congrFun (r29) _) _) p0) p1) p2) h)

/-- (*zoetrope/syms.Coder).Symbol -/
@[simp] def k30 : List Nat := [0, 1, 2, 3, 8, 9, 10, 11, 12, 13, 14]
noncomputable def s30 (K : Oracle) (L : Looper) (e : E) (h : H) : Out :=
 sq (some ⟨.nm, ⟨[(e.s k30 0), (e.s k30 1), (e.s k30 2), (e.s k30 3), (.int .i64 0), (.int .i64 0), (e.s k30 10), (e.s k30 11), (e.s k30 12), (e.s k30 13), (e.s k30 14)], 9, (.int .i64 0)⟩, h⟩) fun e h =>
 sq (sq (bc k30 [15, 16] e (K 44 [(e.s k30 0)] h) fun t16 h1 =>
 some ⟨.nm, ⟨[(e.s k30 0), (e.s k30 1), (e.s k30 2), (e.s k30 3), (e.s k30 8), (e.s k30 9), (e.s k30 10), (e.s k30 11), (e.s k30 12), (e.s k30 13), (e.s k30 14)], 16, t16⟩, h1⟩) fun e h =>
 br (e.s k30 16) (sq (some ⟨.nm, ⟨[(e.s k30 0), (e.s k30 1), (e.s k30 2), (e.s k30 3), (.int .i64 0), (.int .i64 1), (e.s k30 10), (e.s k30 11), (e.s k30 12), (e.s k30 13), (e.s k30 14)], 9, (.int .i64 1)⟩, h⟩) fun e h =>
 some ⟨.rt, e, h⟩)
 (some ⟨.nm, e, h⟩)) fun e h =>
 sq (bc k30 [18, 19, 17, 20, 21, 22, 10, 11, 12] e (K 33 [(e.s k30 1)] h) fun t19 h1 =>
 bd (exV t19 0) fun t20 =>
 bd (exV t19 1) fun t21 =>
 bd (exV t19 2) fun t22 =>
 some ⟨.nm, ⟨[(e.s k30 0), (e.s k30 1), (e.s k30 2), (e.s k30 3), (e.s k30 8), (e.s k30 9), t20, t21, t22, (e.s k30 13), (e.s k30 14)], 12, t22⟩, h1⟩) fun e h =>
 sq (blk 0 (sq (bd (binK 0 .neq (e.s k30 12) (.int .i64 0)) fun t25 =>
 some ⟨.nm, ⟨[(e.s k30 0), (e.s k30 1), (e.s k30 2), (e.s k30 3), (e.s k30 8), (e.s k30 9), (e.s k30 10), (e.s k30 11), (e.s k30 12), (e.s k30 13), (e.s k30 14)], 23, t25⟩, h⟩) fun e h =>
 br (e.s k30 23) (sq (some ⟨.nm, ⟨[(e.s k30 0), (e.s k30 1), (e.s k30 2), (e.s k30 3), (.int .i64 0), (e.s k30 12), (e.s k30 10), (e.s k30 11), (e.s k30 12), (e.s k30 13), (e.s k30 14)], 9, (e.s k30 12)⟩, h⟩) fun e h =>
 some ⟨.rt, e, h⟩)
 (sq (bd (binK 0 .lss (e.s k30 2) (.int .i64 0)) fun t29 =>
 bd (gl t29 false (some (e.s k30 2))) fun t31 =>
 bd (gl t29 false (some (e.s k30 10))) fun t32 =>
 bd (gl t29 false (binK 0 .geq t31 t32)) fun t33 =>
 bd (pk t29 (.bool true) t33) fun t34 =>
 bd (gl t34 false (some (e.s k30 0))) fun t36 =>
 bc k30 [28, 29, 30, 31, 32, 33, 34, 35, 36, 37, 38, 39, 40, 41, 42, 43, 44, 45, 46, 47, 27] e (gk t34 false h (K 14 [t36] h)) fun t37 h1 =>
 bd (gl t34 false (some t37)) fun t38 =>
 bd (gl t38 true (some (e.s k30 3))) fun t39 =>
 bd (gl t38 true (binK 0 .lss t39 (.int .i64 0))) fun t40 =>
 bd (gl t38 true (some t40)) fun t41 =>
 bd (gl t41 false (some (e.s k30 3))) fun t42 =>
 bd (gl t41 false (some (e.s k30 11))) fun t43 =>
 bd (gl t41 false (binK 0 .geq t42 t43)) fun t44 =>
 bd (gl t38 true (pk t41 (.bool true) t44)) fun t45 =>
 bd (gl t34 false (pk t38 t45 (.bool false))) fun t46 =>
 bd (pk t34 (.bool true) t46) fun t47 =>
 some ⟨.nm, ⟨[(e.s k30 0), (e.s k30 1), (e.s k30 2), (e.s k30 3), (e.s k30 8), (e.s k30 9), (e.s k30 10), (e.s k30 11), (e.s k30 12), (e.s k30 13), (e.s k30 14)], 27, t47⟩, h1⟩) fun e h =>
 br (e.s k30 27) (sq (some ⟨.nm, ⟨[(e.s k30 0), (e.s k30 1), (e.s k30 2), (e.s k30 3), (.int .i64 0), (.int .i64 2), (e.s k30 10), (e.s k30 11), (e.s k30 12), (e.s k30 13), (e.s k30 14)], 9, (.int .i64 2)⟩, h⟩) fun e h =>
 some ⟨.rt, e, h⟩)
 (some ⟨.nm, e, h⟩)))) fun e h =>
 sq (bd (nilC (e.s k30 0)) fun t49 =>
 bd (fa 2 t49) fun t50 =>
 bd (fa 0 t50) fun t51 =>
 bd (ld h t51) fun t52 =>
 bd (iaS 1 t52 (e.s k30 1)) fun t54 =>
 bd (ld h t54) fun t55 =>
 bd (iaS 2 t55 (e.s k30 2)) fun t57 =>
 some ⟨.nm, ⟨[(e.s k30 0), (e.s k30 1), (e.s k30 2), (e.s k30 3), (e.s k30 8), (e.s k30 9), (e.s k30 10), (e.s k30 11), (e.s k30 12), t57, (e.s k30 14)], 13, t57⟩, h⟩) fun e h =>
 sq (bd (nilC (e.s k30 13)) fun t61 =>
 bd (ldn 2 h t61) fun t62 =>
 bc k30 [59, 60, 61, 62, 63, 64, 58, 65, 66, 14, 12] e (K 57 [(e.s k30 0), t62, (e.s k30 3)] h) fun t64 h1 =>
 bd (exV t64 0) fun t65 =>
 bd (exV t64 1) fun t66 =>
 some ⟨.nm, ⟨[(e.s k30 0), (e.s k30 1), (e.s k30 2), (e.s k30 3), (e.s k30 8), (e.s k30 9), (e.s k30 10), (e.s k30 11), t66, (e.s k30 13), t65], 12, t66⟩, h1⟩) fun e h =>
 sq (sq (bd (binK 0 .neq (e.s k30 12) (.int .i64 0)) fun t68 =>
 some ⟨.nm, ⟨[(e.s k30 0), (e.s k30 1), (e.s k30 2), (e.s k30 3), (e.s k30 8), (e.s k30 9), (e.s k30 10), (e.s k30 11), (e.s k30 12), (e.s k30 13), (e.s k30 14)], 68, t68⟩, h⟩) fun e h =>
 br (e.s k30 68) (sq (some ⟨.nm, ⟨[(e.s k30 0), (e.s k30 1), (e.s k30 2), (e.s k30 3), (.int .i64 0), (e.s k30 12), (e.s k30 10), (e.s k30 11), (e.s k30 12), (e.s k30 13), (e.s k30 14)], 9, (e.s k30 12)⟩, h⟩) fun e h =>
 some ⟨.rt, e, h⟩)
 (some ⟨.nm, e, h⟩)) fun e h =>
 sq (sq (bd (nilC (e.s k30 0)) fun t71 =>
 bd (fa 3 t71) fun t72 =>
 bd (ld h t72) fun t73 =>
 some ⟨.nm, ⟨[(e.s k30 0), (e.s k30 1), (e.s k30 2), (e.s k30 3), (e.s k30 8), (e.s k30 9), (e.s k30 10), (e.s k30 11), (e.s k30 12), (e.s k30 13), (e.s k30 14)], 73, t73⟩, h⟩) fun e h =>
 br (e.s k30 73) (bd (nilC (e.s k30 13)) fun t77 =>
 bd (ldn 2 h t77) fun t78 =>
 bc k30 [75, 76, 77, 78, 79, 80, 74, 81, 82, 83, 12] e (K 35 [t78, (e.s k30 14)] h) fun t80 h1 =>
 bd (exV t80 0) fun t81 =>
 bd (exV t80 1) fun t82 =>
 bd (nilC (e.s k30 13)) fun t83 =>
 bf (stZ 2 h1 t83 t81) fun _ h2 =>
 some ⟨.nm, ⟨[(e.s k30 0), (e.s k30 1), (e.s k30 2), (e.s k30 3), (e.s k30 8), (e.s k30 9), (e.s k30 10), (e.s k30 11), t82, (e.s k30 13), (e.s k30 14)], 12, t82⟩, h2⟩)
 (some ⟨.nm, e, h⟩)) fun e h =>
 sq (bd (nilC (e.s k30 0)) fun t85 =>
 bd (fa 4 t85) fun t86 =>
 bd (ld h t86) fun t87 =>
 bd (binK 0 .add t87 (.int .i64 1)) fun t88 =>
 bd (nilC (e.s k30 0)) fun t89 =>
 bd (fa 4 t89) fun t90 =>
 bf (stZ 1 h t90 t88) fun _ h1 =>
 some ⟨.nm, ⟨[(e.s k30 0), (e.s k30 1), (e.s k30 2), (e.s k30 3), (e.s k30 8), (e.s k30 9), (e.s k30 10), (e.s k30 11), (e.s k30 12), (e.s k30 13), (e.s k30 14)], 0, (e.s k30 0)⟩, h1⟩) fun e h =>
 sq (some ⟨.nm, ⟨[(e.s k30 0), (e.s k30 1), (e.s k30 2), (e.s k30 3), (e.s k30 14), (e.s k30 12), (e.s k30 10), (e.s k30 11), (e.s k30 12), (e.s k30 13), (e.s k30 14)], 9, (e.s k30 12)⟩, h⟩) fun e h =>
 some ⟨.rt, e, h⟩
noncomputable def f30 (K : Oracle) (L : Looper) (p0 p1 p2 p3 : V) (h : H) : Option (Rv × H) := fin Try.prog k30 [.tmp 8, .tmp 9] (s30 K L ⟨[p0, p1, p2, p3, V.und, V.und, V.und, V.und, V.und, V.und, V.und], 0, p0⟩ h)
theorem r30 : (fun K L p0 p1 p2 p3 h => runFF Try.prog kp K L 30 [p0, p1, p2, p3] h) = f30 := by kernel_rfl
theorem c30 (p0 p1 p2 p3 : V) (h : H) : callZ Try.prog kp 30 [p0, p1, p2, p3] h = f30 (callZ Try.prog kp) loopZ p0 p1 p2 p3 h :=
  (callZ_eqF _ _ _ _ _).trans (congrFun (congrFun (congrFun (congrFun (congrFun (congrFun (congrFun (r30) _) _) p0) p1) p2) p3) h)

/-- zoetrope/zoetropelaw04.same -/
@[simp] def k31 : List Nat := [0, 1, 2, 3, 4, 5, 6, 7, 8, 9]
noncomputable def l31_0 (K : Oracle) (L : Looper) (e : E) (h : H) : Out :=
 sq (sq (bd (fa 0 (e.s k31 7)) fun t78 =>
 bd (ld h t78) fun t79 =>
 bd (lnS t79) fun t80 =>
 bd (binK 0 .lss (e.s k31 9) t80) fun t81 =>
 some ⟨.nm, ⟨[(e.s k31 0), (e.s k31 1), (e.s k31 2), (e.s k31 3), (e.s k31 4), (e.s k31 5), (e.s k31 6), (e.s k31 7), (e.s k31 8), (e.s k31 9)], 81, t81⟩, h⟩) fun e h =>
 br (e.s k31 81) (some ⟨.nm, e, h⟩)
 (some ⟨.ex 4, e, h⟩)) fun e h =>
 sq (blk 5 (sq (bd (fa 0 (e.s k31 7)) fun t84 =>
 bd (ld h t84) fun t85 =>
 bd (iaS 1 t85 (e.s k31 9)) fun t87 =>
 bd (ld h t87) fun t88 =>
 bd (fa 0 (e.s k31 8)) fun t89 =>
 bd (ld h t89) fun t90 =>
 bd (iaS 1 t90 (e.s k31 9)) fun t92 =>
 bd (ld h t92) fun t93 =>
 bd (binK 0 .neq t88 t93) fun t94 =>
 ck (ld h t84) t85 (ck (ld h t87) t88 (ck (ld h t89) t90 (ck (ld h t92) t93 (some ⟨.nm, ⟨[(e.s k31 0), (e.s k31 1), (e.s k31 2), (e.s k31 3), (e.s k31 4), (e.s k31 5), (e.s k31 6), (e.s k31 7), (e.s k31 8), (e.s k31 9)], 94, t94⟩, h⟩))))) fun e h =>
 br (e.s k31 94) (sq (some ⟨.nm, ⟨[(e.s k31 0), (e.s k31 1), (e.s k31 2), (e.s k31 3), (.bool false), (e.s k31 5), (e.s k31 6), (e.s k31 7), (e.s k31 8), (e.s k31 9)], 4, (.bool false)⟩, h⟩) fun e h =>
 some ⟨.rt, e, h⟩)
 (some ⟨.nm, e, h⟩))) fun e h =>
 bd (binK 0 .add (e.s k31 9) (.int .i64 1)) fun t83 =>
 some ⟨.nm, ⟨[(e.s k31 0), (e.s k31 1), (e.s k31 2), (e.s k31 3), (e.s k31 4), (e.s k31 5), (e.s k31 6), (e.s k31 7), (e.s k31 8), t83], 9, t83⟩, h⟩
noncomputable def l31_1 (K : Oracle) (L : Looper) (e : E) (h : H) : Out :=
 sq (sq (bd (fa 0 (e.s k31 2)) fun t38 =>
 bd (ld h t38) fun t39 =>
 bd (iaS 1 t39 (e.s k31 5)) fun t41 =>
 bd (ld h t41) fun t42 =>
 bd (lnS t42) fun t43 =>
 bd (binK 0 .lss (e.s k31 6) t43) fun t44 =>
 some ⟨.nm, ⟨[(e.s k31 0), (e.s k31 1), (e.s k31 2), (e.s k31 3), (e.s k31 4), (e.s k31 5), (e.s k31 6), (e.s k31 7), (e.s k31 8), (e.s k31 9)], 44, t44⟩, h⟩) fun e h =>
 br (e.s k31 44) (some ⟨.nm, e, h⟩)
 (some ⟨.ex 2, e, h⟩)) fun e h =>
 sq (blk 3 (sq (bd (fa 0 (e.s k31 2)) fun t47 =>
 bd (ld h t47) fun t48 =>
 bd (iaS 1 t48 (e.s k31 5)) fun t50 =>
 bd (ld h t50) fun t51 =>
 bd (iaS 2 t51 (e.s k31 6)) fun t53 =>
 bd (ldn 2 h t53) fun t54 =>
 bf (nw h 72 [.nils, (.int .i64 0)]) fun t7 h1 =>
 bf (nw h1 72 [.nils, (.int .i64 0)]) fun t8 h2 =>
 bf (stZ 2 h2 t7 t54) fun _ h3 =>
 bd (fa 0 (e.s k31 3)) fun t55 =>
 bd (ld h3 t55) fun t56 =>
 bd (iaS 1 t56 (e.s k31 5)) fun t58 =>
 bd (ld h3 t58) fun t59 =>
 bd (iaS 2 t59 (e.s k31 6)) fun t61 =>
 bd (ldn 2 h3 t61) fun t62 =>
 bf (stZ 2 h3 t8 t62) fun _ h4 =>
 ck (ld h t47) t48 (ck (ld h t50) t51 (ck (ldn 2 h t53) t54 (ck (ld h t55) t56 (ck (ld h3 t55) t56 (ck (ld h t58) t59 (ck (ld h3 t58) t59 (ck (ldn 2 h t61) t62 (ck (ldn 2 h3 t61) t62 (some ⟨.nm, ⟨[(e.s k31 0), (e.s k31 1), (e.s k31 2), (e.s k31 3), (e.s k31 4), (e.s k31 5), (e.s k31 6), t7, t8, (e.s k31 9)], 0, (e.s k31 0)⟩, h4⟩)))))))))) fun e h =>
 sq (sq (bd (fa 1 (e.s k31 7)) fun t63 =>
 bd (ld h t63) fun t64 =>
 bd (fa 1 (e.s k31 8)) fun t65 =>
 bd (ld h t65) fun t66 =>
 bd (binK 0 .neq t64 t66) fun t67 =>
 bd (gl t67 false (fa 0 (e.s k31 7))) fun t69 =>
 bd (gl t67 false (ld h t69)) fun t70 =>
 bd (gl t67 false (lnS t70)) fun t71 =>
 bd (gl t67 false (fa 0 (e.s k31 8))) fun t72 =>
 bd (gl t67 false (ld h t72)) fun t73 =>
 bd (gl t67 false (lnS t73)) fun t74 =>
 bd (gl t67 false (binK 0 .neq t71 t74)) fun t75 =>
 bd (pk t67 (.bool true) t75) fun t76 =>
 some ⟨.nm, ⟨[(e.s k31 0), (e.s k31 1), (e.s k31 2), (e.s k31 3), (e.s k31 4), (e.s k31 5), (e.s k31 6), (e.s k31 7), (e.s k31 8), (e.s k31 9)], 76, t76⟩, h⟩) fun e h =>
 br (e.s k31 76) (sq (some ⟨.nm, ⟨[(e.s k31 0), (e.s k31 1), (e.s k31 2), (e.s k31 3), (.bool false), (e.s k31 5), (e.s k31 6), (e.s k31 7), (e.s k31 8), (e.s k31 9)], 4, (.bool false)⟩, h⟩) fun e h =>
 some ⟨.rt, e, h⟩)
 (some ⟨.nm, e, h⟩)) fun e h =>
 sq (some ⟨.nm, ⟨[(e.s k31 0), (e.s k31 1), (e.s k31 2), (e.s k31 3), (e.s k31 4), (e.s k31 5), (e.s k31 6), (e.s k31 7), (e.s k31 8), (.int .i64 0)], 9, (.int .i64 0)⟩, h⟩) fun e h =>
 blk 4 (L (l31_0 K L) e h))) fun e h =>
 bd (binK 0 .add (e.s k31 6) (.int .i64 1)) fun t46 =>
 some ⟨.nm, ⟨[(e.s k31 0), (e.s k31 1), (e.s k31 2), (e.s k31 3), (e.s k31 4), (e.s k31 5), t46, (e.s k31 7), (e.s k31 8), (e.s k31 9)], 6, t46⟩, h⟩
noncomputable def l31_2 (K : Oracle) (L : Looper) (e : E) (h : H) : Out :=
 sq (sq (bd (fa 0 (e.s k31 2)) fun t18 =>
 bd (ld h t18) fun t19 =>
 bd (lnS t19) fun t20 =>
 bd (binK 0 .lss (e.s k31 5) t20) fun t21 =>
 some ⟨.nm, ⟨[(e.s k31 0), (e.s k31 1), (e.s k31 2), (e.s k31 3), (e.s k31 4), (e.s k31 5), (e.s k31 6), (e.s k31 7), (e.s k31 8), (e.s k31 9)], 21, t21⟩, h⟩) fun e h =>
 br (e.s k31 21) (some ⟨.nm, e, h⟩)
 (some ⟨.ex 0, e, h⟩)) fun e h =>
 sq (blk 1 (sq (sq (bd (fa 0 (e.s k31 2)) fun t24 =>
 bd (ld h t24) fun t25 =>
 bd (iaS 1 t25 (e.s k31 5)) fun t27 =>
 bd (ld h t27) fun t28 =>
 bd (lnS t28) fun t29 =>
 bd (fa 0 (e.s k31 3)) fun t30 =>
 bd (ld h t30) fun t31 =>
 bd (iaS 1 t31 (e.s k31 5)) fun t33 =>
 bd (ld h t33) fun t34 =>
 bd (lnS t34) fun t35 =>
 bd (binK 0 .neq t29 t35) fun t36 =>
 ck (ld h t24) t25 (ck (ld h t27) t28 (ck (ld h t30) t31 (ck (ld h t33) t34 (some ⟨.nm, ⟨[(e.s k31 0), (e.s k31 1), (e.s k31 2), (e.s k31 3), (e.s k31 4), (e.s k31 5), (e.s k31 6), (e.s k31 7), (e.s k31 8), (e.s k31 9)], 36, t36⟩, h⟩))))) fun e h =>
 br (e.s k31 36) (sq (some ⟨.nm, ⟨[(e.s k31 0), (e.s k31 1), (e.s k31 2), (e.s k31 3), (.bool false), (e.s k31 5), (e.s k31 6), (e.s k31 7), (e.s k31 8), (e.s k31 9)], 4, (.bool false)⟩, h⟩) fun e h =>
 some ⟨.rt, e, h⟩)
 (some ⟨.nm, e, h⟩)) fun e h =>
 sq (some ⟨.nm, ⟨[(e.s k31 0), (e.s k31 1), (e.s k31 2), (e.s k31 3), (e.s k31 4), (e.s k31 5), (.int .i64 0), (e.s k31 7), (e.s k31 8), (e.s k31 9)], 6, (.int .i64 0)⟩, h⟩) fun e h =>
 blk 2 (L (l31_1 K L) e h))) fun e h =>
 bd (binK 0 .add (e.s k31 5) (.int .i64 1)) fun t23 =>
 some ⟨.nm, ⟨[(e.s k31 0), (e.s k31 1), (e.s k31 2), (e.s k31 3), (e.s k31 4), t23, (e.s k31 6), (e.s k31 7), (e.s k31 8), (e.s k31 9)], 5, t23⟩, h⟩
noncomputable def s31 (K : Oracle) (L : Looper) (e : E) (h : H) : Out :=
 sq (bf (bx h 25 (e.s k31 0)) fun t2 h1 =>
 bf (bx h1 25 (e.s k31 1)) fun t3 h2 =>
 some ⟨.nm, ⟨[(e.s k31 0), (e.s k31 1), t2, t3, (.bool false), (e.s k31 5), (e.s k31 6), (e.s k31 7), (e.s k31 8), (e.s k31 9)], 4, (.bool false)⟩, h2⟩) fun e h =>
 sq (sq (bd (fa 0 (e.s k31 2)) fun t10 =>
 bd (ld h t10) fun t11 =>
 bd (lnS t11) fun t12 =>
 bd (fa 0 (e.s k31 3)) fun t13 =>
 bd (ld h t13) fun t14 =>
 bd (lnS t14) fun t15 =>
 bd (binK 0 .neq t12 t15) fun t16 =>
 some ⟨.nm, ⟨[(e.s k31 0), (e.s k31 1), (e.s k31 2), (e.s k31 3), (e.s k31 4), (e.s k31 5), (e.s k31 6), (e.s k31 7), (e.s k31 8), (e.s k31 9)], 16, t16⟩, h⟩) fun e h =>
 br (e.s k31 16) (sq (some ⟨.nm, ⟨[(e.s k31 0), (e.s k31 1), (e.s k31 2), (e.s k31 3), (.bool false), (e.s k31 5), (e.s k31 6), (e.s k31 7), (e.s k31 8), (e.s k31 9)], 4, (.bool false)⟩, h⟩) fun e h =>
 some ⟨.rt, e, h⟩)
 (some ⟨.nm, e, h⟩)) fun e h =>
 sq (sq (some ⟨.nm, ⟨[(e.s k31 0), (e.s k31 1), (e.s k31 2), (e.s k31 3), (e.s k31 4), (.int .i64 0), (e.s k31 6), (e.s k31 7), (e.s k31 8), (e.s k31 9)], 5, (.int .i64 0)⟩, h⟩) fun e h =>
 blk 0 (L (l31_2 K L) e h)) fun e h =>
 sq (some ⟨.nm, ⟨[(e.s k31 0), (e.s k31 1), (e.s k31 2), (e.s k31 3), (.bool true), (e.s k31 5), (e.s k31 6), (e.s k31 7), (e.s k31 8), (e.s k31 9)], 4, (.bool true)⟩, h⟩) fun e h =>
 some ⟨.rt, e, h⟩
noncomputable def f31 (K : Oracle) (L : Looper) (p0 p1 : V) (h : H) : Option (Rv × H) := fin Try.prog k31 [.tmp 4] (s31 K L ⟨[p0, p1, V.und, V.und, V.und, V.und, V.und, V.und, V.und, V.und], 0, p0⟩ h)
theorem r31 : (fun K L p0 p1 h => runFF Try.prog kp K L 31 [p0, p1] h) = f31 := by kernel_rfl
theorem c31 (p0 p1 : V) (h : H) : callZ Try.prog kp 31 [p0, p1] h = f31 (callZ Try.prog kp) loopZ p0 p1 h :=
  (callZ_eqF _ _ _ _ _).trans (congrFun (congrFun (congrFun (congrFun (congrFun (r31) _) _) p0) p1) h)

/-- (*zoetrope/syms.Coder).Count -/
@[simp] def k32 : List Nat := [0, 2]
noncomputable def s32 (K : Oracle) (L : Looper) (e : E) (h : H) : Out :=
 sq (some ⟨.nm, ⟨[(e.s k32 0), (.int .i64 0)], 2, (.int .i64 0)⟩, h⟩) fun e h =>
 sq (sq (bc k32 [3, 4] e (K 44 [(e.s k32 0)] h) fun t4 h1 =>
 some ⟨.nm, ⟨[(e.s k32 0), (e.s k32 2)], 4, t4⟩, h1⟩) fun e h =>
 br (e.s k32 4) (sq (some ⟨.nm, ⟨[(e.s k32 0), (.int .i64 0)], 2, (.int .i64 0)⟩, h⟩) fun e h =>
 some ⟨.rt, e, h⟩)
 (some ⟨.nm, e, h⟩)) fun e h =>
 sq (bd (nilC (e.s k32 0)) fun t6 =>
 bd (fa 4 t6) fun t7 =>
 bd (ld h t7) fun t8 =>
 some ⟨.nm, ⟨[(e.s k32 0), t8], 2, t8⟩, h⟩) fun e h =>
 some ⟨.rt, e, h⟩
noncomputable def f32 (K : Oracle) (L : Looper) (p0 : V) (h : H) : Option (Rv × H) := fin Try.prog k32 [.tmp 2] (s32 K L ⟨[p0, V.und], 0, p0⟩ h)
theorem r32 : (fun K L p0 h => runFF Try.prog kp K L 32 [p0] h) = f32 := by kernel_rfl
theorem c32 (p0 : V) (h : H) : callZ Try.prog kp 32 [p0] h = f32 (callZ Try.prog kp) loopZ p0 h :=
  (callZ_eqF _ _ _ _ _).trans (congrFun (congrFun (congrFun (congrFun (r32) _) _) p0) h)

/-- zoetrope/syms.Shape -/
@[simp] def k33 : List Nat := [0, 2, 3, 4, 5]
noncomputable def s33 (K : Oracle) (L : Looper) (e : E) (h : H) : Out :=
 sq (some ⟨.nm, ⟨[(e.s k33 0), (.int .i64 0), (.int .i64 0), (.int .i64 0), (e.s k33 5)], 4, (.int .i64 0)⟩, h⟩) fun e h =>
 sq (sq (bd (binK 0 .lss (e.s k33 0) (.int .i64 0)) fun t7 =>
 bd (gl t7 false (some (e.s k33 0))) fun t9 =>
 bd (gl t7 false (binK 0 .geq t9 (.int .i64 32))) fun t10 =>
 bd (pk t7 (.bool true) t10) fun t11 =>
 some ⟨.nm, ⟨[(e.s k33 0), (e.s k33 2), (e.s k33 3), (e.s k33 4), (e.s k33 5)], 11, t11⟩, h⟩) fun e h =>
 br (e.s k33 11) (sq (some ⟨.nm, ⟨[(e.s k33 0), (.int .i64 0), (.int .i64 0), (.int .i64 41), (e.s k33 5)], 4, (.int .i64 41)⟩, h⟩) fun e h =>
 some ⟨.rt, e, h⟩)
 (some ⟨.nm, e, h⟩)) fun e h =>
 sq (bc k33 [12, 13, 14, 5] e (K 53 [] h) fun t12 h1 =>
 bd (ixN 32 3 t12 (e.s k33 0)) fun t14 =>
 bf (nw h1 95 [(.int .i64 0), (.int .i64 0), (.bool false)]) fun t5 h2 =>
 bf (stZ 3 h2 t5 t14) fun _ h3 =>
 some ⟨.nm, ⟨[(e.s k33 0), (e.s k33 2), (e.s k33 3), (e.s k33 4), t5], 0, (e.s k33 0)⟩, h3⟩) fun e h =>
 sq (bd (fa 0 (e.s k33 5)) fun t15 =>
 bd (ld h t15) fun t16 =>
 bd (fa 1 (e.s k33 5)) fun t17 =>
 bd (ld h t17) fun t18 =>
 ck (ld h t15) t16 (ck (ld h t17) t18 (some ⟨.nm, ⟨[(e.s k33 0), t16, t18, (.int .i64 0), (e.s k33 5)], 4, (.int .i64 0)⟩, h⟩))) fun e h =>
 some ⟨.rt, e, h⟩
noncomputable def f33 (K : Oracle) (L : Looper) (p0 : V) (h : H) : Option (Rv × H) := fin Try.prog k33 [.tmp 2, .tmp 3, .tmp 4] (s33 K L ⟨[p0, V.und, V.und, V.und, V.und], 0, p0⟩ h)
theorem r33 : (fun K L p0 h => runFF Try.prog kp K L 33 [p0] h) = f33 := by kernel_rfl
theorem c33 (p0 : V) (h : H) : callZ Try.prog kp 33 [p0] h = f33 (callZ Try.prog kp) loopZ p0 h :=
  (callZ_eqF _ _ _ _ _).trans (congrFun (congrFun (congrFun (congrFun (r33) _) _) p0) h)

/-- zoetrope/syms.Check -/
@[simp] def k34 : List Nat := [0, 1, 2, 3, 4, 6, 11, 12, 29, 30, 31]
noncomputable def l34_0 (K : Oracle) (L : Looper) (e : E) (h : H) : Out :=
 sq (bd (binK 0 .lss (e.s k34 31) (e.s k34 30)) fun t32 =>
 some ⟨.nm, ⟨[(e.s k34 0), (e.s k34 1), (e.s k34 2), (e.s k34 3), (e.s k34 4), (e.s k34 6), (e.s k34 11), (e.s k34 12), (e.s k34 29), (e.s k34 30), (e.s k34 31)], 32, t32⟩, h⟩) fun e h =>
 sq (br (e.s k34 32) (some ⟨.nm, e, h⟩)
 (some ⟨.ex 2, e, h⟩)) fun e h =>
 sq (blk 3 (sq (bd (iaS 2 (e.s k34 29) (e.s k34 31)) fun t33 =>
 bd (ldn 2 h t33) fun t34 =>
 bf (nw h 72 [.nils, (.int .i64 0)]) fun t6 h1 =>
 bf (stZ 2 h1 t6 t34) fun _ h2 =>
 some ⟨.nm, ⟨[(e.s k34 0), (e.s k34 1), (e.s k34 2), (e.s k34 3), (e.s k34 4), t6, (e.s k34 11), (e.s k34 12), (e.s k34 29), (e.s k34 30), (e.s k34 31)], 0, (e.s k34 0)⟩, h2⟩) fun e h =>
 sq (bd (fa 0 (e.s k34 6)) fun t35 =>
 bd (ld h t35) fun t36 =>
 bd (lnS t36) fun t37 =>
 bd (fa 1 (e.s k34 4)) fun t38 =>
 bd (ld h t38) fun t39 =>
 bd (binK 0 .neq t37 t39) fun t40 =>
 bd (gl t40 false (ldn 2 h (e.s k34 6))) fun t42 =>
 bc k34 [35, 36, 37, 38, 39, 40, 41, 42, 43, 44, 45] e (gk t40 false h (K 58 [t42] h)) fun t43 h1 =>
 bd (gl t40 false (binK 0 .neq t43 (.int .i64 0))) fun t44 =>
 bd (pk t40 (.bool true) t44) fun t45 =>
 some ⟨.nm, ⟨[(e.s k34 0), (e.s k34 1), (e.s k34 2), (e.s k34 3), (e.s k34 4), (e.s k34 6), (e.s k34 11), (e.s k34 12), (e.s k34 29), (e.s k34 30), (e.s k34 31)], 45, t45⟩, h1⟩) fun e h =>
 br (e.s k34 45) (sq (some ⟨.nm, ⟨[(e.s k34 0), (e.s k34 1), (.int .i64 2), (e.s k34 3), (e.s k34 4), (e.s k34 6), (e.s k34 11), (e.s k34 12), (e.s k34 29), (e.s k34 30), (e.s k34 31)], 2, (.int .i64 2)⟩, h⟩) fun e h =>
 some ⟨.rt, e, h⟩)
 (some ⟨.nm, e, h⟩))) fun e h =>
 bd (binK 0 .add (e.s k34 31) (.int .i64 1)) fun t46 =>
 some ⟨.nm, ⟨[(e.s k34 0), (e.s k34 1), (e.s k34 2), (e.s k34 3), (e.s k34 4), (e.s k34 6), (e.s k34 11), (e.s k34 12), (e.s k34 29), (e.s k34 30), t46], 31, t46⟩, h⟩
noncomputable def l34_1 (K : Oracle) (L : Looper) (e : E) (h : H) : Out :=
 sq (bd (binK 0 .lss (e.s k34 12) (.int .i64 32)) fun t13 =>
 some ⟨.nm, ⟨[(e.s k34 0), (e.s k34 1), (e.s k34 2), (e.s k34 3), (e.s k34 4), (e.s k34 6), (e.s k34 11), (e.s k34 12), (e.s k34 29), (e.s k34 30), (e.s k34 31)], 13, t13⟩, h⟩) fun e h =>
 sq (br (e.s k34 13) (some ⟨.nm, e, h⟩)
 (some ⟨.ex 0, e, h⟩)) fun e h =>
 sq (blk 1 (sq (bd (ixN 32 3 (e.s k34 11) (e.s k34 12)) fun t15 =>
 bf (nw h 95 [(.int .i64 0), (.int .i64 0), (.bool false)]) fun t4 h1 =>
 bf (stZ 3 h1 t4 t15) fun _ h2 =>
 some ⟨.nm, ⟨[(e.s k34 0), (e.s k34 1), (e.s k34 2), (e.s k34 12), t4, (e.s k34 6), (e.s k34 11), (e.s k34 12), (e.s k34 29), (e.s k34 30), (e.s k34 31)], 0, (e.s k34 0)⟩, h2⟩) fun e h =>
 sq (sq (bd (fa 0 (e.s k34 1)) fun t16 =>
 bd (ld h t16) fun t17 =>
 bd (iaS 1 t17 (e.s k34 3)) fun t19 =>
 bd (ld h t19) fun t20 =>
 bd (lnS t20) fun t21 =>
 bd (fa 0 (e.s k34 4)) fun t22 =>
 bd (ld h t22) fun t23 =>
 bd (binK 0 .neq t21 t23) fun t24 =>
 ck (ld h t16) t17 (ck (ld h t19) t20 (ck (ld h t22) t23 (some ⟨.nm, ⟨[(e.s k34 0), (e.s k34 1), (e.s k34 2), (e.s k34 3), (e.s k34 4), (e.s k34 6), (e.s k34 11), (e.s k34 12), (e.s k34 29), (e.s k34 30), (e.s k34 31)], 24, t24⟩, h⟩)))) fun e h =>
 br (e.s k34 24) (sq (some ⟨.nm, ⟨[(e.s k34 0), (e.s k34 1), (.int .i64 2), (e.s k34 3), (e.s k34 4), (e.s k34 6), (e.s k34 11), (e.s k34 12), (e.s k34 29), (e.s k34 30), (e.s k34 31)], 2, (.int .i64 2)⟩, h⟩) fun e h =>
 some ⟨.rt, e, h⟩)
 (some ⟨.nm, e, h⟩)) fun e h =>
 sq (bd (fa 0 (e.s k34 1)) fun t25 =>
 bd (ld h t25) fun t26 =>
 bd (iaS 1 t26 (e.s k34 3)) fun t28 =>
 bd (ld h t28) fun t29 =>
 bd (lnS t29) fun t30 =>
 some ⟨.nm, ⟨[(e.s k34 0), (e.s k34 1), (e.s k34 2), (e.s k34 3), (e.s k34 4), (e.s k34 6), (e.s k34 11), (e.s k34 12), t29, t30, (.int .i64 0)], 31, (.int .i64 0)⟩, h⟩) fun e h =>
 blk 2 (L (l34_0 K L) e h))) fun e h =>
 bd (binK 0 .add (e.s k34 12) (.int .i64 1)) fun t47 =>
 some ⟨.nm, ⟨[(e.s k34 0), (e.s k34 1), (e.s k34 2), (e.s k34 3), (e.s k34 4), (e.s k34 6), (e.s k34 11), t47, (e.s k34 29), (e.s k34 30), (e.s k34 31)], 12, t47⟩, h⟩
noncomputable def s34 (K : Oracle) (L : Looper) (e : E) (h : H) : Out :=
 sq (bf (bx h 25 (e.s k34 0)) fun t1 h1 =>
 some ⟨.nm, ⟨[(e.s k34 0), t1, (.int .i64 0), (e.s k34 3), (e.s k34 4), (e.s k34 6), (e.s k34 11), (e.s k34 12), (e.s k34 29), (e.s k34 30), (e.s k34 31)], 2, (.int .i64 0)⟩, h1⟩) fun e h =>
 sq (sq (bd (fa 0 (e.s k34 1)) fun t7 =>
 bd (ld h t7) fun t8 =>
 bd (lnS t8) fun t9 =>
 bd (binK 0 .neq t9 (.int .i64 32)) fun t10 =>
 some ⟨.nm, ⟨[(e.s k34 0), (e.s k34 1), (e.s k34 2), (e.s k34 3), (e.s k34 4), (e.s k34 6), (e.s k34 11), (e.s k34 12), (e.s k34 29), (e.s k34 30), (e.s k34 31)], 10, t10⟩, h⟩) fun e h =>
 br (e.s k34 10) (sq (some ⟨.nm, ⟨[(e.s k34 0), (e.s k34 1), (.int .i64 2), (e.s k34 3), (e.s k34 4), (e.s k34 6), (e.s k34 11), (e.s k34 12), (e.s k34 29), (e.s k34 30), (e.s k34 31)], 2, (.int .i64 2)⟩, h⟩) fun e h =>
 some ⟨.rt, e, h⟩)
 (some ⟨.nm, e, h⟩)) fun e h =>
 sq (sq (bc k34 [11, 12] e (K 53 [] h) fun t11 h1 =>
 some ⟨.nm, ⟨[(e.s k34 0), (e.s k34 1), (e.s k34 2), (e.s k34 3), (e.s k34 4), (e.s k34 6), t11, (.int .i64 0), (e.s k34 29), (e.s k34 30), (e.s k34 31)], 12, (.int .i64 0)⟩, h1⟩) fun e h =>
 blk 0 (L (l34_1 K L) e h)) fun e h =>
 sq (some ⟨.nm, ⟨[(e.s k34 0), (e.s k34 1), (.int .i64 0), (e.s k34 3), (e.s k34 4), (e.s k34 6), (e.s k34 11), (e.s k34 12), (e.s k34 29), (e.s k34 30), (e.s k34 31)], 2, (.int .i64 0)⟩, h⟩) fun e h =>
 some ⟨.rt, e, h⟩
noncomputable def f34 (K : Oracle) (L : Looper) (p0 : V) (h : H) : Option (Rv × H) := fin Try.prog k34 [.tmp 2] (s34 K L ⟨[p0, V.und, V.und, V.und, V.und, V.und, V.und, V.und, V.und, V.und, V.und], 0, p0⟩ h)
theorem r34 : (fun K L p0 h => runFF Try.prog kp K L 34 [p0] h) = f34 := by kernel_rfl
theorem c34 (p0 : V) (h : H) : callZ Try.prog kp 34 [p0] h = f34 (callZ Try.prog kp) loopZ p0 h :=
  (callZ_eqF _ _ _ _ _).trans (congrFun (congrFun (congrFun (congrFun (r34) _) _) p0) h)

/-- zoetrope/cdf.Adapt -/
@[simp] def k35 : List Nat := [0, 1, 2, 4, 5, 6, 7, 8, 9, 31, 32, 33]
noncomputable def l35_0 (K : Oracle) (L : Looper) (e : E) (h : H) : Out :=
 sq (bd (binK 0 .lss (e.s k35 33) (e.s k35 32)) fun t34 =>
 some ⟨.nm, ⟨[(e.s k35 0), (e.s k35 1), (e.s k35 2), (e.s k35 4), (e.s k35 5), (e.s k35 6), (e.s k35 7), (e.s k35 8), (e.s k35 9), (e.s k35 31), (e.s k35 32), (e.s k35 33)], 34, t34⟩, h⟩) fun e h =>
 sq (br (e.s k35 34) (some ⟨.nm, e, h⟩)
 (some ⟨.ex 0, e, h⟩)) fun e h =>
 sq (blk 1 (sq (bd (iaS 1 (e.s k35 31) (e.s k35 33)) fun t36 =>
 bd (ld h t36) fun t37 =>
 some ⟨.nm, ⟨[(e.s k35 0), (e.s k35 1), (e.s k35 2), (e.s k35 4), (e.s k35 5), (e.s k35 6), (e.s k35 7), (e.s k35 33), t37, (e.s k35 31), (e.s k35 32), (e.s k35 33)], 9, t37⟩, h⟩) fun e h =>
 sq (bd (binK 0 .lss (e.s k35 8) (e.s k35 1)) fun t40 =>
 some ⟨.nm, ⟨[(e.s k35 0), (e.s k35 1), (e.s k35 2), (e.s k35 4), (e.s k35 5), (e.s k35 6), (e.s k35 7), (e.s k35 8), (e.s k35 9), (e.s k35 31), (e.s k35 32), (e.s k35 33)], 40, t40⟩, h⟩) fun e h =>
 br (e.s k35 40) (bd (fa 0 (e.s k35 7)) fun t41 =>
 bd (ld h t41) fun t42 =>
 bd (iaS 1 t42 (e.s k35 8)) fun t44 =>
 bd (ld h t44) fun t45 =>
 bd (binK 0 .shr (e.s k35 9) (e.s k35 6)) fun t48 =>
 bd (binK 0 .sub t45 t48) fun t49 =>
 bd (iaS 1 t42 (e.s k35 8)) fun t50 =>
 bf (stZ 1 h t50 t49) fun _ h1 =>
 ck (ld h t41) t42 (ck (ld h t44) t45 (some ⟨.nm, ⟨[(e.s k35 0), (e.s k35 1), (e.s k35 2), (e.s k35 4), (e.s k35 5), (e.s k35 6), (e.s k35 7), (e.s k35 8), (e.s k35 9), (e.s k35 31), (e.s k35 32), (e.s k35 33)], 0, (e.s k35 0)⟩, h1⟩)))
 (bd (fa 0 (e.s k35 7)) fun t51 =>
 bd (ld h t51) fun t52 =>
 bd (iaS 1 t52 (e.s k35 8)) fun t54 =>
 bd (ld h t54) fun t55 =>
 bd (binK 0 .sub (.int .u16 32768) (e.s k35 9)) fun t57 =>
 bd (binK 0 .shr t57 (e.s k35 6)) fun t59 =>
 bd (binK 0 .add t55 t59) fun t60 =>
 bd (iaS 1 t52 (e.s k35 8)) fun t61 =>
 bf (stZ 1 h t61 t60) fun _ h1 =>
 ck (ld h t51) t52 (ck (ld h t54) t55 (some ⟨.nm, ⟨[(e.s k35 0), (e.s k35 1), (e.s k35 2), (e.s k35 4), (e.s k35 5), (e.s k35 6), (e.s k35 7), (e.s k35 8), (e.s k35 9), (e.s k35 31), (e.s k35 32), (e.s k35 33)], 0, (e.s k35 0)⟩, h1⟩))))) fun e h =>
 bd (binK 0 .add (e.s k35 33) (.int .i64 1)) fun t62 =>
 some ⟨.nm, ⟨[(e.s k35 0), (e.s k35 1), (e.s k35 2), (e.s k35 4), (e.s k35 5), (e.s k35 6), (e.s k35 7), (e.s k35 8), (e.s k35 9), (e.s k35 31), (e.s k35 32), t62], 33, t62⟩, h⟩
noncomputable def s35 (K : Oracle) (L : Looper) (e : E) (h : H) : Out :=
 sq (bf (bx h 72 (e.s k35 0)) fun t2 h1 =>
 bf (nw h1 72 [.nils, (.int .i64 0)]) fun t4 h2 =>
 some ⟨.nm, ⟨[(e.s k35 0), (e.s k35 1), t2, t4, (.int .i64 0), (e.s k35 6), (e.s k35 7), (e.s k35 8), (e.s k35 9), (e.s k35 31), (e.s k35 32), (e.s k35 33)], 5, (.int .i64 0)⟩, h2⟩) fun e h =>
 sq (sq (bd (ldn 2 h (e.s k35 2)) fun t10 =>
 bc k35 [10, 11, 12, 13] e (K 59 [t10, (e.s k35 1)] h) fun t12 h1 =>
 bd (unV .not t12) fun t13 =>
 some ⟨.nm, ⟨[(e.s k35 0), (e.s k35 1), (e.s k35 2), (e.s k35 4), (e.s k35 5), (e.s k35 6), (e.s k35 7), (e.s k35 8), (e.s k35 9), (e.s k35 31), (e.s k35 32), (e.s k35 33)], 13, t13⟩, h1⟩) fun e h =>
 br (e.s k35 13) (sq (bd (bl [.nils, (.int .i64 0)] []) fun t14 =>
 bf (stZ 2 h (e.s k35 4) t14) fun _ h1 =>
 some ⟨.nm, ⟨[(e.s k35 0), (e.s k35 1), (e.s k35 2), (e.s k35 4), (.int .i64 2), (e.s k35 6), (e.s k35 7), (e.s k35 8), (e.s k35 9), (e.s k35 31), (e.s k35 32), (e.s k35 33)], 5, (.int .i64 2)⟩, h1⟩) fun e h =>
 some ⟨.rt, e, h⟩)
 (some ⟨.nm, e, h⟩)) fun e h =>
 sq (bd (ldn 2 h (e.s k35 2)) fun t15 =>
 bc k35 [15, 16, 6] e (K 60 [t15] h) fun t16 h1 =>
 some ⟨.nm, ⟨[(e.s k35 0), (e.s k35 1), (e.s k35 2), (e.s k35 4), (e.s k35 5), t16, (e.s k35 7), (e.s k35 8), (e.s k35 9), (e.s k35 31), (e.s k35 32), (e.s k35 33)], 6, t16⟩, h1⟩) fun e h =>
 sq (bd (fa 0 (e.s k35 2)) fun t17 =>
 bd (ld h t17) fun t18 =>
 bn (K 61 [t18] h) fun t19 h1 =>
 bd (fa 1 (e.s k35 2)) fun t20 =>
 bd (ld h1 t20) fun t21 =>
 bd (binK 0 .add t21 (.int .i64 1)) fun t22 =>
 bd (minV [t22, (.int .i64 32)]) fun t23 =>
 bd (bl [.nils, (.int .i64 0)] [(some (0, 1), t19), (some (1, 1), t23)]) fun t24 =>
 bf (nw h1 72 [.nils, (.int .i64 0)]) fun t7 h2 =>
 bf (stZ 2 h2 t7 t24) fun _ h3 =>
 ck (ld h t17) t18 (ck (ld h t20) t21 (ck (ld h1 t20) t21 (some ⟨.nm, ⟨[(e.s k35 0), (e.s k35 1), (e.s k35 2), (e.s k35 4), (e.s k35 5), (e.s k35 6), t7, (e.s k35 8), (e.s k35 9), (e.s k35 31), (e.s k35 32), (e.s k35 33)], 0, (e.s k35 0)⟩, h3⟩)))) fun e h =>
 sq (sq (bd (fa 0 (e.s k35 7)) fun t25 =>
 bd (ld h t25) fun t26 =>
 bd (fa 0 (e.s k35 2)) fun t27 =>
 bd (ld h t27) fun t28 =>
 bd (lnS t28) fun t29 =>
 bd (binK 0 .sub t29 (.int .i64 1)) fun t30 =>
 bd (slS 1 t26 none (some t30) none) fun t31 =>
 bd (lnS t31) fun t32 =>
 some ⟨.nm, ⟨[(e.s k35 0), (e.s k35 1), (e.s k35 2), (e.s k35 4), (e.s k35 5), (e.s k35 6), (e.s k35 7), (e.s k35 8), (e.s k35 9), t31, t32, (.int .i64 0)], 33, (.int .i64 0)⟩, h⟩) fun e h =>
 blk 0 (L (l35_0 K L) e h)) fun e h =>
 sq (bd (ldn 2 h (e.s k35 7)) fun t63 =>
 bf (stZ 2 h (e.s k35 4) t63) fun _ h1 =>
 some ⟨.nm, ⟨[(e.s k35 0), (e.s k35 1), (e.s k35 2), (e.s k35 4), (.int .i64 0), (e.s k35 6), (e.s k35 7), (e.s k35 8), (e.s k35 9), (e.s k35 31), (e.s k35 32), (e.s k35 33)], 5, (.int .i64 0)⟩, h1⟩) fun e h =>
 some ⟨.rt, e, h⟩
noncomputable def f35 (K : Oracle) (L : Looper) (p0 p1 : V) (h : H) : Option (Rv × H) := fin Try.prog k35 [.cell 4 72, .tmp 5] (s35 K L ⟨[p0, p1, V.und, V.und, V.und, V.und, V.und, V.und, V.und, V.und, V.und, V.und], 0, p0⟩ h)
theorem r35 : (fun K L p0 p1 h => runFF Try.prog kp K L 35 [p0, p1] h) = f35 := by kernel_rfl
theorem c35 (p0 p1 : V) (h : H) : callZ Try.prog kp 35 [p0, p1] h = f35 (callZ Try.prog kp) loopZ p0 p1 h :=
  (callZ_eqF _ _ _ _ _).trans (congrFun (congrFun (congrFun (congrFun (congrFun (r35) _) _) p0) p1) h)

/-- zoetrope/zoetroperef00.Bring -/
@[simp] def k36 : List Nat := [0, 1, 4]
noncomputable def s36 (K : Oracle) (L : Looper) (e : E) (h : H) : Out :=
 sq (some ⟨.nm, ⟨[(e.s k36 0), (e.s k36 1), (.int .i64 0)], 4, (.int .i64 0)⟩, h⟩) fun e h =>
 sq (sq (bd (binK 0 .leq (e.s k36 1) (.int .i64 0)) fun t6 =>
 some ⟨.nm, ⟨[(e.s k36 0), (e.s k36 1), (e.s k36 4)], 6, t6⟩, h⟩) fun e h =>
 br (e.s k36 6) (sq (some ⟨.nm, ⟨[(e.s k36 0), (e.s k36 1), (.int .i64 0)], 4, (.int .i64 0)⟩, h⟩) fun e h =>
 some ⟨.rt, e, h⟩)
 (some ⟨.nm, e, h⟩)) fun e h =>
 sq (bd (binK 0 .rem (e.s k36 0) (e.s k36 1)) fun t9 =>
 some ⟨.nm, ⟨[t9, (e.s k36 1), (e.s k36 4)], 0, t9⟩, h⟩) fun e h =>
 sq (sq (bd (binK 0 .lss (e.s k36 0) (.int .i64 0)) fun t11 =>
 some ⟨.nm, ⟨[(e.s k36 0), (e.s k36 1), (e.s k36 4)], 11, t11⟩, h⟩) fun e h =>
 br (e.s k36 11) (bd (binK 0 .add (e.s k36 0) (e.s k36 1)) fun t14 =>
 some ⟨.nm, ⟨[t14, (e.s k36 1), (e.s k36 4)], 0, t14⟩, h⟩)
 (some ⟨.nm, e, h⟩)) fun e h =>
 sq (some ⟨.nm, ⟨[(e.s k36 0), (e.s k36 1), (e.s k36 0)], 4, (e.s k36 0)⟩, h⟩) fun e h =>
 some ⟨.rt, e, h⟩
noncomputable def f36 (K : Oracle) (L : Looper) (p0 p1 : V) (h : H) : Option (Rv × H) := fin Try.prog k36 [.tmp 4] (s36 K L ⟨[p0, p1, V.und], 0, p0⟩ h)
theorem r36 : (fun K L p0 p1 h => runFF Try.prog kp K L 36 [p0, p1] h) = f36 := by kernel_rfl
theorem c36 (p0 p1 : V) (h : H) : callZ Try.prog kp 36 [p0, p1] h = f36 (callZ Try.prog kp) loopZ p0 p1 h :=
  (callZ_eqF _ _ _ _ _).trans (congrFun (congrFun (congrFun (congrFun (congrFun (r36) _) _) p0) p1) h)

/-- zoetrope/zoetroperef04.Check -/
@[simp] def k37 : List Nat := [0, 1, 2, 3, 4, 5]
noncomputable def l37_0 (K : Oracle) (L : Looper) (e : E) (h : H) : Out :=
 sq (sq (bd (fa 0 (e.s k37 1)) fun t28 =>
 bd (ld h t28) fun t29 =>
 bd (iaS 1 t29 (e.s k37 4)) fun t31 =>
 bd (ld h t31) fun t32 =>
 bd (lnS t32) fun t33 =>
 bd (binK 0 .lss (e.s k37 5) t33) fun t34 =>
 some ⟨.nm, ⟨[(e.s k37 0), (e.s k37 1), (e.s k37 2), (e.s k37 3), (e.s k37 4), (e.s k37 5)], 34, t34⟩, h⟩) fun e h =>
 br (e.s k37 34) (some ⟨.nm, e, h⟩)
 (some ⟨.ex 2, e, h⟩)) fun e h =>
 sq (blk 3 (sq (bd (fa 0 (e.s k37 1)) fun t37 =>
 bd (ld h t37) fun t38 =>
 bd (iaS 1 t38 (e.s k37 4)) fun t40 =>
 bd (ld h t40) fun t41 =>
 bd (iaS 2 t41 (e.s k37 5)) fun t43 =>
 bd (fa 0 t43) fun t44 =>
 bd (ld h t44) fun t45 =>
 bd (lnS t45) fun t46 =>
 bd (iaS 3 (e.s k37 3) (e.s k37 4)) fun t49 =>
 bd (iaA 3 1 t49 (.int .i64 1)) fun t50 =>
 bd (ld h t50) fun t51 =>
 bd (binK 0 .neq t46 t51) fun t52 =>
 bd (gl t52 false (fa 0 (e.s k37 1))) fun t54 =>
 bd (gl t52 false (ld h t54)) fun t55 =>
 bd (gl t52 false (some (e.s k37 4))) fun t56 =>
 bd (gl t52 false (iaS 1 t55 t56)) fun t57 =>
 bd (gl t52 false (ld h t57)) fun t58 =>
 bd (gl t52 false (some (e.s k37 5))) fun t59 =>
 bd (gl t52 false (iaS 2 t58 t59)) fun t60 =>
 bd (gl t52 false (ldn 2 h t60)) fun t61 =>
 bn (gk t52 false h (K 62 [t61] h)) fun t62 h1 =>
 bd (gl t52 false (binK 0 .neq t62 (.int .i64 0))) fun t63 =>
 bd (pk t52 (.bool true) t63) fun t64 =>
 ck (ld h t37) t38 (ck (ld h t40) t41 (ck (ld h t44) t45 (ck (ld h t50) t51 (ck (gl t52 false (ld h t54)) t55 (ck (gl t52 false (ld h t57)) t58 (ck (gl t52 false (ldn 2 h t60)) t61 (some ⟨.nm, ⟨[(e.s k37 0), (e.s k37 1), (e.s k37 2), (e.s k37 3), (e.s k37 4), (e.s k37 5)], 64, t64⟩, h1⟩)))))))) fun e h =>
 br (e.s k37 64) (sq (some ⟨.nm, ⟨[(e.s k37 0), (e.s k37 1), (.int .i64 2), (e.s k37 3), (e.s k37 4), (e.s k37 5)], 2, (.int .i64 2)⟩, h⟩) fun e h =>
 some ⟨.rt, e, h⟩)
 (some ⟨.nm, e, h⟩))) fun e h =>
 bd (binK 0 .add (e.s k37 5) (.int .i64 1)) fun t36 =>
 some ⟨.nm, ⟨[(e.s k37 0), (e.s k37 1), (e.s k37 2), (e.s k37 3), (e.s k37 4), t36], 5, t36⟩, h⟩
noncomputable def l37_1 (K : Oracle) (L : Looper) (e : E) (h : H) : Out :=
 sq (sq (bd (binK 0 .lss (e.s k37 4) (.int .i64 32)) fun t12 =>
 some ⟨.nm, ⟨[(e.s k37 0), (e.s k37 1), (e.s k37 2), (e.s k37 3), (e.s k37 4), (e.s k37 5)], 12, t12⟩, h⟩) fun e h =>
 br (e.s k37 12) (some ⟨.nm, e, h⟩)
 (some ⟨.ex 0, e, h⟩)) fun e h =>
 sq (blk 1 (sq (sq (bd (fa 0 (e.s k37 1)) fun t15 =>
 bd (ld h t15) fun t16 =>
 bd (iaS 1 t16 (e.s k37 4)) fun t18 =>
 bd (ld h t18) fun t19 =>
 bd (lnS t19) fun t20 =>
 bd (iaS 3 (e.s k37 3) (e.s k37 4)) fun t23 =>
 bd (iaA 3 1 t23 (.int .i64 0)) fun t24 =>
 bd (ld h t24) fun t25 =>
 bd (binK 0 .neq t20 t25) fun t26 =>
 ck (ld h t15) t16 (ck (ld h t18) t19 (ck (ld h t24) t25 (some ⟨.nm, ⟨[(e.s k37 0), (e.s k37 1), (e.s k37 2), (e.s k37 3), (e.s k37 4), (e.s k37 5)], 26, t26⟩, h⟩)))) fun e h =>
 br (e.s k37 26) (sq (some ⟨.nm, ⟨[(e.s k37 0), (e.s k37 1), (.int .i64 2), (e.s k37 3), (e.s k37 4), (e.s k37 5)], 2, (.int .i64 2)⟩, h⟩) fun e h =>
 some ⟨.rt, e, h⟩)
 (some ⟨.nm, e, h⟩)) fun e h =>
 sq (some ⟨.nm, ⟨[(e.s k37 0), (e.s k37 1), (e.s k37 2), (e.s k37 3), (e.s k37 4), (.int .i64 0)], 5, (.int .i64 0)⟩, h⟩) fun e h =>
 blk 2 (L (l37_0 K L) e h))) fun e h =>
 bd (binK 0 .add (e.s k37 4) (.int .i64 1)) fun t14 =>
 some ⟨.nm, ⟨[(e.s k37 0), (e.s k37 1), (e.s k37 2), (e.s k37 3), t14, (e.s k37 5)], 4, t14⟩, h⟩
noncomputable def s37 (K : Oracle) (L : Looper) (e : E) (h : H) : Out :=
 sq (bf (bx h 25 (e.s k37 0)) fun t1 h1 =>
 some ⟨.nm, ⟨[(e.s k37 0), t1, (.int .i64 0), (e.s k37 3), (e.s k37 4), (e.s k37 5)], 2, (.int .i64 0)⟩, h1⟩) fun e h =>
 sq (sq (bd (fa 0 (e.s k37 1)) fun t6 =>
 bd (ld h t6) fun t7 =>
 bd (lnS t7) fun t8 =>
 bd (binK 0 .neq t8 (.int .i64 32)) fun t9 =>
 some ⟨.nm, ⟨[(e.s k37 0), (e.s k37 1), (e.s k37 2), (e.s k37 3), (e.s k37 4), (e.s k37 5)], 9, t9⟩, h⟩) fun e h =>
 br (e.s k37 9) (sq (some ⟨.nm, ⟨[(e.s k37 0), (e.s k37 1), (.int .i64 2), (e.s k37 3), (e.s k37 4), (e.s k37 5)], 2, (.int .i64 2)⟩, h⟩) fun e h =>
 some ⟨.rt, e, h⟩)
 (some ⟨.nm, e, h⟩)) fun e h =>
 sq (bc k37 [10, 3] e (K 48 [] h) fun t10 h1 =>
 some ⟨.nm, ⟨[(e.s k37 0), (e.s k37 1), (e.s k37 2), t10, (e.s k37 4), (e.s k37 5)], 3, t10⟩, h1⟩) fun e h =>
 sq (sq (some ⟨.nm, ⟨[(e.s k37 0), (e.s k37 1), (e.s k37 2), (e.s k37 3), (.int .i64 0), (e.s k37 5)], 4, (.int .i64 0)⟩, h⟩) fun e h =>
 blk 0 (L (l37_1 K L) e h)) fun e h =>
 sq (some ⟨.nm, ⟨[(e.s k37 0), (e.s k37 1), (.int .i64 0), (e.s k37 3), (e.s k37 4), (e.s k37 5)], 2, (.int .i64 0)⟩, h⟩) fun e h =>
 some ⟨.rt, e, h⟩
noncomputable def f37 (K : Oracle) (L : Looper) (p0 : V) (h : H) : Option (Rv × H) := fin Try.prog k37 [.tmp 2] (s37 K L ⟨[p0, V.und, V.und, V.und, V.und, V.und], 0, p0⟩ h)
theorem r37 : (fun K L p0 h => runFF Try.prog kp K L 37 [p0] h) = f37 := by kernel_rfl
theorem c37 (p0 : V) (h : H) : callZ Try.prog kp 37 [p0] h = f37 (callZ Try.prog kp) loopZ p0 h :=
  (callZ_eqF _ _ _ _ _).trans (congrFun (congrFun (congrFun (congrFun (r37) _) _) p0) h)

/-- zoetrope/syms.Copy -/
@[simp] def k38 : List Nat := [0, 1, 2, 3, 4, 5, 6, 13, 14, 15, 27, 28]
noncomputable def l38_0 (K : Oracle) (L : Looper) (e : E) (h : H) : Out :=
 sq (bd (binK 0 .lss (e.s k38 28) (e.s k38 27)) fun t29 =>
 some ⟨.nm, ⟨[(e.s k38 0), (e.s k38 1), (e.s k38 2), (e.s k38 3), (e.s k38 4), (e.s k38 5), (e.s k38 6), (e.s k38 13), (e.s k38 14), (e.s k38 15), (e.s k38 27), (e.s k38 28)], 29, t29⟩, h⟩) fun e h =>
 sq (br (e.s k38 29) (some ⟨.nm, e, h⟩)
 (some ⟨.ex 2, e, h⟩)) fun e h =>
 sq (blk 3 (sq (some ⟨.nm, ⟨[(e.s k38 0), (e.s k38 1), (e.s k38 2), (e.s k38 3), (e.s k38 4), (e.s k38 5), (e.s k38 28), (e.s k38 13), (e.s k38 14), (e.s k38 15), (e.s k38 27), (e.s k38 28)], 6, (e.s k38 28)⟩, h⟩) fun e h =>
 bd (iaS 2 (e.s k38 5) (e.s k38 6)) fun t39 =>
 bd (fa 0 t39) fun t40 =>
 bd (ld h t40) fun t41 =>
 bn (K 61 [t41] h) fun t42 h1 =>
 bd (fa 0 (e.s k38 3)) fun t31 =>
 bd (ld h1 t31) fun t32 =>
 bd (iaS 1 t32 (e.s k38 4)) fun t34 =>
 bd (ld h1 t34) fun t35 =>
 bd (iaS 2 t35 (e.s k38 6)) fun t43 =>
 bd (fa 0 t43) fun t44 =>
 bf (stZ 1 h1 t44 t42) fun _ h2 =>
 ck (ld h t31) t32 (ck (ld h1 t31) t32 (ck (ld h t34) t35 (ck (ld h1 t34) t35 (ck (ld h t40) t41 (some ⟨.nm, ⟨[(e.s k38 0), (e.s k38 1), (e.s k38 2), (e.s k38 3), (e.s k38 4), (e.s k38 5), (e.s k38 6), (e.s k38 13), (e.s k38 14), (e.s k38 15), (e.s k38 27), (e.s k38 28)], 0, (e.s k38 0)⟩, h2⟩))))))) fun e h =>
 bd (binK 0 .add (e.s k38 28) (.int .i64 1)) fun t45 =>
 some ⟨.nm, ⟨[(e.s k38 0), (e.s k38 1), (e.s k38 2), (e.s k38 3), (e.s k38 4), (e.s k38 5), (e.s k38 6), (e.s k38 13), (e.s k38 14), (e.s k38 15), (e.s k38 27), t45], 28, t45⟩, h⟩
noncomputable def l38_1 (K : Oracle) (L : Looper) (e : E) (h : H) : Out :=
 sq (bd (binK 0 .lss (e.s k38 15) (e.s k38 14)) fun t16 =>
 some ⟨.nm, ⟨[(e.s k38 0), (e.s k38 1), (e.s k38 2), (e.s k38 3), (e.s k38 4), (e.s k38 5), (e.s k38 6), (e.s k38 13), (e.s k38 14), (e.s k38 15), (e.s k38 27), (e.s k38 28)], 16, t16⟩, h⟩) fun e h =>
 sq (br (e.s k38 16) (some ⟨.nm, e, h⟩)
 (some ⟨.ex 0, e, h⟩)) fun e h =>
 sq (blk 1 (sq (bd (iaS 1 (e.s k38 13) (e.s k38 15)) fun t18 =>
 bd (ld h t18) fun t19 =>
 some ⟨.nm, ⟨[(e.s k38 0), (e.s k38 1), (e.s k38 2), (e.s k38 3), (e.s k38 15), t19, (e.s k38 6), (e.s k38 13), (e.s k38 14), (e.s k38 15), (e.s k38 27), (e.s k38 28)], 5, t19⟩, h⟩) fun e h =>
 sq (bn (K 63 [(e.s k38 5)] h) fun t24 h1 =>
 bd (fa 0 (e.s k38 3)) fun t20 =>
 bd (ld h1 t20) fun t21 =>
 bd (iaS 1 t21 (e.s k38 4)) fun t25 =>
 bf (stZ 1 h1 t25 t24) fun _ h2 =>
 ck (ld h t20) t21 (ck (ld h1 t20) t21 (some ⟨.nm, ⟨[(e.s k38 0), (e.s k38 1), (e.s k38 2), (e.s k38 3), (e.s k38 4), (e.s k38 5), (e.s k38 6), (e.s k38 13), (e.s k38 14), (e.s k38 15), (e.s k38 27), (e.s k38 28)], 0, (e.s k38 0)⟩, h2⟩))) fun e h =>
 sq (bd (lnS (e.s k38 5)) fun t27 =>
 some ⟨.nm, ⟨[(e.s k38 0), (e.s k38 1), (e.s k38 2), (e.s k38 3), (e.s k38 4), (e.s k38 5), (e.s k38 6), (e.s k38 13), (e.s k38 14), (e.s k38 15), t27, (.int .i64 0)], 28, (.int .i64 0)⟩, h⟩) fun e h =>
 blk 2 (L (l38_0 K L) e h))) fun e h =>
 bd (binK 0 .add (e.s k38 15) (.int .i64 1)) fun t46 =>
 some ⟨.nm, ⟨[(e.s k38 0), (e.s k38 1), (e.s k38 2), (e.s k38 3), (e.s k38 4), (e.s k38 5), (e.s k38 6), (e.s k38 13), (e.s k38 14), t46, (e.s k38 27), (e.s k38 28)], 15, t46⟩, h⟩
noncomputable def s38 (K : Oracle) (L : Looper) (e : E) (h : H) : Out :=
 sq (bf (bx h 25 (e.s k38 0)) fun t1 h1 =>
 bf (nw h1 25 [.nils]) fun t2 h2 =>
 some ⟨.nm, ⟨[(e.s k38 0), t1, t2, (e.s k38 3), (e.s k38 4), (e.s k38 5), (e.s k38 6), (e.s k38 13), (e.s k38 14), (e.s k38 15), (e.s k38 27), (e.s k38 28)], 2, t2⟩, h2⟩) fun e h =>
 sq (bd (fa 0 (e.s k38 1)) fun t7 =>
 bd (ld h t7) fun t8 =>
 bd (lnS t8) fun t9 =>
 bf (ms h 75 24 [.nils] t9 t9) fun t10 h1 =>
 bd (bl [.nils] [(some (0, 1), t10)]) fun t11 =>
 bf (nw h1 25 [.nils]) fun t3 h2 =>
 bf (stZ 1 h2 t3 t11) fun _ h3 =>
 some ⟨.nm, ⟨[(e.s k38 0), (e.s k38 1), (e.s k38 2), t3, (e.s k38 4), (e.s k38 5), (e.s k38 6), (e.s k38 13), (e.s k38 14), (e.s k38 15), (e.s k38 27), (e.s k38 28)], 0, (e.s k38 0)⟩, h3⟩) fun e h =>
 sq (sq (bd (fa 0 (e.s k38 1)) fun t12 =>
 bd (ld h t12) fun t13 =>
 bd (lnS t13) fun t14 =>
 some ⟨.nm, ⟨[(e.s k38 0), (e.s k38 1), (e.s k38 2), (e.s k38 3), (e.s k38 4), (e.s k38 5), (e.s k38 6), t13, t14, (.int .i64 0), (e.s k38 27), (e.s k38 28)], 15, (.int .i64 0)⟩, h⟩) fun e h =>
 blk 0 (L (l38_1 K L) e h)) fun e h =>
 sq (bd (ldn 1 h (e.s k38 3)) fun t47 =>
 bf (stZ 1 h (e.s k38 2) t47) fun _ h1 =>
 some ⟨.nm, ⟨[(e.s k38 0), (e.s k38 1), (e.s k38 2), (e.s k38 3), (e.s k38 4), (e.s k38 5), (e.s k38 6), (e.s k38 13), (e.s k38 14), (e.s k38 15), (e.s k38 27), (e.s k38 28)], 0, (e.s k38 0)⟩, h1⟩) fun e h =>
 some ⟨.rt, e, h⟩
noncomputable def f38 (K : Oracle) (L : Looper) (p0 : V) (h : H) : Option (Rv × H) := fin Try.prog k38 [.cell 2 25] (s38 K L ⟨[p0, V.und, V.und, V.und, V.und, V.und, V.und, V.und, V.und, V.und, V.und, V.und], 0, p0⟩ h)
theorem r38 : (fun K L p0 h => runFF Try.prog kp K L 38 [p0] h) = f38 := by kernel_rfl
theorem c38 (p0 : V) (h : H) : callZ Try.prog kp 38 [p0] h = f38 (callZ Try.prog kp) loopZ p0 h :=
  (callZ_eqF _ _ _ _ _).trans (congrFun (congrFun (congrFun (congrFun (r38) _) _) p0) h)

/-- zoetrope/syms.Average -/
@[simp] def k39 : List Nat := [0, 2, 3, 4, 5, 6, 7, 8, 9, 10, 11, 28, 29, 30, 36, 37, 41, 42]
noncomputable def l39_0 (K : Oracle) (L : Looper) (e : E) (h : H) : Out :=
 sq (bd (binK 0 .lss (e.s k39 42) (e.s k39 41)) fun t43 =>
 some ⟨.nm, ⟨[(e.s k39 0), (e.s k39 2), (e.s k39 3), (e.s k39 4), (e.s k39 5), (e.s k39 6), (e.s k39 7), (e.s k39 8), (e.s k39 9), (e.s k39 10), (e.s k39 11), (e.s k39 28), (e.s k39 29), (e.s k39 30), (e.s k39 36), (e.s k39 37), (e.s k39 41), (e.s k39 42)], 43, t43⟩, h⟩) fun e h =>
 sq (br (e.s k39 43) (some ⟨.nm, e, h⟩)
 (some ⟨.ex 4, e, h⟩)) fun e h =>
 sq (blk 5 (sq (some ⟨.nm, ⟨[(e.s k39 0), (e.s k39 2), (e.s k39 3), (e.s k39 4), (e.s k39 5), (e.s k39 6), (e.s k39 7), (e.s k39 8), (e.s k39 42), (e.s k39 10), (e.s k39 11), (e.s k39 28), (e.s k39 29), (e.s k39 30), (e.s k39 36), (e.s k39 37), (e.s k39 41), (e.s k39 42)], 9, (e.s k39 42)⟩, h⟩) fun e h =>
 bd (iaS 1 (e.s k39 0) (e.s k39 9)) fun t49 =>
 bd (fa 0 t49) fun t50 =>
 bd (ld h t50) fun t51 =>
 bd (iaS 1 t51 (e.s k39 6)) fun t53 =>
 bd (ld h t53) fun t54 =>
 bd (iaS 2 t54 (e.s k39 8)) fun t56 =>
 bd (ldn 2 h t56) fun t57 =>
 bd (iaS 2 (e.s k39 5) (e.s k39 9)) fun t58 =>
 bf (stZ 2 h t58 t57) fun _ h1 =>
 some ⟨.nm, ⟨[(e.s k39 0), (e.s k39 2), (e.s k39 3), (e.s k39 4), (e.s k39 5), (e.s k39 6), (e.s k39 7), (e.s k39 8), (e.s k39 9), (e.s k39 10), (e.s k39 11), (e.s k39 28), (e.s k39 29), (e.s k39 30), (e.s k39 36), (e.s k39 37), (e.s k39 41), (e.s k39 42)], 0, (e.s k39 0)⟩, h1⟩)) fun e h =>
 bd (binK 0 .add (e.s k39 42) (.int .i64 1)) fun t59 =>
 some ⟨.nm, ⟨[(e.s k39 0), (e.s k39 2), (e.s k39 3), (e.s k39 4), (e.s k39 5), (e.s k39 6), (e.s k39 7), (e.s k39 8), (e.s k39 9), (e.s k39 10), (e.s k39 11), (e.s k39 28), (e.s k39 29), (e.s k39 30), (e.s k39 36), (e.s k39 37), (e.s k39 41), t59], 42, t59⟩, h⟩
noncomputable def l39_1 (K : Oracle) (L : Looper) (e : E) (h : H) : Out :=
 sq (bd (binK 0 .lss (e.s k39 37) (e.s k39 36)) fun t38 =>
 some ⟨.nm, ⟨[(e.s k39 0), (e.s k39 2), (e.s k39 3), (e.s k39 4), (e.s k39 5), (e.s k39 6), (e.s k39 7), (e.s k39 8), (e.s k39 9), (e.s k39 10), (e.s k39 11), (e.s k39 28), (e.s k39 29), (e.s k39 30), (e.s k39 36), (e.s k39 37), (e.s k39 41), (e.s k39 42)], 38, t38⟩, h⟩) fun e h =>
 sq (br (e.s k39 38) (some ⟨.nm, e, h⟩)
 (some ⟨.ex 2, e, h⟩)) fun e h =>
 sq (blk 3 (sq (some ⟨.nm, ⟨[(e.s k39 0), (e.s k39 2), (e.s k39 3), (e.s k39 4), (e.s k39 5), (e.s k39 6), (e.s k39 7), (e.s k39 37), (e.s k39 9), (e.s k39 10), (e.s k39 11), (e.s k39 28), (e.s k39 29), (e.s k39 30), (e.s k39 36), (e.s k39 37), (e.s k39 41), (e.s k39 42)], 8, (e.s k39 37)⟩, h⟩) fun e h =>
 sq (sq (bd (lnS (e.s k39 0)) fun t41 =>
 some ⟨.nm, ⟨[(e.s k39 0), (e.s k39 2), (e.s k39 3), (e.s k39 4), (e.s k39 5), (e.s k39 6), (e.s k39 7), (e.s k39 8), (e.s k39 9), (e.s k39 10), (e.s k39 11), (e.s k39 28), (e.s k39 29), (e.s k39 30), (e.s k39 36), (e.s k39 37), t41, (.int .i64 0)], 42, (.int .i64 0)⟩, h⟩) fun e h =>
 blk 4 (L (l39_0 K L) e h)) fun e h =>
 sq (bc k39 [61, 62, 60, 63, 64, 10, 11] e (K 66 [(e.s k39 5)] h) fun t62 h1 =>
 bd (exV t62 0) fun t63 =>
 bd (exV t62 1) fun t64 =>
 bf (nw h1 72 [.nils, (.int .i64 0)]) fun t10 h2 =>
 bf (stZ 2 h2 t10 t63) fun _ h3 =>
 some ⟨.nm, ⟨[(e.s k39 0), (e.s k39 2), (e.s k39 3), (e.s k39 4), (e.s k39 5), (e.s k39 6), (e.s k39 7), (e.s k39 8), (e.s k39 9), t10, t64, (e.s k39 28), (e.s k39 29), (e.s k39 30), (e.s k39 36), (e.s k39 37), (e.s k39 41), (e.s k39 42)], 11, t64⟩, h3⟩) fun e h =>
 sq (sq (bd (binK 0 .neq (e.s k39 11) (.int .i64 0)) fun t66 =>
 some ⟨.nm, ⟨[(e.s k39 0), (e.s k39 2), (e.s k39 3), (e.s k39 4), (e.s k39 5), (e.s k39 6), (e.s k39 7), (e.s k39 8), (e.s k39 9), (e.s k39 10), (e.s k39 11), (e.s k39 28), (e.s k39 29), (e.s k39 30), (e.s k39 36), (e.s k39 37), (e.s k39 41), (e.s k39 42)], 66, t66⟩, h⟩) fun e h =>
 br (e.s k39 66) (sq (bd (bl [.nils] []) fun t67 =>
 bf (stZ 1 h (e.s k39 2) t67) fun _ h1 =>
 some ⟨.nm, ⟨[(e.s k39 0), (e.s k39 2), (e.s k39 11), (e.s k39 4), (e.s k39 5), (e.s k39 6), (e.s k39 7), (e.s k39 8), (e.s k39 9), (e.s k39 10), (e.s k39 11), (e.s k39 28), (e.s k39 29), (e.s k39 30), (e.s k39 36), (e.s k39 37), (e.s k39 41), (e.s k39 42)], 3, (e.s k39 11)⟩, h1⟩) fun e h =>
 some ⟨.rt, e, h⟩)
 (some ⟨.nm, e, h⟩)) fun e h =>
 bd (ldn 2 h (e.s k39 10)) fun t71 =>
 bd (iaS 2 (e.s k39 7) (e.s k39 8)) fun t72 =>
 bf (stZ 2 h t72 t71) fun _ h1 =>
 some ⟨.nm, ⟨[(e.s k39 0), (e.s k39 2), (e.s k39 3), (e.s k39 4), (e.s k39 5), (e.s k39 6), (e.s k39 7), (e.s k39 8), (e.s k39 9), (e.s k39 10), (e.s k39 11), (e.s k39 28), (e.s k39 29), (e.s k39 30), (e.s k39 36), (e.s k39 37), (e.s k39 41), (e.s k39 42)], 0, (e.s k39 0)⟩, h1⟩)) fun e h =>
 bd (binK 0 .add (e.s k39 37) (.int .i64 1)) fun t73 =>
 some ⟨.nm, ⟨[(e.s k39 0), (e.s k39 2), (e.s k39 3), (e.s k39 4), (e.s k39 5), (e.s k39 6), (e.s k39 7), (e.s k39 8), (e.s k39 9), (e.s k39 10), (e.s k39 11), (e.s k39 28), (e.s k39 29), (e.s k39 30), (e.s k39 36), t73, (e.s k39 41), (e.s k39 42)], 37, t73⟩, h⟩
noncomputable def l39_2 (K : Oracle) (L : Looper) (e : E) (h : H) : Out :=
 sq (bd (binK 0 .lss (e.s k39 30) (e.s k39 29)) fun t31 =>
 some ⟨.nm, ⟨[(e.s k39 0), (e.s k39 2), (e.s k39 3), (e.s k39 4), (e.s k39 5), (e.s k39 6), (e.s k39 7), (e.s k39 8), (e.s k39 9), (e.s k39 10), (e.s k39 11), (e.s k39 28), (e.s k39 29), (e.s k39 30), (e.s k39 36), (e.s k39 37), (e.s k39 41), (e.s k39 42)], 31, t31⟩, h⟩) fun e h =>
 sq (br (e.s k39 31) (some ⟨.nm, e, h⟩)
 (some ⟨.ex 0, e, h⟩)) fun e h =>
 sq (blk 1 (sq (bd (iaS 1 (e.s k39 28) (e.s k39 30)) fun t33 =>
 bd (ld h t33) fun t34 =>
 some ⟨.nm, ⟨[(e.s k39 0), (e.s k39 2), (e.s k39 3), (e.s k39 4), (e.s k39 5), (e.s k39 30), t34, (e.s k39 8), (e.s k39 9), (e.s k39 10), (e.s k39 11), (e.s k39 28), (e.s k39 29), (e.s k39 30), (e.s k39 36), (e.s k39 37), (e.s k39 41), (e.s k39 42)], 7, t34⟩, h⟩) fun e h =>
 sq (bd (lnS (e.s k39 7)) fun t36 =>
 some ⟨.nm, ⟨[(e.s k39 0), (e.s k39 2), (e.s k39 3), (e.s k39 4), (e.s k39 5), (e.s k39 6), (e.s k39 7), (e.s k39 8), (e.s k39 9), (e.s k39 10), (e.s k39 11), (e.s k39 28), (e.s k39 29), (e.s k39 30), t36, (.int .i64 0), (e.s k39 41), (e.s k39 42)], 37, (.int .i64 0)⟩, h⟩) fun e h =>
 blk 2 (L (l39_1 K L) e h))) fun e h =>
 bd (binK 0 .add (e.s k39 30) (.int .i64 1)) fun t74 =>
 some ⟨.nm, ⟨[(e.s k39 0), (e.s k39 2), (e.s k39 3), (e.s k39 4), (e.s k39 5), (e.s k39 6), (e.s k39 7), (e.s k39 8), (e.s k39 9), (e.s k39 10), (e.s k39 11), (e.s k39 28), (e.s k39 29), t74, (e.s k39 36), (e.s k39 37), (e.s k39 41), (e.s k39 42)], 30, t74⟩, h⟩
noncomputable def s39 (K : Oracle) (L : Looper) (e : E) (h : H) : Out :=
 sq (bf (nw h 25 [.nils]) fun t2 h1 =>
 some ⟨.nm, ⟨[(e.s k39 0), t2, (.int .i64 0), (e.s k39 4), (e.s k39 5), (e.s k39 6), (e.s k39 7), (e.s k39 8), (e.s k39 9), (e.s k39 10), (e.s k39 11), (e.s k39 28), (e.s k39 29), (e.s k39 30), (e.s k39 36), (e.s k39 37), (e.s k39 41), (e.s k39 42)], 3, (.int .i64 0)⟩, h1⟩) fun e h =>
 sq (sq (bd (lnS (e.s k39 0)) fun t13 =>
 bd (binK 0 .eql t13 (.int .i64 0)) fun t14 =>
 bd (gl t14 false (some (e.s k39 0))) fun t16 =>
 bc k39 [12, 13, 14, 15, 16, 17, 18] e (gk t14 false h (K 64 [t16, (.fn (.func 65) [] [])] h)) fun t17 h1 =>
 bd (pk t14 (.bool true) t17) fun t18 =>
 some ⟨.nm, ⟨[(e.s k39 0), (e.s k39 2), (e.s k39 3), (e.s k39 4), (e.s k39 5), (e.s k39 6), (e.s k39 7), (e.s k39 8), (e.s k39 9), (e.s k39 10), (e.s k39 11), (e.s k39 28), (e.s k39 29), (e.s k39 30), (e.s k39 36), (e.s k39 37), (e.s k39 41), (e.s k39 42)], 18, t18⟩, h1⟩) fun e h =>
 br (e.s k39 18) (sq (bd (bl [.nils] []) fun t19 =>
 bf (stZ 1 h (e.s k39 2) t19) fun _ h1 =>
 some ⟨.nm, ⟨[(e.s k39 0), (e.s k39 2), (.int .i64 2), (e.s k39 4), (e.s k39 5), (e.s k39 6), (e.s k39 7), (e.s k39 8), (e.s k39 9), (e.s k39 10), (e.s k39 11), (e.s k39 28), (e.s k39 29), (e.s k39 30), (e.s k39 36), (e.s k39 37), (e.s k39 41), (e.s k39 42)], 3, (.int .i64 2)⟩, h1⟩) fun e h =>
 some ⟨.rt, e, h⟩)
 (some ⟨.nm, e, h⟩)) fun e h =>
 sq (bd (iaS 1 (e.s k39 0) (.int .i64 0)) fun t21 =>
 bd (ldn 1 h t21) fun t22 =>
 bc k39 [20, 21, 22, 23, 4] e (K 38 [t22] h) fun t23 h1 =>
 bf (nw h1 25 [.nils]) fun t4 h2 =>
 bf (stZ 1 h2 t4 t23) fun _ h3 =>
 some ⟨.nm, ⟨[(e.s k39 0), (e.s k39 2), (e.s k39 3), t4, (e.s k39 5), (e.s k39 6), (e.s k39 7), (e.s k39 8), (e.s k39 9), (e.s k39 10), (e.s k39 11), (e.s k39 28), (e.s k39 29), (e.s k39 30), (e.s k39 36), (e.s k39 37), (e.s k39 41), (e.s k39 42)], 0, (e.s k39 0)⟩, h3⟩) fun e h =>
 sq (bd (lnS (e.s k39 0)) fun t25 =>
 bf (ms h 72 32 [.nils, (.int .i64 0)] t25 t25) fun t26 h1 =>
 some ⟨.nm, ⟨[(e.s k39 0), (e.s k39 2), (e.s k39 3), (e.s k39 4), t26, (e.s k39 6), (e.s k39 7), (e.s k39 8), (e.s k39 9), (e.s k39 10), (e.s k39 11), (e.s k39 28), (e.s k39 29), (e.s k39 30), (e.s k39 36), (e.s k39 37), (e.s k39 41), (e.s k39 42)], 5, t26⟩, h1⟩) fun e h =>
 sq (sq (bd (fa 0 (e.s k39 4)) fun t27 =>
 bd (ld h t27) fun t28 =>
 bd (lnS t28) fun t29 =>
 some ⟨.nm, ⟨[(e.s k39 0), (e.s k39 2), (e.s k39 3), (e.s k39 4), (e.s k39 5), (e.s k39 6), (e.s k39 7), (e.s k39 8), (e.s k39 9), (e.s k39 10), (e.s k39 11), t28, t29, (.int .i64 0), (e.s k39 36), (e.s k39 37), (e.s k39 41), (e.s k39 42)], 30, (.int .i64 0)⟩, h⟩) fun e h =>
 blk 0 (L (l39_2 K L) e h)) fun e h =>
 sq (bd (ldn 1 h (e.s k39 4)) fun t75 =>
 bf (stZ 1 h (e.s k39 2) t75) fun _ h1 =>
 some ⟨.nm, ⟨[(e.s k39 0), (e.s k39 2), (.int .i64 0), (e.s k39 4), (e.s k39 5), (e.s k39 6), (e.s k39 7), (e.s k39 8), (e.s k39 9), (e.s k39 10), (e.s k39 11), (e.s k39 28), (e.s k39 29), (e.s k39 30), (e.s k39 36), (e.s k39 37), (e.s k39 41), (e.s k39 42)], 3, (.int .i64 0)⟩, h1⟩) fun e h =>
 some ⟨.rt, e, h⟩
noncomputable def f39 (K : Oracle) (L : Looper) (p0 : V) (h : H) : Option (Rv × H) := fin Try.prog k39 [.cell 2 25, .tmp 3] (s39 K L ⟨[p0, V.und, V.und, V.und, V.und, V.und, V.und, V.und, V.und, V.und, V.und, V.und, V.und, V.und, V.und, V.und, V.und, V.und], 0, p0⟩ h)
theorem r39 : (fun K L p0 h => runFF Try.prog kp K L 39 [p0] h) = f39 := by kernel_rfl
theorem c39 (p0 : V) (h : H) : callZ Try.prog kp 39 [p0] h = f39 (callZ Try.prog kp) loopZ p0 h :=
  (callZ_eqF _ _ _ _ _).trans (congrFun (congrFun (congrFun (congrFun (r39) _) _) p0) h)

/-- zoetrope/zoetroperef04.Average -/
@[simp] def k40 : List Nat := [0, 2, 3, 4, 5, 6, 7, 8, 9, 10, 11]
noncomputable def l40_0 (K : Oracle) (L : Looper) (e : E) (h : H) : Out :=
 sq (sq (bd (lnS (e.s k40 0)) fun t19 =>
 bd (binK 0 .lss (e.s k40 4) t19) fun t20 =>
 some ⟨.nm, ⟨[(e.s k40 0), (e.s k40 2), (e.s k40 3), (e.s k40 4), (e.s k40 5), (e.s k40 6), (e.s k40 7), (e.s k40 8), (e.s k40 9), (e.s k40 10), (e.s k40 11)], 20, t20⟩, h⟩) fun e h =>
 br (e.s k40 20) (some ⟨.nm, e, h⟩)
 (some ⟨.ex 0, e, h⟩)) fun e h =>
 sq (blk 1 (sq (bd (iaS 1 (e.s k40 0) (e.s k40 4)) fun t25 =>
 bd (ldn 1 h t25) fun t26 =>
 bc k40 [23, 24, 25, 26, 27, 28] e (K 37 [t26] h) fun t27 h1 =>
 bd (binK 0 .neq t27 (.int .i64 0)) fun t28 =>
 some ⟨.nm, ⟨[(e.s k40 0), (e.s k40 2), (e.s k40 3), (e.s k40 4), (e.s k40 5), (e.s k40 6), (e.s k40 7), (e.s k40 8), (e.s k40 9), (e.s k40 10), (e.s k40 11)], 28, t28⟩, h1⟩) fun e h =>
 br (e.s k40 28) (sq (bd (bl [.nils] []) fun t29 =>
 bf (stZ 1 h (e.s k40 2) t29) fun _ h1 =>
 some ⟨.nm, ⟨[(e.s k40 0), (e.s k40 2), (.int .i64 2), (e.s k40 4), (e.s k40 5), (e.s k40 6), (e.s k40 7), (e.s k40 8), (e.s k40 9), (e.s k40 10), (e.s k40 11)], 3, (.int .i64 2)⟩, h1⟩) fun e h =>
 some ⟨.rt, e, h⟩)
 (some ⟨.nm, e, h⟩))) fun e h =>
 bd (binK 0 .add (e.s k40 4) (.int .i64 1)) fun t22 =>
 some ⟨.nm, ⟨[(e.s k40 0), (e.s k40 2), (e.s k40 3), t22, (e.s k40 5), (e.s k40 6), (e.s k40 7), (e.s k40 8), (e.s k40 9), (e.s k40 10), (e.s k40 11)], 4, t22⟩, h⟩
noncomputable def l40_1 (K : Oracle) (L : Looper) (e : E) (h : H) : Out :=
 sq (sq (bd (lnS (e.s k40 0)) fun t48 =>
 bd (binK 0 .lss (e.s k40 10) t48) fun t49 =>
 some ⟨.nm, ⟨[(e.s k40 0), (e.s k40 2), (e.s k40 3), (e.s k40 4), (e.s k40 5), (e.s k40 6), (e.s k40 7), (e.s k40 8), (e.s k40 9), (e.s k40 10), (e.s k40 11)], 49, t49⟩, h⟩) fun e h =>
 br (e.s k40 49) (some ⟨.nm, e, h⟩)
 (some ⟨.ex 6, e, h⟩)) fun e h =>
 sq (blk 7 (bd (iaS 1 (e.s k40 0) (e.s k40 10)) fun t55 =>
 bd (fa 0 t55) fun t56 =>
 bd (ld h t56) fun t57 =>
 bd (iaS 1 t57 (e.s k40 6)) fun t59 =>
 bd (ld h t59) fun t60 =>
 bd (iaS 2 t60 (e.s k40 8)) fun t62 =>
 bd (ldn 2 h t62) fun t63 =>
 bf (bs h 72 1 [.nils, (.int .i64 0)] [(some (0, 2), t63)]) fun t64 h1 =>
 bf (apZ 72 2 32 h1 (e.s k40 9) t64) fun t65 h2 =>
 some ⟨.nm, ⟨[(e.s k40 0), (e.s k40 2), (e.s k40 3), (e.s k40 4), (e.s k40 5), (e.s k40 6), (e.s k40 7), (e.s k40 8), t65, (e.s k40 10), (e.s k40 11)], 9, t65⟩, h2⟩)) fun e h =>
 bd (binK 0 .add (e.s k40 10) (.int .i64 1)) fun t51 =>
 some ⟨.nm, ⟨[(e.s k40 0), (e.s k40 2), (e.s k40 3), (e.s k40 4), (e.s k40 5), (e.s k40 6), (e.s k40 7), (e.s k40 8), (e.s k40 9), t51, (e.s k40 11)], 10, t51⟩, h⟩
noncomputable def l40_2 (K : Oracle) (L : Looper) (e : E) (h : H) : Out :=
 sq (sq (bd (iaS 1 (e.s k40 0) (.int .i64 0)) fun t36 =>
 bd (fa 0 t36) fun t37 =>
 bd (ld h t37) fun t38 =>
 bd (iaS 1 t38 (e.s k40 6)) fun t40 =>
 bd (ld h t40) fun t41 =>
 bd (lnS t41) fun t42 =>
 bd (binK 0 .lss (e.s k40 8) t42) fun t43 =>
 some ⟨.nm, ⟨[(e.s k40 0), (e.s k40 2), (e.s k40 3), (e.s k40 4), (e.s k40 5), (e.s k40 6), (e.s k40 7), (e.s k40 8), (e.s k40 9), (e.s k40 10), (e.s k40 11)], 43, t43⟩, h⟩) fun e h =>
 br (e.s k40 43) (some ⟨.nm, e, h⟩)
 (some ⟨.ex 4, e, h⟩)) fun e h =>
 sq (blk 5 (sq (some ⟨.nm, ⟨[(e.s k40 0), (e.s k40 2), (e.s k40 3), (e.s k40 4), (e.s k40 5), (e.s k40 6), (e.s k40 7), (e.s k40 8), .nils, (e.s k40 10), (e.s k40 11)], 9, .nils⟩, h⟩) fun e h =>
 sq (sq (some ⟨.nm, ⟨[(e.s k40 0), (e.s k40 2), (e.s k40 3), (e.s k40 4), (e.s k40 5), (e.s k40 6), (e.s k40 7), (e.s k40 8), (e.s k40 9), (.int .i64 0), (e.s k40 11)], 10, (.int .i64 0)⟩, h⟩) fun e h =>
 blk 6 (L (l40_1 K L) e h)) fun e h =>
 sq (bc k40 [67, 68, 66, 69, 70, 11, 12] e (K 67 [(e.s k40 9)] h) fun t68 h1 =>
 bd (exV t68 0) fun t69 =>
 bd (exV t68 1) fun t70 =>
 bf (nw h1 72 [.nils, (.int .i64 0)]) fun t11 h2 =>
 bf (stZ 2 h2 t11 t69) fun _ h3 =>
 some ⟨.nm, ⟨[(e.s k40 0), (e.s k40 2), (e.s k40 3), (e.s k40 4), (e.s k40 5), (e.s k40 6), (e.s k40 7), (e.s k40 8), (e.s k40 9), (e.s k40 10), t11], 12, t70⟩, h3⟩) fun e h =>
 bd (ldn 2 h (e.s k40 11)) fun t72 =>
 bf (bs h 72 1 [.nils, (.int .i64 0)] [(some (0, 2), t72)]) fun t73 h1 =>
 bf (apZ 72 2 32 h1 (e.s k40 7) t73) fun t74 h2 =>
 some ⟨.nm, ⟨[(e.s k40 0), (e.s k40 2), (e.s k40 3), (e.s k40 4), (e.s k40 5), (e.s k40 6), t74, (e.s k40 8), (e.s k40 9), (e.s k40 10), (e.s k40 11)], 7, t74⟩, h2⟩)) fun e h =>
 bd (binK 0 .add (e.s k40 8) (.int .i64 1)) fun t45 =>
 some ⟨.nm, ⟨[(e.s k40 0), (e.s k40 2), (e.s k40 3), (e.s k40 4), (e.s k40 5), (e.s k40 6), (e.s k40 7), t45, (e.s k40 9), (e.s k40 10), (e.s k40 11)], 8, t45⟩, h⟩
noncomputable def l40_3 (K : Oracle) (L : Looper) (e : E) (h : H) : Out :=
 sq (sq (bd (binK 0 .lss (e.s k40 6) (.int .i64 32)) fun t31 =>
 some ⟨.nm, ⟨[(e.s k40 0), (e.s k40 2), (e.s k40 3), (e.s k40 4), (e.s k40 5), (e.s k40 6), (e.s k40 7), (e.s k40 8), (e.s k40 9), (e.s k40 10), (e.s k40 11)], 31, t31⟩, h⟩) fun e h =>
 br (e.s k40 31) (some ⟨.nm, e, h⟩)
 (some ⟨.ex 2, e, h⟩)) fun e h =>
 sq (blk 3 (sq (some ⟨.nm, ⟨[(e.s k40 0), (e.s k40 2), (e.s k40 3), (e.s k40 4), (e.s k40 5), (e.s k40 6), .nils, (e.s k40 8), (e.s k40 9), (e.s k40 10), (e.s k40 11)], 7, .nils⟩, h⟩) fun e h =>
 sq (sq (some ⟨.nm, ⟨[(e.s k40 0), (e.s k40 2), (e.s k40 3), (e.s k40 4), (e.s k40 5), (e.s k40 6), (e.s k40 7), (.int .i64 0), (e.s k40 9), (e.s k40 10), (e.s k40 11)], 8, (.int .i64 0)⟩, h⟩) fun e h =>
 blk 4 (L (l40_2 K L) e h)) fun e h =>
 bd (fa 0 (e.s k40 5)) fun t75 =>
 bd (ld h t75) fun t76 =>
 bf (bs h 75 1 [.nils] [(some (0, 1), (e.s k40 7))]) fun t78 h1 =>
 bf (apZ 75 1 24 h1 t76 t78) fun t79 h2 =>
 bd (fa 0 (e.s k40 5)) fun t80 =>
 bf (stZ 1 h2 t80 t79) fun _ h3 =>
 some ⟨.nm, ⟨[(e.s k40 0), (e.s k40 2), (e.s k40 3), (e.s k40 4), (e.s k40 5), (e.s k40 6), (e.s k40 7), (e.s k40 8), (e.s k40 9), (e.s k40 10), (e.s k40 11)], 0, (e.s k40 0)⟩, h3⟩)) fun e h =>
 bd (binK 0 .add (e.s k40 6) (.int .i64 1)) fun t33 =>
 some ⟨.nm, ⟨[(e.s k40 0), (e.s k40 2), (e.s k40 3), (e.s k40 4), (e.s k40 5), t33, (e.s k40 7), (e.s k40 8), (e.s k40 9), (e.s k40 10), (e.s k40 11)], 6, t33⟩, h⟩
noncomputable def s40 (K : Oracle) (L : Looper) (e : E) (h : H) : Out :=
 sq (bf (nw h 25 [.nils]) fun t2 h1 =>
 some ⟨.nm, ⟨[(e.s k40 0), t2, (.int .i64 0), (e.s k40 4), (e.s k40 5), (e.s k40 6), (e.s k40 7), (e.s k40 8), (e.s k40 9), (e.s k40 10), (e.s k40 11)], 3, (.int .i64 0)⟩, h1⟩) fun e h =>
 sq (sq (bd (lnS (e.s k40 0)) fun t14 =>
 bd (binK 0 .eql t14 (.int .i64 0)) fun t15 =>
 some ⟨.nm, ⟨[(e.s k40 0), (e.s k40 2), (e.s k40 3), (e.s k40 4), (e.s k40 5), (e.s k40 6), (e.s k40 7), (e.s k40 8), (e.s k40 9), (e.s k40 10), (e.s k40 11)], 15, t15⟩, h⟩) fun e h =>
 br (e.s k40 15) (sq (bd (bl [.nils] []) fun t16 =>
 bf (stZ 1 h (e.s k40 2) t16) fun _ h1 =>
 some ⟨.nm, ⟨[(e.s k40 0), (e.s k40 2), (.int .i64 2), (e.s k40 4), (e.s k40 5), (e.s k40 6), (e.s k40 7), (e.s k40 8), (e.s k40 9), (e.s k40 10), (e.s k40 11)], 3, (.int .i64 2)⟩, h1⟩) fun e h =>
 some ⟨.rt, e, h⟩)
 (some ⟨.nm, e, h⟩)) fun e h =>
 sq (sq (some ⟨.nm, ⟨[(e.s k40 0), (e.s k40 2), (e.s k40 3), (.int .i64 0), (e.s k40 5), (e.s k40 6), (e.s k40 7), (e.s k40 8), (e.s k40 9), (e.s k40 10), (e.s k40 11)], 4, (.int .i64 0)⟩, h⟩) fun e h =>
 blk 0 (L (l40_0 K L) e h)) fun e h =>
 sq (bf (nw h 25 [.nils]) fun t5 h1 =>
 some ⟨.nm, ⟨[(e.s k40 0), (e.s k40 2), (e.s k40 3), (e.s k40 4), t5, (e.s k40 6), (e.s k40 7), (e.s k40 8), (e.s k40 9), (e.s k40 10), (e.s k40 11)], 5, t5⟩, h1⟩) fun e h =>
 sq (sq (some ⟨.nm, ⟨[(e.s k40 0), (e.s k40 2), (e.s k40 3), (e.s k40 4), (e.s k40 5), (.int .i64 0), (e.s k40 7), (e.s k40 8), (e.s k40 9), (e.s k40 10), (e.s k40 11)], 6, (.int .i64 0)⟩, h⟩) fun e h =>
 blk 2 (L (l40_3 K L) e h)) fun e h =>
 sq (bd (ldn 1 h (e.s k40 5)) fun t81 =>
 bf (stZ 1 h (e.s k40 2) t81) fun _ h1 =>
 some ⟨.nm, ⟨[(e.s k40 0), (e.s k40 2), (.int .i64 0), (e.s k40 4), (e.s k40 5), (e.s k40 6), (e.s k40 7), (e.s k40 8), (e.s k40 9), (e.s k40 10), (e.s k40 11)], 3, (.int .i64 0)⟩, h1⟩) fun e h =>
 some ⟨.rt, e, h⟩
noncomputable def f40 (K : Oracle) (L : Looper) (p0 : V) (h : H) : Option (Rv × H) := fin Try.prog k40 [.cell 2 25, .tmp 3] (s40 K L ⟨[p0, V.und, V.und, V.und, V.und, V.und, V.und, V.und, V.und, V.und, V.und], 0, p0⟩ h)
theorem r40 : (fun K L p0 h => runFF Try.prog kp K L 40 [p0] h) = f40 := by kernel_rfl
theorem c40 (p0 : V) (h : H) : callZ Try.prog kp 40 [p0] h = f40 (callZ Try.prog kp) loopZ p0 h :=
  (callZ_eqF _ _ _ _ _).trans (congrFun (congrFun (congrFun (congrFun (r40) _) _) p0) h)

/-- (*zoetrope/zoetroperef04.Coder).Symbol -/
@[simp] def k41 : List Nat := [0, 1, 2, 3, 8, 9, 10, 11, 12, 13, 14, 15, 17, 19, 20, 22]
noncomputable def s41 (K : Oracle) (L : Looper) (e : E) (h : H) : Out :=
 sq (some ⟨.nm, ⟨[(e.s k41 0), (e.s k41 1), (e.s k41 2), (e.s k41 3), (.int .i64 0), (.int .i64 0), (e.s k41 10), (e.s k41 11), (e.s k41 12), (e.s k41 13), (e.s k41 14), (e.s k41 15), (e.s k41 17), (e.s k41 19), (e.s k41 20), (e.s k41 22)], 9, (.int .i64 0)⟩, h⟩) fun e h =>
 sq (bc k41 [25, 26, 24, 27, 28, 29, 10, 11, 12] e (K 68 [(e.s k41 1)] h) fun t26 h1 =>
 bd (exV t26 0) fun t27 =>
 bd (exV t26 1) fun t28 =>
 bd (exV t26 2) fun t29 =>
 some ⟨.nm, ⟨[(e.s k41 0), (e.s k41 1), (e.s k41 2), (e.s k41 3), (e.s k41 8), (e.s k41 9), t27, t28, t29, (e.s k41 13), (e.s k41 14), (e.s k41 15), (e.s k41 17), (e.s k41 19), (e.s k41 20), (e.s k41 22)], 12, t29⟩, h1⟩) fun e h =>
 sq (sq (bd (binK 0 .neq (e.s k41 12) (.int .i64 0)) fun t31 =>
 some ⟨.nm, ⟨[(e.s k41 0), (e.s k41 1), (e.s k41 2), (e.s k41 3), (e.s k41 8), (e.s k41 9), (e.s k41 10), (e.s k41 11), (e.s k41 12), (e.s k41 13), (e.s k41 14), (e.s k41 15), (e.s k41 17), (e.s k41 19), (e.s k41 20), (e.s k41 22)], 31, t31⟩, h⟩) fun e h =>
 br (e.s k41 31) (sq (some ⟨.nm, ⟨[(e.s k41 0), (e.s k41 1), (e.s k41 2), (e.s k41 3), (.int .i64 0), (e.s k41 12), (e.s k41 10), (e.s k41 11), (e.s k41 12), (e.s k41 13), (e.s k41 14), (e.s k41 15), (e.s k41 17), (e.s k41 19), (e.s k41 20), (e.s k41 22)], 9, (e.s k41 12)⟩, h⟩) fun e h =>
 some ⟨.rt, e, h⟩)
 (some ⟨.nm, e, h⟩)) fun e h =>
 sq (sq (bd (binK 0 .lss (e.s k41 2) (.int .i64 0)) fun t34 =>
 bd (gl t34 false (some (e.s k41 2))) fun t36 =>
 bd (gl t34 false (some (e.s k41 10))) fun t37 =>
 bd (gl t34 false (binK 0 .geq t36 t37)) fun t38 =>
 bd (pk t34 (.bool true) t38) fun t39 =>
 bd (gl t39 false (some (e.s k41 0))) fun t41 =>
 bd (gl t39 false (nilC t41)) fun t42 =>
 bd (gl t39 false (fa 0 t42)) fun t43 =>
 bd (gl t39 false (ld h t43)) fun t44 =>
 bd (gl t39 false (binK 2 .neq t44 .nilp)) fun t45 =>
 bd (gl t39 false (some t45)) fun t46 =>
 bd (gl t46 true (some (e.s k41 3))) fun t47 =>
 bd (gl t46 true (binK 0 .lss t47 (.int .i64 0))) fun t48 =>
 bd (gl t46 true (some t48)) fun t49 =>
 bd (gl t49 false (some (e.s k41 3))) fun t50 =>
 bd (gl t49 false (some (e.s k41 11))) fun t51 =>
 bd (gl t49 false (binK 0 .geq t50 t51)) fun t52 =>
 bd (gl t46 true (pk t49 (.bool true) t52)) fun t53 =>
 bd (gl t39 false (pk t46 t53 (.bool false))) fun t54 =>
 bd (pk t39 (.bool true) t54) fun t55 =>
 some ⟨.nm, ⟨[(e.s k41 0), (e.s k41 1), (e.s k41 2), (e.s k41 3), (e.s k41 8), (e.s k41 9), (e.s k41 10), (e.s k41 11), (e.s k41 12), (e.s k41 13), (e.s k41 14), (e.s k41 15), (e.s k41 17), (e.s k41 19), (e.s k41 20), (e.s k41 22)], 55, t55⟩, h⟩) fun e h =>
 br (e.s k41 55) (sq (some ⟨.nm, ⟨[(e.s k41 0), (e.s k41 1), (e.s k41 2), (e.s k41 3), (.int .i64 0), (.int .i64 2), (e.s k41 10), (e.s k41 11), (e.s k41 12), (e.s k41 13), (e.s k41 14), (e.s k41 15), (e.s k41 17), (e.s k41 19), (e.s k41 20), (e.s k41 22)], 9, (.int .i64 2)⟩, h⟩) fun e h =>
 some ⟨.rt, e, h⟩)
 (some ⟨.nm, e, h⟩)) fun e h =>
 sq (bd (nilC (e.s k41 0)) fun t57 =>
 bd (fa 2 t57) fun t58 =>
 bd (fa 0 t58) fun t59 =>
 bd (ld h t59) fun t60 =>
 bd (iaS 1 t60 (e.s k41 1)) fun t62 =>
 bd (ld h t62) fun t63 =>
 bd (iaS 2 t63 (e.s k41 2)) fun t65 =>
 bd (ldn 2 h t65) fun t66 =>
 bf (nw h 72 [.nils, (.int .i64 0)]) fun t13 h1 =>
 bf (stZ 2 h1 t13 t66) fun _ h2 =>
 some ⟨.nm, ⟨[(e.s k41 0), (e.s k41 1), (e.s k41 2), (e.s k41 3), (e.s k41 8), (e.s k41 9), (e.s k41 10), (e.s k41 11), (e.s k41 12), t13, (e.s k41 14), (e.s k41 15), (e.s k41 17), (e.s k41 19), (e.s k41 20), (e.s k41 22)], 0, (e.s k41 0)⟩, h2⟩) fun e h =>
 sq (sq (bd (nilC (e.s k41 0)) fun t68 =>
 bd (fa 0 t68) fun t69 =>
 bd (ld h t69) fun t70 =>
 bd (binK 2 .neq t70 .nilp) fun t71 =>
 some ⟨.nm, ⟨[(e.s k41 0), (e.s k41 1), (e.s k41 2), (e.s k41 3), (e.s k41 8), (e.s k41 9), (e.s k41 10), (e.s k41 11), (e.s k41 12), (e.s k41 13), (e.s k41 14), (e.s k41 15), (e.s k41 17), (e.s k41 19), (e.s k41 20), (e.s k41 22)], 71, t71⟩, h⟩) fun e h =>
 br (e.s k41 71) (sq (bd (ldn 2 h (e.s k41 13)) fun t73 =>
 bc k41 [73, 74, 75, 72, 76, 77, 78, 14, 15, 16] e (K 69 [t73, (e.s k41 3)] h) fun t75 h1 =>
 bd (exV t75 0) fun t76 =>
 bd (exV t75 1) fun t77 =>
 bd (exV t75 2) fun t78 =>
 some ⟨.nm, ⟨[(e.s k41 0), (e.s k41 1), (e.s k41 2), (e.s k41 3), (e.s k41 8), (e.s k41 9), (e.s k41 10), (e.s k41 11), (e.s k41 12), (e.s k41 13), t76, t77, (e.s k41 17), (e.s k41 19), (e.s k41 20), (e.s k41 22)], 16, t78⟩, h1⟩) fun e h =>
 bd (nilC (e.s k41 0)) fun t80 =>
 bd (fa 0 t80) fun t81 =>
 bd (ld h t81) fun t82 =>
 bc k41 [79, 80, 81, 82, 83, 84, 85] e (K 70 [t82, (e.s k41 14), (e.s k41 15)] h) fun t85 h1 =>
 some ⟨.nm, ⟨[(e.s k41 0), (e.s k41 1), (e.s k41 2), (e.s k41 3), (e.s k41 8), (e.s k41 9), (e.s k41 10), (e.s k41 11), (e.s k41 12), (e.s k41 13), (e.s k41 14), (e.s k41 15), (e.s k41 17), (e.s k41 19), (e.s k41 20), (e.s k41 22)], 85, t85⟩, h1⟩)
 (sq (bd (nilC (e.s k41 0)) fun t88 =>
 bd (fa 1 t88) fun t89 =>
 bd (ld h t89) fun t90 =>
 bc k41 [87, 88, 89, 90, 91, 86, 92, 93, 17, 18] e (K 71 [t90] h) fun t91 h1 =>
 bd (exV t91 0) fun t92 =>
 bd (exV t91 1) fun t93 =>
 some ⟨.nm, ⟨[(e.s k41 0), (e.s k41 1), (e.s k41 2), (e.s k41 3), (e.s k41 8), (e.s k41 9), (e.s k41 10), (e.s k41 11), (e.s k41 12), (e.s k41 13), (e.s k41 14), (e.s k41 15), t92, (e.s k41 19), (e.s k41 20), (e.s k41 22)], 18, t93⟩, h1⟩) fun e h =>
 sq (bd (ldn 2 h (e.s k41 13)) fun t95 =>
 bc k41 [95, 96, 97, 94, 98, 99, 3] e (K 72 [t95, (e.s k41 17)] h) fun t97 h1 =>
 bd (exV t97 0) fun t98 =>
 bd (exV t97 1) fun t99 =>
 some ⟨.nm, ⟨[(e.s k41 0), (e.s k41 1), (e.s k41 2), t98, (e.s k41 8), (e.s k41 9), (e.s k41 10), (e.s k41 11), (e.s k41 12), (e.s k41 13), (e.s k41 14), (e.s k41 15), (e.s k41 17), (e.s k41 19), (e.s k41 20), (e.s k41 22)], 3, t98⟩, h1⟩) fun e h =>
 sq (bd (ldn 2 h (e.s k41 13)) fun t101 =>
 bc k41 [101, 102, 103, 100, 104, 105, 106, 19, 20, 21] e (K 69 [t101, (e.s k41 3)] h) fun t103 h1 =>
 bd (exV t103 0) fun t104 =>
 bd (exV t103 1) fun t105 =>
 bd (exV t103 2) fun t106 =>
 some ⟨.nm, ⟨[(e.s k41 0), (e.s k41 1), (e.s k41 2), (e.s k41 3), (e.s k41 8), (e.s k41 9), (e.s k41 10), (e.s k41 11), (e.s k41 12), (e.s k41 13), (e.s k41 14), (e.s k41 15), (e.s k41 17), t104, t105, (e.s k41 22)], 21, t106⟩, h1⟩) fun e h =>
 bd (nilC (e.s k41 0)) fun t108 =>
 bd (fa 1 t108) fun t109 =>
 bd (ld h t109) fun t110 =>
 bc k41 [107, 108, 109, 110, 111, 112, 113] e (K 73 [t110, (e.s k41 19), (e.s k41 20)] h) fun t113 h1 =>
 some ⟨.nm, ⟨[(e.s k41 0), (e.s k41 1), (e.s k41 2), (e.s k41 3), (e.s k41 8), (e.s k41 9), (e.s k41 10), (e.s k41 11), (e.s k41 12), (e.s k41 13), (e.s k41 14), (e.s k41 15), (e.s k41 17), (e.s k41 19), (e.s k41 20), (e.s k41 22)], 113, t113⟩, h1⟩)) fun e h =>
 sq (sq (bd (nilC (e.s k41 0)) fun t115 =>
 bd (fa 3 t115) fun t116 =>
 bd (ld h t116) fun t117 =>
 some ⟨.nm, ⟨[(e.s k41 0), (e.s k41 1), (e.s k41 2), (e.s k41 3), (e.s k41 8), (e.s k41 9), (e.s k41 10), (e.s k41 11), (e.s k41 12), (e.s k41 13), (e.s k41 14), (e.s k41 15), (e.s k41 17), (e.s k41 19), (e.s k41 20), (e.s k41 22)], 117, t117⟩, h⟩) fun e h =>
 br (e.s k41 117) (sq (bd (ldn 2 h (e.s k41 13)) fun t119 =>
 bc k41 [119, 120, 121, 118, 122, 123, 22, 23] e (K 74 [t119, (e.s k41 3)] h) fun t121 h1 =>
 bd (exV t121 0) fun t122 =>
 bd (exV t121 1) fun t123 =>
 bf (nw h1 72 [.nils, (.int .i64 0)]) fun t22 h2 =>
 bf (stZ 2 h2 t22 t122) fun _ h3 =>
 some ⟨.nm, ⟨[(e.s k41 0), (e.s k41 1), (e.s k41 2), (e.s k41 3), (e.s k41 8), (e.s k41 9), (e.s k41 10), (e.s k41 11), (e.s k41 12), (e.s k41 13), (e.s k41 14), (e.s k41 15), (e.s k41 17), (e.s k41 19), (e.s k41 20), t22], 23, t123⟩, h3⟩) fun e h =>
 bd (nilC (e.s k41 0)) fun t125 =>
 bd (fa 2 t125) fun t126 =>
 bd (fa 0 t126) fun t127 =>
 bd (ld h t127) fun t128 =>
 bd (iaS 1 t128 (e.s k41 1)) fun t130 =>
 bd (ld h t130) fun t131 =>
 bd (ldn 2 h (e.s k41 22)) fun t133 =>
 bd (iaS 2 t131 (e.s k41 2)) fun t134 =>
 bf (stZ 2 h t134 t133) fun _ h1 =>
 ck (ld h t127) t128 (ck (ld h t130) t131 (ck (ldn 2 h (e.s k41 22)) t133 (some ⟨.nm, ⟨[(e.s k41 0), (e.s k41 1), (e.s k41 2), (e.s k41 3), (e.s k41 8), (e.s k41 9), (e.s k41 10), (e.s k41 11), (e.s k41 12), (e.s k41 13), (e.s k41 14), (e.s k41 15), (e.s k41 17), (e.s k41 19), (e.s k41 20), (e.s k41 22)], 0, (e.s k41 0)⟩, h1⟩))))
 (some ⟨.nm, e, h⟩)) fun e h =>
 sq (bd (nilC (e.s k41 0)) fun t137 =>
 bd (fa 4 t137) fun t138 =>
 bd (ld h t138) fun t139 =>
 bd (binK 0 .add t139 (.int .i64 1)) fun t140 =>
 bd (nilC (e.s k41 0)) fun t141 =>
 bd (fa 4 t141) fun t142 =>
 bf (stZ 1 h t142 t140) fun _ h1 =>
 some ⟨.nm, ⟨[(e.s k41 0), (e.s k41 1), (e.s k41 2), (e.s k41 3), (e.s k41 8), (e.s k41 9), (e.s k41 10), (e.s k41 11), (e.s k41 12), (e.s k41 13), (e.s k41 14), (e.s k41 15), (e.s k41 17), (e.s k41 19), (e.s k41 20), (e.s k41 22)], 0, (e.s k41 0)⟩, h1⟩) fun e h =>
 sq (some ⟨.nm, ⟨[(e.s k41 0), (e.s k41 1), (e.s k41 2), (e.s k41 3), (e.s k41 3), (.int .i64 0), (e.s k41 10), (e.s k41 11), (e.s k41 12), (e.s k41 13), (e.s k41 14), (e.s k41 15), (e.s k41 17), (e.s k41 19), (e.s k41 20), (e.s k41 22)], 9, (.int .i64 0)⟩, h⟩) fun e h =>
 some ⟨.rt, e, h⟩
noncomputable def f41 (K : Oracle) (L : Looper) (p0 p1 p2 p3 : V) (h : H) : Option (Rv × H) := fin Try.prog k41 [.tmp 8, .tmp 9] (s41 K L ⟨[p0, p1, p2, p3, V.und, V.und, V.und, V.und, V.und, V.und, V.und, V.und, V.und, V.und, V.und, V.und], 0, p0⟩ h)
theorem r41 : (fun K L p0 p1 p2 p3 h => runFF Try.prog kp K L 41 [p0, p1, p2, p3] h) = f41 := by kernel_rfl
theorem c41 (p0 p1 p2 p3 : V) (h : H) : callZ Try.prog kp 41 [p0, p1, p2, p3] h = f41 (callZ Try.prog kp) loopZ p0 p1 p2 p3 h :=
  (callZ_eqF _ _ _ _ _).trans (congrFun (congrFun (congrFun (congrFun (congrFun (congrFun (congrFun (r41) _) _) p0) p1) p2) p3) h)

/-- zoetrope/rac.New -/
@[simp] def k42 : List Nat := [0]
noncomputable def s42 (K : Oracle) (L : Looper) (e : E) (h : H) : Out :=
 sq (some ⟨.nm, ⟨[.nilp], 0, .nilp⟩, h⟩) fun e h =>
 sq (bd (bl [.nils, (.int .u64 0), (.int .u32 0)] [(some (2, 1), (.int .u32 4294967295))]) fun t1 =>
 bf (bx h 119 t1) fun t2 h1 =>
 some ⟨.nm, ⟨[t2], 0, t2⟩, h1⟩) fun e h =>
 some ⟨.rt, e, h⟩
noncomputable def f42 (K : Oracle) (L : Looper) (h : H) : Option (Rv × H) := fin Try.prog k42 [.tmp 0] (s42 K L ⟨[V.und], 0, V.und⟩ h)
theorem r42 : (fun K L h => runFF Try.prog kp K L 42 [] h) = f42 := by kernel_rfl
theorem c42 (h : H) : callZ Try.prog kp 42 [] h = f42 (callZ Try.prog kp) loopZ h :=
  (callZ_eqF _ _ _ _ _).trans (congrFun (congrFun (congrFun (r42) _) _) h)

/-- zoetrope/zoetroperef02.New -/
@[simp] def k43 : List Nat := [0]
noncomputable def s43 (K : Oracle) (L : Looper) (e : E) (h : H) : Out :=
 sq (some ⟨.nm, ⟨[.nilp], 0, .nilp⟩, h⟩) fun e h =>
 sq (bd (bl [.nils, (.int .u64 0), (.int .u64 0)] [(some (2, 1), (.int .u64 4294967295))]) fun t1 =>
 bf (bx h 121 t1) fun t2 h1 =>
 some ⟨.nm, ⟨[t2], 0, t2⟩, h1⟩) fun e h =>
 some ⟨.rt, e, h⟩
noncomputable def f43 (K : Oracle) (L : Looper) (h : H) : Option (Rv × H) := fin Try.prog k43 [.tmp 0] (s43 K L ⟨[V.und], 0, V.und⟩ h)
theorem r43 : (fun K L h => runFF Try.prog kp K L 43 [] h) = f43 := by kernel_rfl
theorem c43 (h : H) : callZ Try.prog kp 43 [] h = f43 (callZ Try.prog kp) loopZ h :=
  (callZ_eqF _ _ _ _ _).trans (congrFun (congrFun (congrFun (r43) _) _) h)

/-- (*zoetrope/syms.Coder).none -/
@[simp] def k44 : List Nat := [0, 2]
noncomputable def s44 (K : Oracle) (L : Looper) (e : E) (h : H) : Out :=
 sq (some ⟨.nm, ⟨[(e.s k44 0), (.bool false)], 2, (.bool false)⟩, h⟩) fun e h =>
 sq (bd (binK 2 .eql (e.s k44 0) .nilp) fun t4 =>
 bd (gl t4 false (some (e.s k44 0))) fun t6 =>
 bd (gl t4 false (nilC t6)) fun t7 =>
 bd (gl t4 false (fa 0 t7)) fun t8 =>
 bd (gl t4 false (ld h t8)) fun t9 =>
 bd (gl t4 false (binK 2 .eql t9 .nilp)) fun t10 =>
 bd (gl t4 false (some t10)) fun t11 =>
 bd (gl t11 true (some (e.s k44 0))) fun t12 =>
 bd (gl t11 true (nilC t12)) fun t13 =>
 bd (gl t11 true (fa 1 t13)) fun t14 =>
 bd (gl t11 true (ld h t14)) fun t15 =>
 bd (gl t11 true (binK 2 .eql t15 .nilp)) fun t16 =>
 bd (gl t4 false (pk t11 t16 (.bool false))) fun t17 =>
 bd (pk t4 (.bool true) t17) fun t18 =>
 some ⟨.nm, ⟨[(e.s k44 0), t18], 2, t18⟩, h⟩) fun e h =>
 some ⟨.rt, e, h⟩
noncomputable def f44 (K : Oracle) (L : Looper) (p0 : V) (h : H) : Option (Rv × H) := fin Try.prog k44 [.tmp 2] (s44 K L ⟨[p0, V.und], 0, p0⟩ h)
theorem r44 : (fun K L p0 h => runFF Try.prog kp K L 44 [p0] h) = f44 := by kernel_rfl
theorem c44 (p0 : V) (h : H) : callZ Try.prog kp 44 [p0] h = f44 (callZ Try.prog kp) loopZ p0 h :=
  (callZ_eqF _ _ _ _ _).trans (congrFun (congrFun (congrFun (congrFun (r44) _) _) p0) h)

/-- (*zoetrope/zoetroperef04.Coder).Bits -/
@[simp] def k45 : List Nat := [0, 1, 2, 6, 7, 8, 9, 10, 11]
noncomputable def l45_0 (K : Oracle) (L : Looper) (e : E) (h : H) : Out :=
 sq (sq (bd (binK 0 .geq (e.s k45 9) (.int .i64 0)) fun t39 =>
 some ⟨.nm, ⟨[(e.s k45 0), (e.s k45 1), (e.s k45 2), (e.s k45 6), (e.s k45 7), (e.s k45 8), (e.s k45 9), (e.s k45 10), (e.s k45 11)], 39, t39⟩, h⟩) fun e h =>
 br (e.s k45 39) (some ⟨.nm, e, h⟩)
 (some ⟨.ex 0, e, h⟩)) fun e h =>
 sq (blk 1 (sq (some ⟨.nm, ⟨[(e.s k45 0), (e.s k45 1), (e.s k45 2), (e.s k45 6), (e.s k45 7), (e.s k45 8), (e.s k45 9), (.int .i64 0), (e.s k45 11)], 10, (.int .i64 0)⟩, h⟩) fun e h =>
 sq (sq (bd (nilC (e.s k45 0)) fun t43 =>
 bd (fa 0 t43) fun t44 =>
 bd (ld h t44) fun t45 =>
 bd (binK 2 .neq t45 .nilp) fun t46 =>
 some ⟨.nm, ⟨[(e.s k45 0), (e.s k45 1), (e.s k45 2), (e.s k45 6), (e.s k45 7), (e.s k45 8), (e.s k45 9), (e.s k45 10), (e.s k45 11)], 46, t46⟩, h⟩) fun e h =>
 br (e.s k45 46) (sq (bd (binK 0 .shr (e.s k45 2) (e.s k45 9)) fun t49 =>
 bd (binK 0 .rem t49 (.int .i64 2)) fun t50 =>
 some ⟨.nm, ⟨[(e.s k45 0), (e.s k45 1), (e.s k45 2), (e.s k45 6), (e.s k45 7), (e.s k45 8), (e.s k45 9), t50, (e.s k45 11)], 10, t50⟩, h⟩) fun e h =>
 bd (nilC (e.s k45 0)) fun t52 =>
 bd (fa 0 t52) fun t53 =>
 bd (ld h t53) fun t54 =>
 bd (cv .u32 (e.s k45 10)) fun t56 =>
 bd (binK 0 .mul t56 (.int .u32 16384)) fun t57 =>
 bd (binK 0 .add (e.s k45 10) (.int .i64 1)) fun t59 =>
 bd (cv .u32 t59) fun t60 =>
 bd (binK 0 .mul t60 (.int .u32 16384)) fun t61 =>
 bc k45 [51, 52, 53, 54, 55, 56, 57, 58, 59, 60, 61, 62] e (K 70 [t54, t57, t61] h) fun t62 h1 =>
 some ⟨.nm, ⟨[(e.s k45 0), (e.s k45 1), (e.s k45 2), (e.s k45 6), (e.s k45 7), (e.s k45 8), (e.s k45 9), (e.s k45 10), (e.s k45 11)], 62, t62⟩, h1⟩)
 (sq (bd (nilC (e.s k45 0)) fun t65 =>
 bd (fa 1 t65) fun t66 =>
 bd (ld h t66) fun t67 =>
 bc k45 [64, 65, 66, 67, 68, 63, 69, 70, 11, 12] e (K 71 [t67] h) fun t68 h1 =>
 bd (exV t68 0) fun t69 =>
 bd (exV t68 1) fun t70 =>
 some ⟨.nm, ⟨[(e.s k45 0), (e.s k45 1), (e.s k45 2), (e.s k45 6), (e.s k45 7), (e.s k45 8), (e.s k45 9), (e.s k45 10), t69], 12, t70⟩, h1⟩) fun e h =>
 sq (bd (binK 0 .quo (e.s k45 11) (.int .u32 16384)) fun t72 =>
 bd (cv .i64 t72) fun t73 =>
 some ⟨.nm, ⟨[(e.s k45 0), (e.s k45 1), (e.s k45 2), (e.s k45 6), (e.s k45 7), (e.s k45 8), (e.s k45 9), t73, (e.s k45 11)], 10, t73⟩, h⟩) fun e h =>
 bd (nilC (e.s k45 0)) fun t75 =>
 bd (fa 1 t75) fun t76 =>
 bd (ld h t76) fun t77 =>
 bd (cv .u32 (e.s k45 10)) fun t79 =>
 bd (binK 0 .mul t79 (.int .u32 16384)) fun t80 =>
 bd (binK 0 .add (e.s k45 10) (.int .i64 1)) fun t82 =>
 bd (cv .u32 t82) fun t83 =>
 bd (binK 0 .mul t83 (.int .u32 16384)) fun t84 =>
 bc k45 [74, 75, 76, 77, 78, 79, 80, 81, 82, 83, 84, 85] e (K 73 [t77, t80, t84] h) fun t85 h1 =>
 some ⟨.nm, ⟨[(e.s k45 0), (e.s k45 1), (e.s k45 2), (e.s k45 6), (e.s k45 7), (e.s k45 8), (e.s k45 9), (e.s k45 10), (e.s k45 11)], 85, t85⟩, h1⟩)) fun e h =>
 bd (binK 0 .mul (e.s k45 8) (.int .i64 2)) fun t87 =>
 bd (binK 0 .add t87 (e.s k45 10)) fun t89 =>
 some ⟨.nm, ⟨[(e.s k45 0), (e.s k45 1), (e.s k45 2), (e.s k45 6), (e.s k45 7), t89, (e.s k45 9), (e.s k45 10), (e.s k45 11)], 8, t89⟩, h⟩)) fun e h =>
 bd (binK 0 .sub (e.s k45 9) (.int .i64 1)) fun t41 =>
 some ⟨.nm, ⟨[(e.s k45 0), (e.s k45 1), (e.s k45 2), (e.s k45 6), (e.s k45 7), (e.s k45 8), t41, (e.s k45 10), (e.s k45 11)], 9, t41⟩, h⟩
noncomputable def s45 (K : Oracle) (L : Looper) (e : E) (h : H) : Out :=
 sq (some ⟨.nm, ⟨[(e.s k45 0), (e.s k45 1), (e.s k45 2), (.int .i64 0), (.int .i64 0), (e.s k45 8), (e.s k45 9), (e.s k45 10), (e.s k45 11)], 7, (.int .i64 0)⟩, h⟩) fun e h =>
 sq (sq (bd (binK 0 .lss (e.s k45 1) (.int .i64 0)) fun t14 =>
 bd (gl t14 false (some (e.s k45 1))) fun t16 =>
 bd (gl t14 false (binK 0 .gtr t16 (.int .i64 30))) fun t17 =>
 bd (pk t14 (.bool true) t17) fun t18 =>
 bd (gl t18 false (some (e.s k45 0))) fun t20 =>
 bd (gl t18 false (nilC t20)) fun t21 =>
 bd (gl t18 false (fa 0 t21)) fun t22 =>
 bd (gl t18 false (ld h t22)) fun t23 =>
 bd (gl t18 false (binK 2 .neq t23 .nilp)) fun t24 =>
 bd (gl t18 false (some t24)) fun t25 =>
 bd (gl t25 true (some (e.s k45 2))) fun t26 =>
 bd (gl t25 true (binK 0 .lss t26 (.int .i64 0))) fun t27 =>
 bd (gl t25 true (some t27)) fun t28 =>
 bd (gl t28 false (some (e.s k45 2))) fun t29 =>
 bd (gl t28 false (some (e.s k45 1))) fun t30 =>
 bd (gl t28 false (binK 0 .shl (.int .i64 1) t30)) fun t31 =>
 bd (gl t28 false (binK 0 .geq t29 t31)) fun t32 =>
 bd (gl t25 true (pk t28 (.bool true) t32)) fun t33 =>
 bd (gl t18 false (pk t25 t33 (.bool false))) fun t34 =>
 bd (pk t18 (.bool true) t34) fun t35 =>
 some ⟨.nm, ⟨[(e.s k45 0), (e.s k45 1), (e.s k45 2), (e.s k45 6), (e.s k45 7), (e.s k45 8), (e.s k45 9), (e.s k45 10), (e.s k45 11)], 35, t35⟩, h⟩) fun e h =>
 br (e.s k45 35) (sq (some ⟨.nm, ⟨[(e.s k45 0), (e.s k45 1), (e.s k45 2), (.int .i64 0), (.int .i64 2), (e.s k45 8), (e.s k45 9), (e.s k45 10), (e.s k45 11)], 7, (.int .i64 2)⟩, h⟩) fun e h =>
 some ⟨.rt, e, h⟩)
 (some ⟨.nm, e, h⟩)) fun e h =>
 sq (some ⟨.nm, ⟨[(e.s k45 0), (e.s k45 1), (e.s k45 2), (e.s k45 6), (e.s k45 7), (.int .i64 0), (e.s k45 9), (e.s k45 10), (e.s k45 11)], 8, (.int .i64 0)⟩, h⟩) fun e h =>
 sq (sq (bd (binK 0 .sub (e.s k45 1) (.int .i64 1)) fun t37 =>
 some ⟨.nm, ⟨[(e.s k45 0), (e.s k45 1), (e.s k45 2), (e.s k45 6), (e.s k45 7), (e.s k45 8), t37, (e.s k45 10), (e.s k45 11)], 9, t37⟩, h⟩) fun e h =>
 blk 0 (L (l45_0 K L) e h)) fun e h =>
 sq (bd (nilC (e.s k45 0)) fun t92 =>
 bd (fa 4 t92) fun t93 =>
 bd (ld h t93) fun t94 =>
 bd (binK 0 .add t94 (e.s k45 1)) fun t96 =>
 bd (nilC (e.s k45 0)) fun t97 =>
 bd (fa 4 t97) fun t98 =>
 bf (stZ 1 h t98 t96) fun _ h1 =>
 some ⟨.nm, ⟨[(e.s k45 0), (e.s k45 1), (e.s k45 2), (e.s k45 6), (e.s k45 7), (e.s k45 8), (e.s k45 9), (e.s k45 10), (e.s k45 11)], 0, (e.s k45 0)⟩, h1⟩) fun e h =>
 sq (some ⟨.nm, ⟨[(e.s k45 0), (e.s k45 1), (e.s k45 2), (e.s k45 8), (.int .i64 0), (e.s k45 8), (e.s k45 9), (e.s k45 10), (e.s k45 11)], 7, (.int .i64 0)⟩, h⟩) fun e h =>
 some ⟨.rt, e, h⟩
noncomputable def f45 (K : Oracle) (L : Looper) (p0 p1 p2 : V) (h : H) : Option (Rv × H) := fin Try.prog k45 [.tmp 6, .tmp 7] (s45 K L ⟨[p0, p1, p2, V.und, V.und, V.und, V.und, V.und, V.und], 0, p0⟩ h)
theorem r45 : (fun K L p0 p1 p2 h => runFF Try.prog kp K L 45 [p0, p1, p2] h) = f45 := by kernel_rfl
theorem c45 (p0 p1 p2 : V) (h : H) : callZ Try.prog kp 45 [p0, p1, p2] h = f45 (callZ Try.prog kp) loopZ p0 p1 p2 h :=
  (callZ_eqF _ _ _ _ _).trans (congrFun (congrFun (congrFun (congrFun (congrFun (congrFun (r45) _) _) p0) p1) p2) h)

/-- (*zoetrope/rac.Encoder).Bytes -/
@[simp] def k46 : List Nat := [0, 2, 3, 4, 24]
noncomputable def l46_0 (K : Oracle) (L : Looper) (e : E) (h : H) : Out :=
 sq (bd (binK 0 .lss (e.s k46 24) (.int .i64 4)) fun t25 =>
 some ⟨.nm, ⟨[(e.s k46 0), (e.s k46 2), (e.s k46 3), (e.s k46 4), (e.s k46 24)], 25, t25⟩, h⟩) fun e h =>
 sq (br (e.s k46 25) (some ⟨.nm, e, h⟩)
 (some ⟨.ex 0, e, h⟩)) fun e h =>
 sq (blk 1 (bc k46 [26] e (K 76 [(e.s k46 3)] h) fun t26 h1 =>
 some ⟨.nm, ⟨[(e.s k46 0), (e.s k46 2), (e.s k46 3), (e.s k46 4), (e.s k46 24)], 26, t26⟩, h1⟩)) fun e h =>
 bd (binK 0 .add (e.s k46 24) (.int .i64 1)) fun t27 =>
 some ⟨.nm, ⟨[(e.s k46 0), (e.s k46 2), (e.s k46 3), (e.s k46 4), t27], 24, t27⟩, h⟩
noncomputable def l46_1 (K : Oracle) (L : Looper) (e : E) (h : H) : Out :=
 sq (sq (bd (binK 0 .gtr (e.s k46 4) (.int .i64 0)) fun t32 =>
 bd (gl t32 true (fa 0 (e.s k46 3))) fun t34 =>
 bd (gl t32 true (ld h t34)) fun t35 =>
 bd (gl t32 true (some (e.s k46 4))) fun t36 =>
 bd (gl t32 true (binK 0 .sub t36 (.int .i64 1))) fun t37 =>
 bd (gl t32 true (iaS 1 t35 t37)) fun t38 =>
 bd (gl t32 true (ld h t38)) fun t39 =>
 bd (gl t32 true (binK 0 .eql t39 (.int .u8 0))) fun t40 =>
 bd (pk t32 t40 (.bool false)) fun t41 =>
 some ⟨.nm, ⟨[(e.s k46 0), (e.s k46 2), (e.s k46 3), (e.s k46 4), (e.s k46 24)], 41, t41⟩, h⟩) fun e h =>
 br (e.s k46 41) (some ⟨.nm, e, h⟩)
 (some ⟨.ex 2, e, h⟩)) fun e h =>
 blk 3 (bd (binK 0 .sub (e.s k46 4) (.int .i64 1)) fun t43 =>
 some ⟨.nm, ⟨[(e.s k46 0), (e.s k46 2), (e.s k46 3), t43, (e.s k46 24)], 4, t43⟩, h⟩)
noncomputable def s46 (K : Oracle) (L : Looper) (e : E) (h : H) : Out :=
 sq (some ⟨.nm, ⟨[(e.s k46 0), .nils, (e.s k46 3), (e.s k46 4), (e.s k46 24)], 2, .nils⟩, h⟩) fun e h =>
 sq (sq (bd (binK 2 .eql (e.s k46 0) .nilp) fun t6 =>
 bd (gl t6 false (some (e.s k46 0))) fun t8 =>
 bd (gl t6 false (nilC t8)) fun t9 =>
 bd (gl t6 false (fa 2 t9)) fun t10 =>
 bd (gl t6 false (ld h t10)) fun t11 =>
 bd (gl t6 false (binK 0 .eql t11 (.int .u32 0))) fun t12 =>
 bd (pk t6 (.bool true) t12) fun t13 =>
 some ⟨.nm, ⟨[(e.s k46 0), (e.s k46 2), (e.s k46 3), (e.s k46 4), (e.s k46 24)], 13, t13⟩, h⟩) fun e h =>
 br (e.s k46 13) (sq (some ⟨.nm, ⟨[(e.s k46 0), .nils, (e.s k46 3), (e.s k46 4), (e.s k46 24)], 2, .nils⟩, h⟩) fun e h =>
 some ⟨.rt, e, h⟩)
 (some ⟨.nm, e, h⟩)) fun e h =>
 sq (bd (nilC (e.s k46 0)) fun t15 =>
 bd (fa 0 t15) fun t16 =>
 bd (ld h t16) fun t17 =>
 bn (K 75 [t17] h) fun t18 h1 =>
 bd (nilC (e.s k46 0)) fun t20 =>
 bd (fa 1 t20) fun t21 =>
 bd (ld h1 t21) fun t22 =>
 bd (bl [.nils, (.int .u64 0), (.int .u32 0)] [(some (0, 1), t18), (some (1, 1), t22)]) fun t23 =>
 bf (nw h1 119 [.nils, (.int .u64 0), (.int .u32 0)]) fun t3 h2 =>
 bf (stZ 3 h2 t3 t23) fun _ h3 =>
 ck (ld h t16) t17 (ck (ld h t21) t22 (ck (ld h1 t21) t22 (some ⟨.nm, ⟨[(e.s k46 0), (e.s k46 2), t3, (e.s k46 4), (e.s k46 24)], 0, (e.s k46 0)⟩, h3⟩)))) fun e h =>
 sq (sq (some ⟨.nm, ⟨[(e.s k46 0), (e.s k46 2), (e.s k46 3), (e.s k46 4), (.int .i64 0)], 24, (.int .i64 0)⟩, h⟩) fun e h =>
 blk 0 (L (l46_0 K L) e h)) fun e h =>
 sq (bd (fa 0 (e.s k46 3)) fun t28 =>
 bd (ld h t28) fun t29 =>
 bd (lnS t29) fun t30 =>
 some ⟨.nm, ⟨[(e.s k46 0), (e.s k46 2), (e.s k46 3), t30, (e.s k46 24)], 4, t30⟩, h⟩) fun e h =>
 sq (blk 2 (L (l46_1 K L) e h)) fun e h =>
 sq (bd (fa 0 (e.s k46 3)) fun t44 =>
 bd (ld h t44) fun t45 =>
 bd (slS 1 t45 none (some (e.s k46 4)) (some (e.s k46 4))) fun t48 =>
 some ⟨.nm, ⟨[(e.s k46 0), t48, (e.s k46 3), (e.s k46 4), (e.s k46 24)], 2, t48⟩, h⟩) fun e h =>
 some ⟨.rt, e, h⟩
noncomputable def f46 (K : Oracle) (L : Looper) (p0 : V) (h : H) : Option (Rv × H) := fin Try.prog k46 [.tmp 2] (s46 K L ⟨[p0, V.und, V.und, V.und, V.und], 0, p0⟩ h)
theorem r46 : (fun K L p0 h => runFF Try.prog kp K L 46 [p0] h) = f46 := by kernel_rfl
theorem c46 (p0 : V) (h : H) : callZ Try.prog kp 46 [p0] h = f46 (callZ Try.prog kp) loopZ p0 h :=
  (callZ_eqF _ _ _ _ _).trans (congrFun (congrFun (congrFun (congrFun (r46) _) _) p0) h)


end Go.Proofs.Ytfjghgjkpenanaa
