/- The functions of the cut, printed by a program of ours: each is shown to be the interpreter's run. -/
import Derived.Test.YtbajipmhnoakeaaKp
set_option linter.unusedVariables false
set_option linter.unusedSimpArgs false
namespace Go.Proofs.Ytbajipmhnoakeaa
open Go Go.Zf
/-- gosem.cut.init -/
@[simp] def k2 : List Nat := []
@[simp] noncomputable def ux2 (e : E) (t : Nat) (v : V) : E := ⟨[], t, v⟩
noncomputable def s2 (K : Oracle) (L : Looper) (e : E) (h : H) : Out :=
 bc k2 [0] e (K 1 [] h) fun t0 h1 =>
 some ⟨.nm, ⟨[], 0, t0⟩, h1⟩
noncomputable def f2 (K : Oracle) (L : Looper) (h : H) : Option (Rv × H) := fin Try.prog k2 [] (s2 K L ⟨[], 0, V.und⟩ h)
theorem r2 : (fun K L h => runFF Try.prog kp K L 2 [] h) = f2 := by kernel_rfl

/-- zoetrope/zoetropelaw11.CoefsBack -/
@[simp] def k3 : List Nat := [0, 1, 4, 5, 6, 7, 8, 9, 10, 11, 13, 14, 15, 16, 17, 18]
@[simp] noncomputable def ux3 (e : E) (t : Nat) (v : V) : E := ⟨[(e.s k3 0), (e.s k3 1), (e.s k3 4), (e.s k3 5), (e.s k3 6), (e.s k3 7), (e.s k3 8), (e.s k3 9), (e.s k3 10), (e.s k3 11), (e.s k3 13), (e.s k3 14), (e.s k3 15), (e.s k3 16), (e.s k3 17), (e.s k3 18)], t, v⟩
noncomputable def l3_0 (K : Oracle) (L : Looper) (e : E) (h : H) : Out :=
 sq (sq (bd (lnS (e.s k3 0)) fun t36 =>
 bd (binK 0 .lss (e.s k3 7) t36) fun t37 =>
 some ⟨.nm, ux3 e 37 t37, h⟩) fun e h =>
 br (e.s k3 37) (some ⟨.nm, e, h⟩)
 (some ⟨.ex 0, e, h⟩)) fun e h =>
 sq (blk 1 (sq (bd (iaS 4 (e.s k3 0) (e.s k3 7)) fun t42 =>
 bd (ldn 4 h t42) fun t43 =>
 bc k3 [40, 41, 42, 43, 44, 8] e (K 9 [t43] h) fun t44 h1 =>
 bf (nw h1 34 [(.int .i64 0), (.int .i64 0), (.int .i64 0), .nils]) fun t8 h2 =>
 bf (stZ 4 h2 t8 t44) fun _ h3 =>
 some ⟨.nm, (ux3 e 0 (e.s k3 0)).st 6 t8, h3⟩) fun e h =>
 sq (bd (fa 0 (e.s k3 8)) fun t47 =>
 bd (ld h t47) fun t48 =>
 bd (fa 1 (e.s k3 8)) fun t49 =>
 bd (ld h t49) fun t50 =>
 bd (fa 2 (e.s k3 8)) fun t51 =>
 bd (ld h t51) fun t52 =>
 bd (fa 3 (e.s k3 8)) fun t53 =>
 bd (ld h t53) fun t54 =>
 bc k3 [46, 47, 48, 49, 50, 51, 52, 53, 54, 55, 45, 56, 57, 9, 10] e (K 10 [(e.s k3 5), t48, t50, t52, t54] h) fun t55 h1 =>
 bd (exV t55 0) fun t56 =>
 bd (exV t55 1) fun t57 =>
 some ⟨.nm, ((ux3 e 10 t57).st 7 t56).st 8 t57, h1⟩) fun e h =>
 sq (bd (binK 0 .neq (e.s k3 10) (.int .i64 0)) fun t59 =>
 bd (gl t59 false (some (e.s k3 9))) fun t61 =>
 bd (gl t59 false (fa 3 (e.s k3 8))) fun t62 =>
 bd (gl t59 false (ld h t62)) fun t63 =>
 bc k3 [58, 59, 60, 61, 62, 63, 64, 65, 66] e (gk t59 false h (K 11 [t61, t63] h)) fun t64 h1 =>
 bd (gl t59 false (unV .not t64)) fun t65 =>
 bd (pk t59 (.bool true) t65) fun t66 =>
 some ⟨.nm, ux3 e 66 t66, h1⟩) fun e h =>
 br (e.s k3 66) (sq (some ⟨.nm, (ux3 e 4 (.bool false)).st 2 (.bool false), h⟩) fun e h =>
 some ⟨.rt, e, h⟩)
 (some ⟨.nm, e, h⟩))) fun e h =>
 bd (binK 0 .add (e.s k3 7) (.int .i64 1)) fun t39 =>
 some ⟨.nm, (ux3 e 7 t39).st 5 t39, h⟩
noncomputable def l3_1 (K : Oracle) (L : Looper) (e : E) (h : H) : Out :=
 sq (sq (bd (lnS (e.s k3 0)) fun t83 =>
 bd (binK 0 .lss (e.s k3 15) t83) fun t84 =>
 some ⟨.nm, ux3 e 84 t84, h⟩) fun e h =>
 br (e.s k3 84) (some ⟨.nm, e, h⟩)
 (some ⟨.ex 2, e, h⟩)) fun e h =>
 sq (blk 3 (sq (bd (iaS 4 (e.s k3 0) (e.s k3 15)) fun t89 =>
 bd (ldn 4 h t89) fun t90 =>
 bc k3 [87, 88, 89, 90, 91, 16] e (K 9 [t90] h) fun t91 h1 =>
 bf (nw h1 34 [(.int .i64 0), (.int .i64 0), (.int .i64 0), .nils]) fun t16 h2 =>
 bf (stZ 4 h2 t16 t91) fun _ h3 =>
 some ⟨.nm, (ux3 e 0 (e.s k3 0)).st 13 t16, h3⟩) fun e h =>
 sq (bd (fa 0 (e.s k3 16)) fun t94 =>
 bd (ld h t94) fun t95 =>
 bd (fa 1 (e.s k3 16)) fun t96 =>
 bd (ld h t96) fun t97 =>
 bd (fa 2 (e.s k3 16)) fun t98 =>
 bd (ld h t98) fun t99 =>
 bc k3 [93, 94, 95, 96, 97, 98, 99, 100, 92, 101, 102, 17, 18] e (K 10 [(e.s k3 13), t95, t97, t99, .nils] h) fun t100 h1 =>
 bd (exV t100 0) fun t101 =>
 bd (exV t100 1) fun t102 =>
 some ⟨.nm, ((ux3 e 18 t102).st 14 t101).st 15 t102, h1⟩) fun e h =>
 sq (bd (binK 0 .neq (e.s k3 18) (.int .i64 0)) fun t104 =>
 bd (gl t104 false (some (e.s k3 17))) fun t106 =>
 bd (gl t104 false (fa 3 (e.s k3 16))) fun t107 =>
 bd (gl t104 false (ld h t107)) fun t108 =>
 bc k3 [103, 104, 105, 106, 107, 108, 109, 110, 111] e (gk t104 false h (K 11 [t106, t108] h)) fun t109 h1 =>
 bd (gl t104 false (unV .not t109)) fun t110 =>
 bd (pk t104 (.bool true) t110) fun t111 =>
 some ⟨.nm, ux3 e 111 t111, h1⟩) fun e h =>
 br (e.s k3 111) (sq (some ⟨.nm, (ux3 e 4 (.bool false)).st 2 (.bool false), h⟩) fun e h =>
 some ⟨.rt, e, h⟩)
 (some ⟨.nm, e, h⟩))) fun e h =>
 bd (binK 0 .add (e.s k3 15) (.int .i64 1)) fun t86 =>
 some ⟨.nm, (ux3 e 15 t86).st 12 t86, h⟩
noncomputable def s3 (K : Oracle) (L : Looper) (e : E) (h : H) : Out :=
 sq (some ⟨.nm, (ux3 e 4 (.bool false)).st 2 (.bool false), h⟩) fun e h =>
 sq (sq (bc k3 [19, 20] e (K 6 [] h) fun t19 h1 =>
 bd (unV .not t19) fun t20 =>
 some ⟨.nm, ux3 e 20 t20, h1⟩) fun e h =>
 br (e.s k3 20) (sq (some ⟨.nm, (ux3 e 4 (.bool false)).st 2 (.bool false), h⟩) fun e h =>
 some ⟨.rt, e, h⟩)
 (some ⟨.nm, e, h⟩)) fun e h =>
 sq (sq (bd (lnS (e.s k3 0)) fun t22 =>
 bd (binK 0 .gtr t22 (.int .i64 6)) fun t23 =>
 some ⟨.nm, ux3 e 23 t23, h⟩) fun e h =>
 br (e.s k3 23) (bd (slS 4 (e.s k3 0) none (some (.int .i64 6)) none) fun t25 =>
 some ⟨.nm, (ux3 e 0 t25).st 0 t25, h⟩)
 (some ⟨.nm, e, h⟩)) fun e h =>
 sq (bc k3 [27, 28, 29, 26, 30, 31, 5, 6] e (K 8 [] h) fun t27 h1 =>
 bc k3 [27, 28, 29, 26, 30, 31, 5, 6] e (K 7 [t27, (e.s k3 1)] h1) fun t29 h2 =>
 bd (exV t29 0) fun t30 =>
 bd (exV t29 1) fun t31 =>
 some ⟨.nm, ((ux3 e 6 t31).st 3 t30).st 4 t31, h2⟩) fun e h =>
 sq (sq (bd (binK 0 .neq (e.s k3 6) (.int .i64 0)) fun t33 =>
 some ⟨.nm, ux3 e 33 t33, h⟩) fun e h =>
 br (e.s k3 33) (sq (some ⟨.nm, (ux3 e 4 (.bool false)).st 2 (.bool false), h⟩) fun e h =>
 some ⟨.rt, e, h⟩)
 (some ⟨.nm, e, h⟩)) fun e h =>
 sq (sq (some ⟨.nm, (ux3 e 7 (.int .i64 0)).st 5 (.int .i64 0), h⟩) fun e h =>
 blk 0 (L (l3_0 K L) e h)) fun e h =>
 sq (bc k3 [68, 69, 67, 70, 71, 11, 12] e (K 12 [(e.s k3 5)] h) fun t69 h1 =>
 bd (exV t69 0) fun t70 =>
 bd (exV t69 1) fun t71 =>
 some ⟨.nm, (ux3 e 12 t71).st 9 t70, h1⟩) fun e h =>
 sq (bc k3 [73, 74, 75, 76, 72, 77, 78, 13, 14] e (K 8 [] h) fun t74 h1 =>
 bc k3 [73, 74, 75, 76, 72, 77, 78, 13, 14] e (K 13 [(e.s k3 11), t74, (e.s k3 1)] h1) fun t76 h2 =>
 bd (exV t76 0) fun t77 =>
 bd (exV t76 1) fun t78 =>
 some ⟨.nm, ((ux3 e 14 t78).st 10 t77).st 11 t78, h2⟩) fun e h =>
 sq (sq (bd (binK 0 .neq (e.s k3 14) (.int .i64 0)) fun t80 =>
 some ⟨.nm, ux3 e 80 t80, h⟩) fun e h =>
 br (e.s k3 80) (sq (some ⟨.nm, (ux3 e 4 (.bool false)).st 2 (.bool false), h⟩) fun e h =>
 some ⟨.rt, e, h⟩)
 (some ⟨.nm, e, h⟩)) fun e h =>
 sq (sq (some ⟨.nm, (ux3 e 15 (.int .i64 0)).st 12 (.int .i64 0), h⟩) fun e h =>
 blk 2 (L (l3_1 K L) e h)) fun e h =>
 sq (bc k3 [112, 113, 114, 115, 116, 4] e (K 14 [(e.s k3 5)] h) fun t113 h1 =>
 bc k3 [112, 113, 114, 115, 116, 4] e (K 14 [(e.s k3 13)] h1) fun t115 h2 =>
 bd (binK 0 .eql t113 t115) fun t116 =>
 some ⟨.nm, (ux3 e 4 t116).st 2 t116, h2⟩) fun e h =>
 some ⟨.rt, e, h⟩
noncomputable def f3 (K : Oracle) (L : Looper) (p0 p1 : V) (h : H) : Option (Rv × H) := fin Try.prog k3 [.tmp 4] (s3 K L ⟨[p0, p1, V.und, V.und, V.und, V.und, V.und, V.und, V.und, V.und, V.und, V.und, V.und, V.und, V.und, V.und], 0, p0⟩ h)
theorem r3 : (fun K L p0 p1 h => runFF Try.prog kp K L 3 [p0, p1] h) = f3 := by kernel_rfl

/-- zoetrope/zoetropelaw11.CoefsAny -/
@[simp] def k4 : List Nat := [0, 1, 4, 5, 6, 7, 8, 9, 10, 11, 12, 13]
@[simp] noncomputable def ux4 (e : E) (t : Nat) (v : V) : E := ⟨[(e.s k4 0), (e.s k4 1), (e.s k4 4), (e.s k4 5), (e.s k4 6), (e.s k4 7), (e.s k4 8), (e.s k4 9), (e.s k4 10), (e.s k4 11), (e.s k4 12), (e.s k4 13)], t, v⟩
noncomputable def l4_0 (K : Oracle) (L : Looper) (e : E) (h : H) : Out :=
 sq (sq (bd (binK 0 .lss (e.s k4 13) (e.s k4 9)) fun t96 =>
 some ⟨.nm, ux4 e 96 t96, h⟩) fun e h =>
 br (e.s k4 96) (some ⟨.nm, e, h⟩)
 (some ⟨.ex 2, e, h⟩)) fun e h =>
 sq (blk 3 (sq (bd (iaS 1 (e.s k4 11) (e.s k4 13)) fun t101 =>
 bd (ld h t101) fun t102 =>
 bd (binK 0 .gtr t102 (.int .i64 2097165)) fun t103 =>
 bd (gl t103 false (some (e.s k4 11))) fun t105 =>
 bd (gl t103 false (some (e.s k4 13))) fun t106 =>
 bd (gl t103 false (iaS 1 t105 t106)) fun t107 =>
 bd (gl t103 false (ld h t107)) fun t108 =>
 bd (gl t103 false (binK 0 .lss t108 (.int .i64 (-2097165)))) fun t109 =>
 bd (pk t103 (.bool true) t109) fun t110 =>
 some ⟨.nm, ux4 e 110 t110, h⟩) fun e h =>
 br (e.s k4 110) (sq (some ⟨.nm, (ux4 e 4 (.bool false)).st 2 (.bool false), h⟩) fun e h =>
 some ⟨.rt, e, h⟩)
 (some ⟨.nm, e, h⟩))) fun e h =>
 bd (binK 0 .add (e.s k4 13) (.int .i64 1)) fun t98 =>
 some ⟨.nm, (ux4 e 13 t98).st 11 t98, h⟩
noncomputable def l4_1 (K : Oracle) (L : Looper) (e : E) (h : H) : Out :=
 sq (sq (bd (lnS (e.s k4 1)) fun t26 =>
 bd (binK 0 .lss (e.s k4 7) t26) fun t27 =>
 bd (gl t27 true (some (e.s k4 7))) fun t29 =>
 bd (gl t27 true (binK 0 .lss t29 (.int .i64 8))) fun t30 =>
 bd (pk t27 t30 (.bool false)) fun t31 =>
 some ⟨.nm, ux4 e 31 t31, h⟩) fun e h =>
 br (e.s k4 31) (some ⟨.nm, e, h⟩)
 (some ⟨.ex 0, e, h⟩)) fun e h =>
 sq (blk 1 (sq (bd (iaS 4 (e.s k4 1) (e.s k4 7)) fun t36 =>
 bd (fa 0 t36) fun t37 =>
 bd (ld h t37) fun t38 =>
 bd (iaS 4 (e.s k4 1) (e.s k4 7)) fun t41 =>
 bd (fa 1 t41) fun t42 =>
 bd (ld h t42) fun t43 =>
 bd (iaS 4 (e.s k4 1) (e.s k4 7)) fun t46 =>
 bd (fa 2 t46) fun t47 =>
 bd (ld h t47) fun t48 =>
 bd (bl [(.int .i64 0), (.int .i64 0), (.int .i64 0), .nils] [(some (0, 1), t38), (some (1, 1), t43), (some (2, 1), t48)]) fun t49 =>
 bn (K 9 [t49] h) fun t50 h1 =>
 bf (nw h1 34 [(.int .i64 0), (.int .i64 0), (.int .i64 0), .nils]) fun t8 h2 =>
 bf (stZ 4 h2 t8 t50) fun _ h3 =>
 ck (ld h t37) t38 (ck (ld h t42) t43 (ck (ld h t47) t48 (some ⟨.nm, (ux4 e 0 (e.s k4 0)).st 6 t8, h3⟩)))) fun e h =>
 sq (bd (fa 3 (e.s k4 8)) fun t51 =>
 bd (ld h t51) fun t52 =>
 bd (lnS t52) fun t53 =>
 some ⟨.nm, (ux4 e 9 t53).st 7 t53, h⟩) fun e h =>
 sq (bc k4 [54, 55, 10] e (K 14 [(e.s k4 5)] h) fun t55 h1 =>
 some ⟨.nm, (ux4 e 10 t55).st 8 t55, h1⟩) fun e h =>
 sq (bd (fa 0 (e.s k4 8)) fun t58 =>
 bd (ld h t58) fun t59 =>
 bd (fa 1 (e.s k4 8)) fun t60 =>
 bd (ld h t60) fun t61 =>
 bd (fa 2 (e.s k4 8)) fun t62 =>
 bd (ld h t62) fun t63 =>
 bc k4 [57, 58, 59, 60, 61, 62, 63, 64, 56, 65, 66, 11, 12] e (K 10 [(e.s k4 5), t59, t61, t63, .nils] h) fun t64 h1 =>
 bd (exV t64 0) fun t65 =>
 bd (exV t64 1) fun t66 =>
 some ⟨.nm, ((ux4 e 12 t66).st 9 t65).st 10 t66, h1⟩) fun e h =>
 sq (sq (bc k4 [67, 68, 69, 70, 71, 72, 73, 74, 75, 76, 77, 78, 79, 80] e (K 14 [(e.s k4 5)] h) fun t68 h1 =>
 bd (binK 0 .sub t68 (e.s k4 10)) fun t70 =>
 bd (binK 0 .mul (.int .i64 64) (e.s k4 9)) fun t72 =>
 bd (binK 0 .add t72 (.int .i64 12)) fun t73 =>
 bd (binK 0 .gtr t70 t73) fun t74 =>
 bd (gl t74 false (some (e.s k4 5))) fun t76 =>
 bc k4 [67, 68, 69, 70, 71, 72, 73, 74, 75, 76, 77, 78, 79, 80] e (gk t74 false h1 (K 14 [t76] h1)) fun t77 h2 =>
 bd (gl t74 false (some (e.s k4 10))) fun t78 =>
 bd (gl t74 false (binK 0 .leq t77 t78)) fun t79 =>
 bd (pk t74 (.bool true) t79) fun t80 =>
 some ⟨.nm, ux4 e 80 t80, h2⟩) fun e h =>
 br (e.s k4 80) (sq (some ⟨.nm, (ux4 e 4 (.bool false)).st 2 (.bool false), h⟩) fun e h =>
 some ⟨.rt, e, h⟩)
 (some ⟨.nm, e, h⟩)) fun e h =>
 sq (sq (bd (binK 0 .neq (e.s k4 12) (.int .i64 0)) fun t82 =>
 some ⟨.nm, ux4 e 82 t82, h⟩) fun e h =>
 br (e.s k4 82) (sq (bd (binK 0 .eql (e.s k4 12) (.int .i64 4)) fun t84 =>
 bd (gl t84 true (some (e.s k4 11))) fun t86 =>
 bd (gl t84 true (lnS t86)) fun t87 =>
 bd (gl t84 true (binK 0 .eql t87 (.int .i64 0))) fun t88 =>
 bd (pk t84 t88 (.bool false)) fun t89 =>
 some ⟨.nm, (ux4 e 4 t89).st 2 t89, h⟩) fun e h =>
 some ⟨.rt, e, h⟩)
 (some ⟨.nm, e, h⟩)) fun e h =>
 sq (sq (bd (lnS (e.s k4 11)) fun t91 =>
 bd (binK 0 .neq t91 (e.s k4 9)) fun t93 =>
 some ⟨.nm, ux4 e 93 t93, h⟩) fun e h =>
 br (e.s k4 93) (sq (some ⟨.nm, (ux4 e 4 (.bool false)).st 2 (.bool false), h⟩) fun e h =>
 some ⟨.rt, e, h⟩)
 (some ⟨.nm, e, h⟩)) fun e h =>
 sq (some ⟨.nm, (ux4 e 13 (.int .i64 0)).st 11 (.int .i64 0), h⟩) fun e h =>
 blk 2 (L (l4_0 K L) e h))) fun e h =>
 bd (binK 0 .add (e.s k4 7) (.int .i64 1)) fun t33 =>
 some ⟨.nm, (ux4 e 7 t33).st 5 t33, h⟩
noncomputable def s4 (K : Oracle) (L : Looper) (e : E) (h : H) : Out :=
 sq (some ⟨.nm, (ux4 e 4 (.bool false)).st 2 (.bool false), h⟩) fun e h =>
 sq (sq (bc k4 [14, 15] e (K 6 [] h) fun t14 h1 =>
 bd (unV .not t14) fun t15 =>
 some ⟨.nm, ux4 e 15 t15, h1⟩) fun e h =>
 br (e.s k4 15) (sq (some ⟨.nm, (ux4 e 4 (.bool false)).st 2 (.bool false), h⟩) fun e h =>
 some ⟨.rt, e, h⟩)
 (some ⟨.nm, e, h⟩)) fun e h =>
 sq (bc k4 [17, 18, 19, 16, 20, 21, 5, 6] e (K 8 [] h) fun t18 h1 =>
 bc k4 [17, 18, 19, 16, 20, 21, 5, 6] e (K 13 [(e.s k4 0), t18, (.bool true)] h1) fun t19 h2 =>
 bd (exV t19 0) fun t20 =>
 bd (exV t19 1) fun t21 =>
 some ⟨.nm, ((ux4 e 6 t21).st 3 t20).st 4 t21, h2⟩) fun e h =>
 sq (sq (bd (binK 0 .neq (e.s k4 6) (.int .i64 0)) fun t23 =>
 some ⟨.nm, ux4 e 23 t23, h⟩) fun e h =>
 br (e.s k4 23) (sq (some ⟨.nm, (ux4 e 4 (.bool false)).st 2 (.bool false), h⟩) fun e h =>
 some ⟨.rt, e, h⟩)
 (some ⟨.nm, e, h⟩)) fun e h =>
 sq (sq (some ⟨.nm, (ux4 e 7 (.int .i64 0)).st 5 (.int .i64 0), h⟩) fun e h =>
 blk 0 (L (l4_1 K L) e h)) fun e h =>
 sq (some ⟨.nm, (ux4 e 4 (.bool true)).st 2 (.bool true), h⟩) fun e h =>
 some ⟨.rt, e, h⟩
noncomputable def f4 (K : Oracle) (L : Looper) (p0 p1 : V) (h : H) : Option (Rv × H) := fin Try.prog k4 [.tmp 4] (s4 K L ⟨[p0, p1, V.und, V.und, V.und, V.und, V.und, V.und, V.und, V.und, V.und, V.und], 0, p0⟩ h)
theorem r4 : (fun K L p0 p1 h => runFF Try.prog kp K L 4 [p0, p1] h) = f4 := by kernel_rfl

/-- zoetrope/zoetropelaw11.CoefsAmounts -/
@[simp] def k5 : List Nat := [0, 1, 2, 6, 7, 8, 9, 11, 12, 13]
@[simp] noncomputable def ux5 (e : E) (t : Nat) (v : V) : E := ⟨[(e.s k5 0), (e.s k5 1), (e.s k5 2), (e.s k5 6), (e.s k5 7), (e.s k5 8), (e.s k5 9), (e.s k5 11), (e.s k5 12), (e.s k5 13)], t, v⟩
noncomputable def s5 (K : Oracle) (L : Looper) (e : E) (h : H) : Out :=
 sq (some ⟨.nm, (ux5 e 6 (.bool false)).st 3 (.bool false), h⟩) fun e h =>
 sq (sq (bc k5 [14, 15] e (K 6 [] h) fun t14 h1 =>
 bd (unV .not t14) fun t15 =>
 some ⟨.nm, ux5 e 15 t15, h1⟩) fun e h =>
 br (e.s k5 15) (sq (some ⟨.nm, (ux5 e 6 (.bool false)).st 3 (.bool false), h⟩) fun e h =>
 some ⟨.rt, e, h⟩)
 (some ⟨.nm, e, h⟩)) fun e h =>
 sq (bd (binK 0 .rem (e.s k5 2) (.int .i64 1048576)) fun t17 =>
 some ⟨.nm, (ux5 e 2 t17).st 2 t17, h⟩) fun e h =>
 sq (sq (bd (binK 0 .eql (e.s k5 2) (.int .i64 0)) fun t19 =>
 some ⟨.nm, ux5 e 19 t19, h⟩) fun e h =>
 br (e.s k5 19) (some ⟨.nm, (ux5 e 2 (.int .i64 1)).st 2 (.int .i64 1), h⟩)
 (some ⟨.nm, e, h⟩)) fun e h =>
 sq (bf (bs h 3 1 [(.int .i64 0)] [(some (0, 1), (e.s k5 2))]) fun t23 h1 =>
 bd (bl [(.int .i64 0), (.int .i64 0), (.int .i64 0), .nils] [(some (0, 1), (e.s k5 0)), (some (1, 1), (e.s k5 1)), (some (3, 1), t23)]) fun t24 =>
 bc k5 [20, 21, 22, 23, 24, 25, 7] e (K 9 [t24] h1) fun t25 h2 =>
 bf (nw h2 34 [(.int .i64 0), (.int .i64 0), (.int .i64 0), .nils]) fun t7 h3 =>
 bf (stZ 4 h3 t7 t25) fun _ h4 =>
 some ⟨.nm, (ux5 e 0 (e.s k5 0)).st 4 t7, h4⟩) fun e h =>
 sq (bc k5 [27, 28, 26, 29, 30, 8, 9] e (K 8 [] h) fun t27 h1 =>
 bc k5 [27, 28, 26, 29, 30, 8, 9] e (K 7 [t27, (.bool true)] h1) fun t28 h2 =>
 bd (exV t28 0) fun t29 =>
 bd (exV t28 1) fun t30 =>
 some ⟨.nm, ((ux5 e 9 t30).st 5 t29).st 6 t30, h2⟩) fun e h =>
 sq (sq (bd (binK 0 .neq (e.s k5 9) (.int .i64 0)) fun t32 =>
 some ⟨.nm, ux5 e 32 t32, h⟩) fun e h =>
 br (e.s k5 32) (sq (some ⟨.nm, (ux5 e 6 (.bool false)).st 3 (.bool false), h⟩) fun e h =>
 some ⟨.rt, e, h⟩)
 (some ⟨.nm, e, h⟩)) fun e h =>
 sq (sq (bd (fa 0 (e.s k5 7)) fun t35 =>
 bd (ld h t35) fun t36 =>
 bd (fa 1 (e.s k5 7)) fun t37 =>
 bd (ld h t37) fun t38 =>
 bd (fa 3 (e.s k5 7)) fun t39 =>
 bd (ld h t39) fun t40 =>
 bc k5 [34, 35, 36, 37, 38, 39, 40, 41, 33, 42, 43, 10, 11] e (K 10 [(e.s k5 8), t36, t38, (.int .i64 0), t40] h) fun t41 h1 =>
 bd (exV t41 0) fun t42 =>
 bd (exV t41 1) fun t43 =>
 some ⟨.nm, (ux5 e 11 t43).st 7 t43, h1⟩) fun e h =>
 sq (bd (binK 0 .neq (e.s k5 11) (.int .i64 0)) fun t45 =>
 some ⟨.nm, ux5 e 45 t45, h⟩) fun e h =>
 br (e.s k5 45) (sq (some ⟨.nm, (ux5 e 6 (.bool false)).st 3 (.bool false), h⟩) fun e h =>
 some ⟨.rt, e, h⟩)
 (some ⟨.nm, e, h⟩)) fun e h =>
 sq (bd (unV .neg (e.s k5 2)) fun t48 =>
 bd (maxV [(e.s k5 2), t48]) fun t49 =>
 some ⟨.nm, (ux5 e 12 t49).st 8 t49, h⟩) fun e h =>
 sq (some ⟨.nm, (ux5 e 13 (.int .i64 4)).st 9 (.int .i64 4), h⟩) fun e h =>
 sq (sq (bd (binK 0 .geq (e.s k5 12) (.int .i64 3)) fun t51 =>
 some ⟨.nm, ux5 e 51 t51, h⟩) fun e h =>
 br (e.s k5 51) (bd (binK 0 .sub (e.s k5 12) (.int .i64 3)) fun t54 =>
 bd (binK 0 .quo t54 (.int .i64 3)) fun t55 =>
 bd (binK 0 .add t55 (.int .i64 1)) fun t56 =>
 bd (minV [t56, (.int .i64 4)]) fun t57 =>
 bd (binK 0 .add (e.s k5 13) t57) fun t58 =>
 some ⟨.nm, (ux5 e 13 t58).st 9 t58, h⟩)
 (some ⟨.nm, e, h⟩)) fun e h =>
 sq (sq (bd (binK 0 .geq (e.s k5 12) (.int .i64 15)) fun t60 =>
 some ⟨.nm, ux5 e 60 t60, h⟩) fun e h =>
 br (e.s k5 60) (bd (binK 0 .sub (e.s k5 12) (.int .i64 14)) fun t63 =>
 bc k5 [61, 62, 63, 64, 65, 66, 67, 13] e (K 15 [t63] h) fun t64 h1 =>
 bd (binK 0 .mul (.int .i64 2) t64) fun t65 =>
 bd (binK 0 .add (e.s k5 13) t65) fun t66 =>
 bd (binK 0 .add t66 (.int .i64 1)) fun t67 =>
 some ⟨.nm, (ux5 e 13 t67).st 9 t67, h1⟩)
 (some ⟨.nm, e, h⟩)) fun e h =>
 sq (bc k5 [68, 69, 70, 71, 6] e (K 14 [(e.s k5 8)] h) fun t69 h1 =>
 bd (binK 0 .eql t69 (e.s k5 13)) fun t71 =>
 some ⟨.nm, (ux5 e 6 t71).st 3 t71, h1⟩) fun e h =>
 some ⟨.rt, e, h⟩
noncomputable def f5 (K : Oracle) (L : Looper) (p0 p1 p2 : V) (h : H) : Option (Rv × H) := fin Try.prog k5 [.tmp 6] (s5 K L ⟨[p0, p1, p2, V.und, V.und, V.und, V.und, V.und, V.und, V.und], 0, p0⟩ h)
theorem r5 : (fun K L p0 p1 p2 h => runFF Try.prog kp K L 5 [p0, p1, p2] h) = f5 := by kernel_rfl

/-- zoetrope/zoetropelaw11.awake -/
@[simp] def k6 : List Nat := [0, 1, 2, 3, 4, 5, 6, 8, 10, 11]
@[simp] noncomputable def ux6 (e : E) (t : Nat) (v : V) : E := ⟨[(e.s k6 0), (e.s k6 1), (e.s k6 2), (e.s k6 3), (e.s k6 4), (e.s k6 5), (e.s k6 6), (e.s k6 8), (e.s k6 10), (e.s k6 11)], t, v⟩
noncomputable def s6 (K : Oracle) (L : Looper) (e : E) (h : H) : Out :=
 sq (some ⟨.nm, (ux6 e 0 (.bool false)).st 0 (.bool false), h⟩) fun e h =>
 sq (bf (ms h 3 8 [(.int .i64 0)] (.int .i64 16) (.int .i64 16)) fun t12 h1 =>
 some ⟨.nm, (ux6 e 1 t12).st 1 t12, h1⟩) fun e h =>
 sq (bd (iaS 1 (e.s k6 1) (.int .i64 0)) fun t14 =>
 bf (stZ 1 h t14 (.int .i64 (-20))) fun _ h1 =>
 some ⟨.nm, ux6 e 0 (e.s k6 0), h1⟩) fun e h =>
 sq (bd (iaS 1 (e.s k6 1) (.int .i64 1)) fun t16 =>
 bf (stZ 1 h t16 (.int .i64 1)) fun _ h1 =>
 some ⟨.nm, ux6 e 0 (e.s k6 0), h1⟩) fun e h =>
 sq (bc k6 [18, 19, 17, 20, 21, 2, 3] e (K 8 [] h) fun t18 h1 =>
 bc k6 [18, 19, 17, 20, 21, 2, 3] e (K 7 [t18, (.bool true)] h1) fun t19 h2 =>
 bd (exV t19 0) fun t20 =>
 bd (exV t19 1) fun t21 =>
 some ⟨.nm, ((ux6 e 3 t21).st 2 t20).st 3 t21, h2⟩) fun e h =>
 sq (sq (bd (binK 0 .neq (e.s k6 3) (.int .i64 0)) fun t23 =>
 bd (gl t23 false (some (e.s k6 2))) fun t25 =>
 bd (gl t23 false (binK 2 .eql t25 .nilp)) fun t26 =>
 bd (pk t23 (.bool true) t26) fun t27 =>
 some ⟨.nm, ux6 e 27 t27, h⟩) fun e h =>
 br (e.s k6 27) (sq (some ⟨.nm, (ux6 e 0 (.bool false)).st 0 (.bool false), h⟩) fun e h =>
 some ⟨.rt, e, h⟩)
 (some ⟨.nm, e, h⟩)) fun e h =>
 sq (bc k6 [29, 30, 31, 28, 32, 33, 4, 5] e (K 10 [(e.s k6 2), (.int .i64 4), (.int .i64 1), (.int .i64 2), (e.s k6 1)] h) fun t31 h1 =>
 bd (exV t31 0) fun t32 =>
 bd (exV t31 1) fun t33 =>
 some ⟨.nm, ((ux6 e 5 t33).st 4 t32).st 5 t33, h1⟩) fun e h =>
 sq (bc k6 [35, 36, 34, 37, 38, 6, 7] e (K 12 [(e.s k6 2)] h) fun t36 h1 =>
 bd (exV t36 0) fun t37 =>
 bd (exV t36 1) fun t38 =>
 some ⟨.nm, (ux6 e 7 t38).st 6 t37, h1⟩) fun e h =>
 sq (bc k6 [40, 41, 42, 39, 43, 44, 8, 9] e (K 8 [] h) fun t41 h1 =>
 bc k6 [40, 41, 42, 39, 43, 44, 8, 9] e (K 13 [(e.s k6 6), t41, (.bool true)] h1) fun t42 h2 =>
 bd (exV t42 0) fun t43 =>
 bd (exV t42 1) fun t44 =>
 some ⟨.nm, (ux6 e 9 t44).st 7 t43, h2⟩) fun e h =>
 sq (bc k6 [46, 47, 45, 48, 49, 10, 11] e (K 10 [(e.s k6 8), (.int .i64 4), (.int .i64 1), (.int .i64 2), .nils] h) fun t47 h1 =>
 bd (exV t47 0) fun t48 =>
 bd (exV t47 1) fun t49 =>
 some ⟨.nm, ((ux6 e 11 t49).st 8 t48).st 9 t49, h1⟩) fun e h =>
 sq (bd (binK 0 .eql (e.s k6 5) (.int .i64 0)) fun t51 =>
 bd (gl t51 true (some (e.s k6 11))) fun t53 =>
 bd (gl t51 true (binK 0 .eql t53 (.int .i64 0))) fun t54 =>
 bd (pk t51 t54 (.bool false)) fun t55 =>
 bd (gl t55 true (some (e.s k6 4))) fun t57 =>
 bd (gl t55 true (some (e.s k6 1))) fun t58 =>
 bc k6 [50, 51, 52, 53, 54, 55, 56, 57, 58, 59, 60, 61, 62, 63, 64, 65, 66, 67, 68, 69, 70, 71, 72, 73, 74, 75, 76, 77, 78, 79, 80, 0] e (gk t55 true h (K 11 [t57, t58] h)) fun t59 h1 =>
 bd (pk t55 t59 (.bool false)) fun t60 =>
 bd (gl t60 true (some (e.s k6 10))) fun t62 =>
 bd (gl t60 true (some (e.s k6 1))) fun t63 =>
 bc k6 [50, 51, 52, 53, 54, 55, 56, 57, 58, 59, 60, 61, 62, 63, 64, 65, 66, 67, 68, 69, 70, 71, 72, 73, 74, 75, 76, 77, 78, 79, 80, 0] e (gk t60 true h1 (K 11 [t62, t63] h1)) fun t64 h2 =>
 bd (pk t60 t64 (.bool false)) fun t65 =>
 bd (gl t65 true (some (e.s k6 2))) fun t67 =>
 bc k6 [50, 51, 52, 53, 54, 55, 56, 57, 58, 59, 60, 61, 62, 63, 64, 65, 66, 67, 68, 69, 70, 71, 72, 73, 74, 75, 76, 77, 78, 79, 80, 0] e (gk t65 true h2 (K 14 [t67] h2)) fun t68 h3 =>
 bd (gl t65 true (binK 0 .eql t68 (.int .i64 15))) fun t69 =>
 bd (pk t65 t69 (.bool false)) fun t70 =>
 bd (gl t70 true (some (e.s k6 8))) fun t72 =>
 bc k6 [50, 51, 52, 53, 54, 55, 56, 57, 58, 59, 60, 61, 62, 63, 64, 65, 66, 67, 68, 69, 70, 71, 72, 73, 74, 75, 76, 77, 78, 79, 80, 0] e (gk t70 true h3 (K 14 [t72] h3)) fun t73 h4 =>
 bd (gl t70 true (binK 0 .eql t73 (.int .i64 15))) fun t74 =>
 bd (pk t70 t74 (.bool false)) fun t75 =>
 bd (gl t75 true (some (e.s k6 1))) fun t77 =>
 bc k6 [50, 51, 52, 53, 54, 55, 56, 57, 58, 59, 60, 61, 62, 63, 64, 65, 66, 67, 68, 69, 70, 71, 72, 73, 74, 75, 76, 77, 78, 79, 80, 0] e (gk t75 true h4 (K 16 [t77] h4)) fun t78 h5 =>
 bd (gl t75 true (binK 0 .eql t78 (.int .i64 1))) fun t79 =>
 bd (pk t75 t79 (.bool false)) fun t80 =>
 some ⟨.nm, (ux6 e 0 t80).st 0 t80, h5⟩) fun e h =>
 some ⟨.rt, e, h⟩
noncomputable def f6 (K : Oracle) (L : Looper) (h : H) : Option (Rv × H) := fin Try.prog k6 [.tmp 0] (s6 K L ⟨[V.und, V.und, V.und, V.und, V.und, V.und, V.und, V.und, V.und, V.und], 0, V.und⟩ h)
theorem r6 : (fun K L h => runFF Try.prog kp K L 6 [] h) = f6 := by kernel_rfl

/-- zoetrope/syms.Writer -/
@[simp] def k7 : List Nat := [0, 1, 2, 4, 5, 6]
@[simp] noncomputable def ux7 (e : E) (t : Nat) (v : V) : E := ⟨[(e.s k7 0), (e.s k7 1), (e.s k7 2), (e.s k7 4), (e.s k7 5), (e.s k7 6)], t, v⟩
noncomputable def s7 (K : Oracle) (L : Looper) (e : E) (h : H) : Out :=
 sq (bf (bx h 30 (e.s k7 0)) fun t2 h1 =>
 some ⟨.nm, (((ux7 e 5 (.int .i64 0)).st 2 t2).st 3 .nilp).st 4 (.int .i64 0), h1⟩) fun e h =>
 sq (sq (bd (ldn 1 h (e.s k7 2)) fun t7 =>
 bc k7 [7, 8, 6] e (K 17 [t7] h) fun t8 h1 =>
 some ⟨.nm, (ux7 e 6 t8).st 5 t8, h1⟩) fun e h =>
 sq (bd (binK 0 .neq (e.s k7 6) (.int .i64 0)) fun t10 =>
 some ⟨.nm, ux7 e 10 t10, h⟩) fun e h =>
 br (e.s k7 10) (sq (some ⟨.nm, ((ux7 e 5 (e.s k7 6)).st 3 .nilp).st 4 (e.s k7 6), h⟩) fun e h =>
 some ⟨.rt, e, h⟩)
 (some ⟨.nm, e, h⟩)) fun e h =>
 sq (bk (K 18 [] h) (fun tp hp =>
 bd (ldn 1 h (e.s k7 2)) fun t13 =>
 bd (some (e.s k7 1)) fun t15 =>
 some ⟨.pn tp, fgE k7 [12, 13, 14, 15, 16, 17, 4, 5] e, hp⟩) fun _ _ =>
 bn (K 18 [] h) fun t12 h1 =>
 bd (ldn 1 h1 (e.s k7 2)) fun t13 =>
 bn (K 19 [t13] h1) fun t14 h2 =>
 bd (bl [.nilp, .nilp, .nils, (.bool false), (.int .i64 0)] [(some (0, 1), t12), (some (2, 1), t14), (some (3, 1), (e.s k7 1))]) fun t16 =>
 bf (bx h2 55 t16) fun t17 h3 =>
 ck (ldn 1 h (e.s k7 2)) t13 (ck (ldn 1 h1 (e.s k7 2)) t13 (some ⟨.nm, ((ux7 e 5 (.int .i64 0)).st 3 t17).st 4 (.int .i64 0), h3⟩))) fun e h =>
 some ⟨.rt, e, h⟩
noncomputable def f7 (K : Oracle) (L : Looper) (p0 p1 : V) (h : H) : Option (Rv × H) := fin Try.prog k7 [.tmp 4, .tmp 5] (s7 K L ⟨[p0, p1, V.und, V.und, V.und, V.und], 0, p0⟩ h)
theorem r7 : (fun K L p0 p1 h => runFF Try.prog kp K L 7 [p0, p1] h) = f7 := by kernel_rfl

/-- zoetrope/syms.Default -/
@[simp] def k8 : List Nat := [0, 1, 3, 4, 5, 6, 7, 8, 17, 18]
@[simp] noncomputable def ux8 (e : E) (t : Nat) (v : V) : E := ⟨[(e.s k8 0), (e.s k8 1), (e.s k8 3), (e.s k8 4), (e.s k8 5), (e.s k8 6), (e.s k8 7), (e.s k8 8), (e.s k8 17), (e.s k8 18)], t, v⟩
noncomputable def l8_0 (K : Oracle) (L : Looper) (e : E) (h : H) : Out :=
 sq (bd (binK 0 .lss (e.s k8 18) (e.s k8 17)) fun t19 =>
 some ⟨.nm, ux8 e 19 t19, h⟩) fun e h =>
 sq (br (e.s k8 19) (some ⟨.nm, e, h⟩)
 (some ⟨.ex 2, e, h⟩)) fun e h =>
 sq (blk 3 (sq (some ⟨.nm, (ux8 e 6 (e.s k8 18)).st 5 (e.s k8 18), h⟩) fun e h =>
 bd (fa 1 (e.s k8 3)) fun t25 =>
 bd (ld h t25) fun t26 =>
 bc k8 [22, 23, 24, 25, 26, 27, 21, 28, 29, 30] e (cdy K (e.s k8 4) [t26] h) fun t27 h1 =>
 bd (exV t27 0) fun t28 =>
 bd (exV t27 1) fun t29 =>
 bd (iaS 2 (e.s k8 5) (e.s k8 6)) fun t30 =>
 bf (stZ 2 h1 t30 t28) fun _ h2 =>
 some ⟨.nm, ux8 e 0 (e.s k8 0), h2⟩)) fun e h =>
 bd (binK 0 .add (e.s k8 18) (.int .i64 1)) fun t31 =>
 some ⟨.nm, (ux8 e 18 t31).st 9 t31, h⟩
noncomputable def l8_1 (K : Oracle) (L : Looper) (e : E) (h : H) : Out :=
 sq (bd (binK 0 .lss (e.s k8 8) (.int .i64 32)) fun t9 =>
 some ⟨.nm, ux8 e 9 t9, h⟩) fun e h =>
 sq (br (e.s k8 9) (some ⟨.nm, e, h⟩)
 (some ⟨.ex 0, e, h⟩)) fun e h =>
 sq (blk 1 (sq (bd (ixN 32 3 (e.s k8 7) (e.s k8 8)) fun t10 =>
 bf (nw h 57 [(.int .i64 0), (.int .i64 0), (.bool false)]) fun t3 h1 =>
 bf (stZ 3 h1 t3 t10) fun _ h2 =>
 some ⟨.nm, (ux8 e 0 (e.s k8 0)).st 2 t3, h2⟩) fun e h =>
 sq (some ⟨.nm, (ux8 e 4 (.fn (.func 21) [] [])).st 3 (.fn (.func 21) [] []), h⟩) fun e h =>
 sq (sq (bd (fa 2 (e.s k8 3)) fun t11 =>
 bd (ld h t11) fun t12 =>
 some ⟨.nm, ux8 e 12 t12, h⟩) fun e h =>
 br (e.s k8 12) (some ⟨.nm, (ux8 e 4 (.fn (.func 22) [] [])).st 3 (.fn (.func 22) [] []), h⟩)
 (some ⟨.nm, e, h⟩)) fun e h =>
 sq (bd (fa 0 (e.s k8 3)) fun t13 =>
 bd (ld h t13) fun t14 =>
 bf (ms h 64 32 [.nils, (.int .i64 0)] t14 t14) fun t15 h1 =>
 some ⟨.nm, (ux8 e 5 t15).st 4 t15, h1⟩) fun e h =>
 sq (sq (bd (lnS (e.s k8 5)) fun t17 =>
 some ⟨.nm, ((ux8 e 18 (.int .i64 0)).st 8 t17).st 9 (.int .i64 0), h⟩) fun e h =>
 blk 2 (L (l8_0 K L) e h)) fun e h =>
 bd (fa 0 (e.s k8 1)) fun t32 =>
 bd (ld h t32) fun t33 =>
 bf (bs h 61 1 [.nils] [(some (0, 1), (e.s k8 5))]) fun t35 h1 =>
 bf (apZ 61 1 24 h1 t33 t35) fun t36 h2 =>
 bd (fa 0 (e.s k8 1)) fun t37 =>
 bf (stZ 1 h2 t37 t36) fun _ h3 =>
 some ⟨.nm, ux8 e 0 (e.s k8 0), h3⟩)) fun e h =>
 bd (binK 0 .add (e.s k8 8) (.int .i64 1)) fun t38 =>
 some ⟨.nm, (ux8 e 8 t38).st 7 t38, h⟩
noncomputable def s8 (K : Oracle) (L : Looper) (e : E) (h : H) : Out :=
 sq (bf (nw h 30 [.nils]) fun t0 h1 =>
 some ⟨.nm, (ux8 e 0 t0).st 0 t0, h1⟩) fun e h =>
 sq (bf (nw h 30 [.nils]) fun t1 h1 =>
 some ⟨.nm, (ux8 e 1 t1).st 1 t1, h1⟩) fun e h =>
 sq (sq (bc k8 [7, 8] e (K 20 [] h) fun t7 h1 =>
 some ⟨.nm, ((ux8 e 8 (.int .i64 0)).st 6 t7).st 7 (.int .i64 0), h1⟩) fun e h =>
 blk 0 (L (l8_1 K L) e h)) fun e h =>
 sq (bd (ldn 1 h (e.s k8 1)) fun t39 =>
 bf (stZ 1 h (e.s k8 0) t39) fun _ h1 =>
 some ⟨.nm, ux8 e 0 (e.s k8 0), h1⟩) fun e h =>
 some ⟨.rt, e, h⟩
noncomputable def f8 (K : Oracle) (L : Looper) (h : H) : Option (Rv × H) := fin Try.prog k8 [.cell 0 30] (s8 K L ⟨[V.und, V.und, V.und, V.und, V.und, V.und, V.und, V.und, V.und, V.und], 0, V.und⟩ h)
theorem r8 : (fun K L h => runFF Try.prog kp K L 8 [] h) = f8 := by kernel_rfl

/-- zoetrope/zoetropelaw11.may -/
@[simp] def k9 : List Nat := [0, 1, 2, 3, 4, 5]
@[simp] noncomputable def ux9 (e : E) (t : Nat) (v : V) : E := ⟨[(e.s k9 0), (e.s k9 1), (e.s k9 2), (e.s k9 3), (e.s k9 4), (e.s k9 5)], t, v⟩
noncomputable def l9_0 (K : Oracle) (L : Looper) (e : E) (h : H) : Out :=
 sq (sq (bd (lnS (e.s k9 4)) fun t28 =>
 bd (binK 0 .lss (e.s k9 5) t28) fun t29 =>
 bd (gl t29 true (some (e.s k9 5))) fun t31 =>
 bd (gl t29 true (fa 3 (e.s k9 1))) fun t32 =>
 bd (gl t29 true (ld h t32)) fun t33 =>
 bd (gl t29 true (lnS t33)) fun t34 =>
 bd (gl t29 true (binK 0 .lss t31 t34)) fun t35 =>
 bd (pk t29 t35 (.bool false)) fun t36 =>
 some ⟨.nm, ux9 e 36 t36, h⟩) fun e h =>
 br (e.s k9 36) (some ⟨.nm, e, h⟩)
 (some ⟨.ex 0, e, h⟩)) fun e h =>
 sq (blk 1 (bd (fa 3 (e.s k9 1)) fun t41 =>
 bd (ld h t41) fun t42 =>
 bd (iaS 1 t42 (e.s k9 5)) fun t44 =>
 bd (ld h t44) fun t45 =>
 bd (binK 0 .rem t45 (.int .i64 1048576)) fun t46 =>
 bd (iaS 1 (e.s k9 4) (e.s k9 5)) fun t47 =>
 bf (stZ 1 h t47 t46) fun _ h1 =>
 some ⟨.nm, ux9 e 0 (e.s k9 0), h1⟩)) fun e h =>
 bd (binK 0 .add (e.s k9 5) (.int .i64 1)) fun t38 =>
 some ⟨.nm, (ux9 e 5 t38).st 5 t38, h⟩
noncomputable def s9 (K : Oracle) (L : Looper) (e : E) (h : H) : Out :=
 sq (bf (bx h 34 (e.s k9 0)) fun t1 h1 =>
 bf (nw h1 34 [(.int .i64 0), (.int .i64 0), (.int .i64 0), .nils]) fun t2 h2 =>
 some ⟨.nm, ((ux9 e 2 t2).st 1 t1).st 2 t2, h2⟩) fun e h =>
 sq (bd (fa 0 (e.s k9 1)) fun t6 =>
 bd (ld h t6) fun t7 =>
 bc k9 [6, 7, 8, 9, 10] e (K 23 [t7, (.int .i64 5)] h) fun t8 h1 =>
 bd (binK 0 .shl (.int .i64 4) t8) fun t9 =>
 bd (fa 0 (e.s k9 1)) fun t10 =>
 bf (stZ 1 h1 t10 t9) fun _ h2 =>
 some ⟨.nm, ux9 e 0 (e.s k9 0), h2⟩) fun e h =>
 sq (bd (fa 1 (e.s k9 1)) fun t11 =>
 bd (ld h t11) fun t12 =>
 bc k9 [11, 12, 13, 14] e (K 23 [t12, (.int .i64 3)] h) fun t13 h1 =>
 bd (fa 1 (e.s k9 1)) fun t14 =>
 bf (stZ 1 h1 t14 t13) fun _ h2 =>
 some ⟨.nm, ux9 e 0 (e.s k9 0), h2⟩) fun e h =>
 sq (bd (fa 2 (e.s k9 1)) fun t15 =>
 bd (ld h t15) fun t16 =>
 bc k9 [15, 16, 17, 18] e (K 23 [t16, (.int .i64 3)] h) fun t17 h1 =>
 bd (fa 2 (e.s k9 1)) fun t18 =>
 bf (stZ 1 h1 t18 t17) fun _ h2 =>
 some ⟨.nm, ux9 e 0 (e.s k9 0), h2⟩) fun e h =>
 sq (bd (fa 0 (e.s k9 1)) fun t19 =>
 bd (ld h t19) fun t20 =>
 bd (minV [t20, (.int .i64 32)]) fun t21 =>
 some ⟨.nm, (ux9 e 3 t21).st 3 t21, h⟩) fun e h =>
 sq (bd (binK 0 .mul (e.s k9 3) (e.s k9 3)) fun t24 =>
 bf (ms h 3 8 [(.int .i64 0)] t24 t24) fun t25 h1 =>
 some ⟨.nm, (ux9 e 4 t25).st 4 t25, h1⟩) fun e h =>
 sq (sq (some ⟨.nm, (ux9 e 5 (.int .i64 0)).st 5 (.int .i64 0), h⟩) fun e h =>
 blk 0 (L (l9_0 K L) e h)) fun e h =>
 sq (bd (fa 3 (e.s k9 1)) fun t49 =>
 bf (stZ 1 h t49 (e.s k9 4)) fun _ h1 =>
 some ⟨.nm, ux9 e 0 (e.s k9 0), h1⟩) fun e h =>
 sq (bd (ldn 4 h (e.s k9 1)) fun t50 =>
 bf (stZ 4 h (e.s k9 2) t50) fun _ h1 =>
 some ⟨.nm, ux9 e 0 (e.s k9 0), h1⟩) fun e h =>
 some ⟨.rt, e, h⟩
noncomputable def f9 (K : Oracle) (L : Looper) (p0 : V) (h : H) : Option (Rv × H) := fin Try.prog k9 [.cell 2 34] (s9 K L ⟨[p0, V.und, V.und, V.und, V.und, V.und], 0, p0⟩ h)
theorem r9 : (fun K L p0 h => runFF Try.prog kp K L 9 [p0] h) = f9 := by kernel_rfl

/-- zoetrope/coefs.Code -/
@[simp] def k10 : List Nat := [0, 1, 2, 3, 4, 10, 11, 13, 14, 15, 16]
@[simp] noncomputable def ux10 (e : E) (t : Nat) (v : V) : E := ⟨[(e.s k10 0), (e.s k10 1), (e.s k10 2), (e.s k10 3), (e.s k10 4), (e.s k10 10), (e.s k10 11), (e.s k10 13), (e.s k10 14), (e.s k10 15), (e.s k10 16)], t, v⟩
noncomputable def s10 (K : Oracle) (L : Looper) (e : E) (h : H) : Out :=
 sq (some ⟨.nm, ((ux10 e 11 (.int .i64 0)).st 5 .nils).st 6 (.int .i64 0), h⟩) fun e h =>
 sq (sq (bc k10 [18, 19, 17, 20, 21, 12, 13] e (K 24 [(e.s k10 0), (.int .i64 0), (.int .i64 0)] h) fun t19 h1 =>
 bd (exV t19 0) fun t20 =>
 bd (exV t19 1) fun t21 =>
 some ⟨.nm, (ux10 e 13 t21).st 7 t21, h1⟩) fun e h =>
 sq (bd (binK 0 .neq (e.s k10 13) (.int .i64 0)) fun t23 =>
 some ⟨.nm, ux10 e 23 t23, h⟩) fun e h =>
 br (e.s k10 23) (sq (some ⟨.nm, ((ux10 e 11 (e.s k10 13)).st 5 .nils).st 6 (e.s k10 13), h⟩) fun e h =>
 some ⟨.rt, e, h⟩)
 (some ⟨.nm, e, h⟩)) fun e h =>
 sq (bc k10 [26, 27, 25, 28, 29, 14, 15] e (K 25 [(e.s k10 1)] h) fun t27 h1 =>
 bd (exV t27 0) fun t28 =>
 bd (exV t27 1) fun t29 =>
 some ⟨.nm, ((ux10 e 15 t29).st 8 t28).st 9 t29, h1⟩) fun e h =>
 sq (blk 0 (sq (bd (binK 0 .neq (e.s k10 15) (.int .i64 0)) fun t32 =>
 some ⟨.nm, ux10 e 30 t32, h⟩) fun e h =>
 br (e.s k10 30) (sq (some ⟨.nm, ((ux10 e 11 (e.s k10 15)).st 5 .nils).st 6 (e.s k10 15), h⟩) fun e h =>
 some ⟨.rt, e, h⟩)
 (sq (bd (binK 0 .lss (e.s k10 2) (.int .i64 0)) fun t36 =>
 bd (gl t36 false (some (e.s k10 2))) fun t38 =>
 bd (gl t36 false (binK 0 .gtr t38 (.int .i64 2))) fun t39 =>
 bd (pk t36 (.bool true) t39) fun t40 =>
 bd (gl t40 false (some (e.s k10 3))) fun t42 =>
 bd (gl t40 false (binK 0 .lss t42 (.int .i64 0))) fun t43 =>
 bd (pk t40 (.bool true) t43) fun t44 =>
 bd (gl t44 false (some (e.s k10 3))) fun t46 =>
 bd (gl t44 false (binK 0 .gtr t46 (.int .i64 2))) fun t47 =>
 bd (pk t44 (.bool true) t47) fun t48 =>
 some ⟨.nm, ux10 e 34 t48, h⟩) fun e h =>
 br (e.s k10 34) (sq (some ⟨.nm, ((ux10 e 11 (.int .i64 2)).st 5 .nils).st 6 (.int .i64 2), h⟩) fun e h =>
 some ⟨.rt, e, h⟩)
 (sq (bc k10 [50, 51, 52, 53, 54, 55, 56, 57, 58, 59, 60, 61, 62, 63, 64, 65, 66, 67, 68, 49] e (K 26 [(e.s k10 0)] h) fun t51 h1 =>
 bd (gl t51 true (some (e.s k10 4))) fun t53 =>
 bd (gl t51 true (lnS t53)) fun t54 =>
 bd (gl t51 true (some (e.s k10 14))) fun t55 =>
 bd (gl t51 true (lnS t55)) fun t56 =>
 bd (gl t51 true (binK 0 .neq t54 t56)) fun t57 =>
 bd (gl t51 true (some t57)) fun t58 =>
 bd (gl t58 false (some (e.s k10 4))) fun t59 =>
 bc k10 [50, 51, 52, 53, 54, 55, 56, 57, 58, 59, 60, 61, 62, 63, 64, 65, 66, 67, 68, 49] e (gk t58 false h1 (K 27 [t59] h1)) fun t60 h2 =>
 bd (gl t58 false (binK 0 .gtr t60 (.int .i64 1048576))) fun t61 =>
 bd (gl t51 true (pk t58 (.bool true) t61)) fun t62 =>
 bd (gl t51 true (some t62)) fun t63 =>
 bd (gl t63 false (some (e.s k10 4))) fun t64 =>
 bc k10 [50, 51, 52, 53, 54, 55, 56, 57, 58, 59, 60, 61, 62, 63, 64, 65, 66, 67, 68, 49] e (gk t63 false h2 (K 28 [t64] h2)) fun t65 h3 =>
 bd (gl t63 false (binK 0 .lss t65 (.int .i64 (-1048576)))) fun t66 =>
 bd (gl t51 true (pk t63 (.bool true) t66)) fun t67 =>
 bd (pk t51 t67 (.bool false)) fun t68 =>
 some ⟨.nm, ux10 e 49 t68, h3⟩) fun e h =>
 br (e.s k10 49) (sq (some ⟨.nm, ((ux10 e 11 (.int .i64 2)).st 5 .nils).st 6 (.int .i64 2), h⟩) fun e h =>
 some ⟨.rt, e, h⟩)
 (some ⟨.nm, e, h⟩))))) fun e h =>
 sq (bd (minV [(e.s k10 2), (.int .i64 1)]) fun t72 =>
 bd (lnS (e.s k10 14)) fun t76 =>
 bf (ms h 3 8 [(.int .i64 0)] t76 t76) fun t77 h1 =>
 bd (bl [.nilp, (.int .i64 0), (.int .i64 0), (.int .i64 0), .nils, .nils, .nils] [(some (0, 1), (e.s k10 0)), (some (1, 1), (e.s k10 1)), (some (2, 1), t72), (some (3, 1), (e.s k10 3)), (some (4, 1), (e.s k10 14)), (some (6, 1), t77)]) fun t78 =>
 bf (bx h1 72 t78) fun t79 h2 =>
 some ⟨.nm, (ux10 e 16 t79).st 10 t79, h2⟩) fun e h =>
 sq (sq (bd (nilC (e.s k10 16)) fun t82 =>
 bd (fa 5 t82) fun t83 =>
 bf (stZ 1 h t83 (e.s k10 4)) fun _ h1 =>
 some ⟨.nm, ux10 e 0 (e.s k10 0), h1⟩) fun e h =>
 sq (bc k10 [84, 85, 86] e (K 26 [(e.s k10 0)] h) fun t85 h1 =>
 bd (unV .not t85) fun t86 =>
 some ⟨.nm, ux10 e 86 t86, h1⟩) fun e h =>
 br (e.s k10 86) (bd (lnS (e.s k10 14)) fun t89 =>
 bf (ms h 3 8 [(.int .i64 0)] t89 t89) fun t90 h1 =>
 bd (nilC (e.s k10 16)) fun t91 =>
 bd (fa 5 t91) fun t92 =>
 bf (stZ 1 h1 t92 t90) fun _ h2 =>
 some ⟨.nm, ux10 e 0 (e.s k10 0), h2⟩)
 (some ⟨.nm, e, h⟩)) fun e h =>
 sq (bc k10 [93, 94, 95, 96, 10, 11] e (K 29 [(e.s k10 16)] h) fun t94 h1 =>
 bd (exV t94 0) fun t95 =>
 bd (exV t94 1) fun t96 =>
 some ⟨.nm, ((ux10 e 11 t96).st 5 t95).st 6 t96, h1⟩) fun e h =>
 some ⟨.rt, e, h⟩
noncomputable def f10 (K : Oracle) (L : Looper) (p0 p1 p2 p3 p4 : V) (h : H) : Option (Rv × H) := fin Try.prog k10 [.tmp 10, .tmp 11] (s10 K L ⟨[p0, p1, p2, p3, p4, V.und, V.und, V.und, V.und, V.und, V.und], 0, p0⟩ h)
theorem r10 : (fun K L p0 p1 p2 p3 p4 h => runFF Try.prog kp K L 10 [p0, p1, p2, p3, p4] h) = f10 := by kernel_rfl

/-- zoetrope/zoetroperef00.EqInts -/
@[simp] def k11 : List Nat := [0, 1, 4, 5]
@[simp] noncomputable def ux11 (e : E) (t : Nat) (v : V) : E := ⟨[(e.s k11 0), (e.s k11 1), (e.s k11 4), (e.s k11 5)], t, v⟩
noncomputable def l11_0 (K : Oracle) (L : Looper) (e : E) (h : H) : Out :=
 sq (sq (bd (lnS (e.s k11 0)) fun t13 =>
 bd (binK 0 .lss (e.s k11 5) t13) fun t14 =>
 some ⟨.nm, ux11 e 14 t14, h⟩) fun e h =>
 br (e.s k11 14) (some ⟨.nm, e, h⟩)
 (some ⟨.ex 0, e, h⟩)) fun e h =>
 sq (blk 1 (sq (bd (iaS 1 (e.s k11 0) (e.s k11 5)) fun t19 =>
 bd (ld h t19) fun t20 =>
 bd (iaS 1 (e.s k11 1) (e.s k11 5)) fun t23 =>
 bd (ld h t23) fun t24 =>
 bd (binK 0 .neq t20 t24) fun t25 =>
 ck (ld h t19) t20 (ck (ld h t23) t24 (some ⟨.nm, ux11 e 25 t25, h⟩))) fun e h =>
 br (e.s k11 25) (sq (some ⟨.nm, (ux11 e 4 (.bool false)).st 2 (.bool false), h⟩) fun e h =>
 some ⟨.rt, e, h⟩)
 (some ⟨.nm, e, h⟩))) fun e h =>
 bd (binK 0 .add (e.s k11 5) (.int .i64 1)) fun t16 =>
 some ⟨.nm, (ux11 e 5 t16).st 3 t16, h⟩
noncomputable def s11 (K : Oracle) (L : Looper) (e : E) (h : H) : Out :=
 sq (some ⟨.nm, (ux11 e 4 (.bool false)).st 2 (.bool false), h⟩) fun e h =>
 sq (sq (bd (lnS (e.s k11 0)) fun t7 =>
 bd (lnS (e.s k11 1)) fun t9 =>
 bd (binK 0 .neq t7 t9) fun t10 =>
 some ⟨.nm, ux11 e 10 t10, h⟩) fun e h =>
 br (e.s k11 10) (sq (some ⟨.nm, (ux11 e 4 (.bool false)).st 2 (.bool false), h⟩) fun e h =>
 some ⟨.rt, e, h⟩)
 (some ⟨.nm, e, h⟩)) fun e h =>
 sq (sq (some ⟨.nm, (ux11 e 5 (.int .i64 0)).st 3 (.int .i64 0), h⟩) fun e h =>
 blk 0 (L (l11_0 K L) e h)) fun e h =>
 sq (some ⟨.nm, (ux11 e 4 (.bool true)).st 2 (.bool true), h⟩) fun e h =>
 some ⟨.rt, e, h⟩
noncomputable def f11 (K : Oracle) (L : Looper) (p0 p1 : V) (h : H) : Option (Rv × H) := fin Try.prog k11 [.tmp 4] (s11 K L ⟨[p0, p1, V.und, V.und], 0, p0⟩ h)
theorem r11 : (fun K L p0 p1 h => runFF Try.prog kp K L 11 [p0, p1] h) = f11 := by kernel_rfl

/-- (*zoetrope/syms.Coder).Bytes -/
@[simp] def k12 : List Nat := [0, 2, 3]
@[simp] noncomputable def ux12 (e : E) (t : Nat) (v : V) : E := ⟨[(e.s k12 0), (e.s k12 2), (e.s k12 3)], t, v⟩
noncomputable def s12 (K : Oracle) (L : Looper) (e : E) (h : H) : Out :=
 sq (some ⟨.nm, ((ux12 e 3 (.int .i64 0)).st 1 .nils).st 2 (.int .i64 0), h⟩) fun e h =>
 sq (blk 0 (sq (bc k12 [5, 6, 4] e (K 30 [(e.s k12 0)] h) fun t6 h1 =>
 some ⟨.nm, ux12 e 4 t6, h1⟩) fun e h =>
 br (e.s k12 4) (sq (some ⟨.nm, ((ux12 e 3 (.int .i64 1)).st 1 .nils).st 2 (.int .i64 1), h⟩) fun e h =>
 some ⟨.rt, e, h⟩)
 (sq (bc k12 [8, 9, 10, 7] e (K 26 [(e.s k12 0)] h) fun t9 h1 =>
 bd (unV .not t9) fun t10 =>
 some ⟨.nm, ux12 e 7 t10, h1⟩) fun e h =>
 br (e.s k12 7) (sq (some ⟨.nm, ((ux12 e 3 (.int .i64 40)).st 1 .nils).st 2 (.int .i64 40), h⟩) fun e h =>
 some ⟨.rt, e, h⟩)
 (some ⟨.nm, e, h⟩)))) fun e h =>
 sq (bd (nilC (e.s k12 0)) fun t12 =>
 bd (fa 0 t12) fun t13 =>
 bd (ld h t13) fun t14 =>
 bc k12 [11, 12, 13, 14, 15, 2, 3] e (K 31 [t14] h) fun t15 h1 =>
 some ⟨.nm, ((ux12 e 3 (.int .i64 0)).st 1 t15).st 2 (.int .i64 0), h1⟩) fun e h =>
 some ⟨.rt, e, h⟩
noncomputable def f12 (K : Oracle) (L : Looper) (p0 : V) (h : H) : Option (Rv × H) := fin Try.prog k12 [.tmp 2, .tmp 3] (s12 K L ⟨[p0, V.und, V.und], 0, p0⟩ h)
theorem r12 : (fun K L p0 h => runFF Try.prog kp K L 12 [p0] h) = f12 := by kernel_rfl

/-- zoetrope/syms.Reader -/
@[simp] def k13 : List Nat := [0, 1, 2, 4, 6, 7, 8]
@[simp] noncomputable def ux13 (e : E) (t : Nat) (v : V) : E := ⟨[(e.s k13 0), (e.s k13 1), (e.s k13 2), (e.s k13 4), (e.s k13 6), (e.s k13 7), (e.s k13 8)], t, v⟩
noncomputable def s13 (K : Oracle) (L : Looper) (e : E) (h : H) : Out :=
 sq (bf (bx h 30 (e.s k13 1)) fun t4 h1 =>
 some ⟨.nm, (((ux13 e 7 (.int .i64 0)).st 3 t4).st 4 .nilp).st 5 (.int .i64 0), h1⟩) fun e h =>
 sq (sq (bd (ldn 1 h (e.s k13 4)) fun t9 =>
 bc k13 [9, 10, 8] e (K 17 [t9] h) fun t10 h1 =>
 some ⟨.nm, (ux13 e 8 t10).st 6 t10, h1⟩) fun e h =>
 sq (bd (binK 0 .neq (e.s k13 8) (.int .i64 0)) fun t12 =>
 some ⟨.nm, ux13 e 12 t12, h⟩) fun e h =>
 br (e.s k13 12) (sq (some ⟨.nm, ((ux13 e 7 (e.s k13 8)).st 4 .nilp).st 5 (e.s k13 8), h⟩) fun e h =>
 some ⟨.rt, e, h⟩)
 (some ⟨.nm, e, h⟩)) fun e h =>
 sq (bd (some (e.s k13 0)) fun t14 =>
 bk (K 32 [t14] h) (fun tp hp =>
 bd (ldn 1 h (e.s k13 4)) fun t16 =>
 bd (some (e.s k13 2)) fun t18 =>
 some ⟨.pn tp, fgE k13 [14, 15, 16, 17, 18, 19, 20, 6, 7] e, hp⟩) fun _ _ =>
 bn (K 32 [(e.s k13 0)] h) fun t15 h1 =>
 bd (ldn 1 h1 (e.s k13 4)) fun t16 =>
 bn (K 19 [t16] h1) fun t17 h2 =>
 bd (bl [.nilp, .nilp, .nils, (.bool false), (.int .i64 0)] [(some (1, 1), t15), (some (2, 1), t17), (some (3, 1), (e.s k13 2))]) fun t19 =>
 bf (bx h2 55 t19) fun t20 h3 =>
 ck (ldn 1 h (e.s k13 4)) t16 (ck (ldn 1 h1 (e.s k13 4)) t16 (some ⟨.nm, ((ux13 e 7 (.int .i64 0)).st 4 t20).st 5 (.int .i64 0), h3⟩))) fun e h =>
 some ⟨.rt, e, h⟩
noncomputable def f13 (K : Oracle) (L : Looper) (p0 p1 p2 : V) (h : H) : Option (Rv × H) := fin Try.prog k13 [.tmp 6, .tmp 7] (s13 K L ⟨[p0, p1, p2, V.und, V.und, V.und, V.und], 0, p0⟩ h)
theorem r13 : (fun K L p0 p1 p2 h => runFF Try.prog kp K L 13 [p0, p1, p2] h) = f13 := by kernel_rfl

/-- (*zoetrope/syms.Coder).Count -/
@[simp] def k14 : List Nat := [0, 2]
@[simp] noncomputable def ux14 (e : E) (t : Nat) (v : V) : E := ⟨[(e.s k14 0), (e.s k14 2)], t, v⟩
noncomputable def s14 (K : Oracle) (L : Looper) (e : E) (h : H) : Out :=
 sq (some ⟨.nm, (ux14 e 2 (.int .i64 0)).st 1 (.int .i64 0), h⟩) fun e h =>
 sq (sq (bc k14 [3, 4] e (K 30 [(e.s k14 0)] h) fun t4 h1 =>
 some ⟨.nm, ux14 e 4 t4, h1⟩) fun e h =>
 br (e.s k14 4) (sq (some ⟨.nm, (ux14 e 2 (.int .i64 0)).st 1 (.int .i64 0), h⟩) fun e h =>
 some ⟨.rt, e, h⟩)
 (some ⟨.nm, e, h⟩)) fun e h =>
 sq (bd (nilC (e.s k14 0)) fun t6 =>
 bd (fa 4 t6) fun t7 =>
 bd (ld h t7) fun t8 =>
 some ⟨.nm, (ux14 e 2 t8).st 1 t8, h⟩) fun e h =>
 some ⟨.rt, e, h⟩
noncomputable def f14 (K : Oracle) (L : Looper) (p0 : V) (h : H) : Option (Rv × H) := fin Try.prog k14 [.tmp 2] (s14 K L ⟨[p0, V.und], 0, p0⟩ h)
theorem r14 : (fun K L p0 h => runFF Try.prog kp K L 14 [p0] h) = f14 := by kernel_rfl

/-- zoetrope/zoetroperef00.Log -/
@[simp] def k15 : List Nat := [0, 2, 3]
@[simp] noncomputable def ux15 (e : E) (t : Nat) (v : V) : E := ⟨[(e.s k15 0), (e.s k15 2), (e.s k15 3)], t, v⟩
noncomputable def l15_0 (K : Oracle) (L : Looper) (e : E) (h : H) : Out :=
 sq (sq (bd (binK 0 .gtr (e.s k15 0) (.int .i64 1)) fun t5 =>
 some ⟨.nm, ux15 e 5 t5, h⟩) fun e h =>
 br (e.s k15 5) (some ⟨.nm, e, h⟩)
 (some ⟨.ex 0, e, h⟩)) fun e h =>
 blk 1 (sq (bd (binK 0 .quo (e.s k15 0) (.int .i64 2)) fun t7 =>
 some ⟨.nm, (ux15 e 0 t7).st 0 t7, h⟩) fun e h =>
 bd (binK 0 .add (e.s k15 3) (.int .i64 1)) fun t9 =>
 some ⟨.nm, (ux15 e 3 t9).st 2 t9, h⟩)
noncomputable def s15 (K : Oracle) (L : Looper) (e : E) (h : H) : Out :=
 sq (some ⟨.nm, (ux15 e 2 (.int .i64 0)).st 1 (.int .i64 0), h⟩) fun e h =>
 sq (some ⟨.nm, (ux15 e 3 (.int .i64 0)).st 2 (.int .i64 0), h⟩) fun e h =>
 sq (blk 0 (L (l15_0 K L) e h)) fun e h =>
 sq (some ⟨.nm, (ux15 e 2 (e.s k15 3)).st 1 (e.s k15 3), h⟩) fun e h =>
 some ⟨.rt, e, h⟩
noncomputable def f15 (K : Oracle) (L : Looper) (p0 : V) (h : H) : Option (Rv × H) := fin Try.prog k15 [.tmp 2] (s15 K L ⟨[p0, V.und, V.und], 0, p0⟩ h)
theorem r15 : (fun K L p0 h => runFF Try.prog kp K L 15 [p0] h) = f15 := by kernel_rfl

/-- zoetrope/coefs.Sign -/
@[simp] def k16 : List Nat := [0, 2]
@[simp] noncomputable def ux16 (e : E) (t : Nat) (v : V) : E := ⟨[(e.s k16 0), (e.s k16 2)], t, v⟩
noncomputable def s16 (K : Oracle) (L : Looper) (e : E) (h : H) : Out :=
 sq (some ⟨.nm, (ux16 e 2 (.int .i64 0)).st 1 (.int .i64 0), h⟩) fun e h =>
 sq (blk 0 (sq (bd (lnS (e.s k16 0)) fun t5 =>
 bd (binK 0 .eql t5 (.int .i64 0)) fun t6 =>
 bd (gl t6 false (some (e.s k16 0))) fun t8 =>
 bd (gl t6 false (iaS 1 t8 (.int .i64 0))) fun t9 =>
 bd (gl t6 false (ld h t9)) fun t10 =>
 bd (gl t6 false (binK 0 .eql t10 (.int .i64 0))) fun t11 =>
 bd (pk t6 (.bool true) t11) fun t12 =>
 some ⟨.nm, ux16 e 3 t12, h⟩) fun e h =>
 br (e.s k16 3) (sq (some ⟨.nm, (ux16 e 2 (.int .i64 0)).st 1 (.int .i64 0), h⟩) fun e h =>
 some ⟨.rt, e, h⟩)
 (sq (bd (iaS 1 (e.s k16 0) (.int .i64 0)) fun t15 =>
 bd (ld h t15) fun t16 =>
 bd (binK 0 .lss t16 (.int .i64 0)) fun t17 =>
 some ⟨.nm, ux16 e 13 t17, h⟩) fun e h =>
 br (e.s k16 13) (sq (some ⟨.nm, (ux16 e 2 (.int .i64 1)).st 1 (.int .i64 1), h⟩) fun e h =>
 some ⟨.rt, e, h⟩)
 (some ⟨.nm, e, h⟩)))) fun e h =>
 sq (some ⟨.nm, (ux16 e 2 (.int .i64 2)).st 1 (.int .i64 2), h⟩) fun e h =>
 some ⟨.rt, e, h⟩
noncomputable def f16 (K : Oracle) (L : Looper) (p0 : V) (h : H) : Option (Rv × H) := fin Try.prog k16 [.tmp 2] (s16 K L ⟨[p0, V.und], 0, p0⟩ h)
theorem r16 : (fun K L p0 h => runFF Try.prog kp K L 16 [p0] h) = f16 := by kernel_rfl

/-- zoetrope/syms.Check -/
@[simp] def k17 : List Nat := [0, 1, 2, 3, 4, 6, 11, 12, 29, 30, 31]
@[simp] noncomputable def ux17 (e : E) (t : Nat) (v : V) : E := ⟨[(e.s k17 0), (e.s k17 1), (e.s k17 2), (e.s k17 3), (e.s k17 4), (e.s k17 6), (e.s k17 11), (e.s k17 12), (e.s k17 29), (e.s k17 30), (e.s k17 31)], t, v⟩
noncomputable def l17_0 (K : Oracle) (L : Looper) (e : E) (h : H) : Out :=
 sq (bd (binK 0 .lss (e.s k17 31) (e.s k17 30)) fun t32 =>
 some ⟨.nm, ux17 e 32 t32, h⟩) fun e h =>
 sq (br (e.s k17 32) (some ⟨.nm, e, h⟩)
 (some ⟨.ex 2, e, h⟩)) fun e h =>
 sq (blk 3 (sq (bd (iaS 2 (e.s k17 29) (e.s k17 31)) fun t33 =>
 bd (ldn 2 h t33) fun t34 =>
 bf (nw h 64 [.nils, (.int .i64 0)]) fun t6 h1 =>
 bf (stZ 2 h1 t6 t34) fun _ h2 =>
 some ⟨.nm, (ux17 e 0 (e.s k17 0)).st 5 t6, h2⟩) fun e h =>
 sq (bd (fa 0 (e.s k17 6)) fun t35 =>
 bd (ld h t35) fun t36 =>
 bd (lnS t36) fun t37 =>
 bd (fa 1 (e.s k17 4)) fun t38 =>
 bd (ld h t38) fun t39 =>
 bd (binK 0 .neq t37 t39) fun t40 =>
 bd (gl t40 false (ldn 2 h (e.s k17 6))) fun t42 =>
 bc k17 [35, 36, 37, 38, 39, 40, 41, 42, 43, 44, 45] e (gk t40 false h (K 33 [t42] h)) fun t43 h1 =>
 bd (gl t40 false (binK 0 .neq t43 (.int .i64 0))) fun t44 =>
 bd (pk t40 (.bool true) t44) fun t45 =>
 some ⟨.nm, ux17 e 45 t45, h1⟩) fun e h =>
 br (e.s k17 45) (sq (some ⟨.nm, (ux17 e 2 (.int .i64 2)).st 2 (.int .i64 2), h⟩) fun e h =>
 some ⟨.rt, e, h⟩)
 (some ⟨.nm, e, h⟩))) fun e h =>
 bd (binK 0 .add (e.s k17 31) (.int .i64 1)) fun t46 =>
 some ⟨.nm, (ux17 e 31 t46).st 10 t46, h⟩
noncomputable def l17_1 (K : Oracle) (L : Looper) (e : E) (h : H) : Out :=
 sq (bd (binK 0 .lss (e.s k17 12) (.int .i64 32)) fun t13 =>
 some ⟨.nm, ux17 e 13 t13, h⟩) fun e h =>
 sq (br (e.s k17 13) (some ⟨.nm, e, h⟩)
 (some ⟨.ex 0, e, h⟩)) fun e h =>
 sq (blk 1 (sq (bd (ixN 32 3 (e.s k17 11) (e.s k17 12)) fun t15 =>
 bf (nw h 57 [(.int .i64 0), (.int .i64 0), (.bool false)]) fun t4 h1 =>
 bf (stZ 3 h1 t4 t15) fun _ h2 =>
 some ⟨.nm, ((ux17 e 0 (e.s k17 0)).st 3 (e.s k17 12)).st 4 t4, h2⟩) fun e h =>
 sq (sq (bd (fa 0 (e.s k17 1)) fun t16 =>
 bd (ld h t16) fun t17 =>
 bd (iaS 1 t17 (e.s k17 3)) fun t19 =>
 bd (ld h t19) fun t20 =>
 bd (lnS t20) fun t21 =>
 bd (fa 0 (e.s k17 4)) fun t22 =>
 bd (ld h t22) fun t23 =>
 bd (binK 0 .neq t21 t23) fun t24 =>
 ck (ld h t16) t17 (ck (ld h t19) t20 (ck (ld h t22) t23 (some ⟨.nm, ux17 e 24 t24, h⟩)))) fun e h =>
 br (e.s k17 24) (sq (some ⟨.nm, (ux17 e 2 (.int .i64 2)).st 2 (.int .i64 2), h⟩) fun e h =>
 some ⟨.rt, e, h⟩)
 (some ⟨.nm, e, h⟩)) fun e h =>
 sq (bd (fa 0 (e.s k17 1)) fun t25 =>
 bd (ld h t25) fun t26 =>
 bd (iaS 1 t26 (e.s k17 3)) fun t28 =>
 bd (ld h t28) fun t29 =>
 bd (lnS t29) fun t30 =>
 some ⟨.nm, (((ux17 e 31 (.int .i64 0)).st 8 t29).st 9 t30).st 10 (.int .i64 0), h⟩) fun e h =>
 blk 2 (L (l17_0 K L) e h))) fun e h =>
 bd (binK 0 .add (e.s k17 12) (.int .i64 1)) fun t47 =>
 some ⟨.nm, (ux17 e 12 t47).st 7 t47, h⟩
noncomputable def s17 (K : Oracle) (L : Looper) (e : E) (h : H) : Out :=
 sq (bf (bx h 30 (e.s k17 0)) fun t1 h1 =>
 some ⟨.nm, ((ux17 e 2 (.int .i64 0)).st 1 t1).st 2 (.int .i64 0), h1⟩) fun e h =>
 sq (sq (bd (fa 0 (e.s k17 1)) fun t7 =>
 bd (ld h t7) fun t8 =>
 bd (lnS t8) fun t9 =>
 bd (binK 0 .neq t9 (.int .i64 32)) fun t10 =>
 some ⟨.nm, ux17 e 10 t10, h⟩) fun e h =>
 br (e.s k17 10) (sq (some ⟨.nm, (ux17 e 2 (.int .i64 2)).st 2 (.int .i64 2), h⟩) fun e h =>
 some ⟨.rt, e, h⟩)
 (some ⟨.nm, e, h⟩)) fun e h =>
 sq (sq (bc k17 [11, 12] e (K 20 [] h) fun t11 h1 =>
 some ⟨.nm, ((ux17 e 12 (.int .i64 0)).st 6 t11).st 7 (.int .i64 0), h1⟩) fun e h =>
 blk 0 (L (l17_1 K L) e h)) fun e h =>
 sq (some ⟨.nm, (ux17 e 2 (.int .i64 0)).st 2 (.int .i64 0), h⟩) fun e h =>
 some ⟨.rt, e, h⟩
noncomputable def f17 (K : Oracle) (L : Looper) (p0 : V) (h : H) : Option (Rv × H) := fin Try.prog k17 [.tmp 2] (s17 K L ⟨[p0, V.und, V.und, V.und, V.und, V.und, V.und, V.und, V.und, V.und, V.und], 0, p0⟩ h)
theorem r17 : (fun K L p0 h => runFF Try.prog kp K L 17 [p0] h) = f17 := by kernel_rfl

/-- zoetrope/rac.New -/
@[simp] def k18 : List Nat := [0]
@[simp] noncomputable def ux18 (e : E) (t : Nat) (v : V) : E := ⟨[(e.s k18 0)], t, v⟩
noncomputable def s18 (K : Oracle) (L : Looper) (e : E) (h : H) : Out :=
 sq (some ⟨.nm, ⟨[.nilp], 0, .nilp⟩, h⟩) fun e h =>
 sq (bd (bl [.nils, (.int .u64 0), (.int .u32 0)] [(some (2, 1), (.int .u32 4294967295))]) fun t1 =>
 bf (bx h 80 t1) fun t2 h1 =>
 some ⟨.nm, ⟨[t2], 0, t2⟩, h1⟩) fun e h =>
 some ⟨.rt, e, h⟩
noncomputable def f18 (K : Oracle) (L : Looper) (h : H) : Option (Rv × H) := fin Try.prog k18 [.tmp 0] (s18 K L ⟨[V.und], 0, V.und⟩ h)
theorem r18 : (fun K L h => runFF Try.prog kp K L 18 [] h) = f18 := by kernel_rfl

/-- zoetrope/syms.Copy -/
@[simp] def k19 : List Nat := [0, 1, 2, 3, 4, 5, 6, 13, 14, 15, 27, 28]
@[simp] noncomputable def ux19 (e : E) (t : Nat) (v : V) : E := ⟨[(e.s k19 0), (e.s k19 1), (e.s k19 2), (e.s k19 3), (e.s k19 4), (e.s k19 5), (e.s k19 6), (e.s k19 13), (e.s k19 14), (e.s k19 15), (e.s k19 27), (e.s k19 28)], t, v⟩
noncomputable def l19_0 (K : Oracle) (L : Looper) (e : E) (h : H) : Out :=
 sq (bd (binK 0 .lss (e.s k19 28) (e.s k19 27)) fun t29 =>
 some ⟨.nm, ux19 e 29 t29, h⟩) fun e h =>
 sq (br (e.s k19 29) (some ⟨.nm, e, h⟩)
 (some ⟨.ex 2, e, h⟩)) fun e h =>
 sq (blk 3 (sq (some ⟨.nm, (ux19 e 6 (e.s k19 28)).st 6 (e.s k19 28), h⟩) fun e h =>
 bd (some (e.s k19 5)) fun t37 =>
 bd (some (e.s k19 6)) fun t38 =>
 bd (iaS 2 t37 t38) fun t39 =>
 bd (fa 0 t39) fun t40 =>
 bd (ld h t40) fun t41 =>
 bk (K 35 [t41] h) (fun tp hp =>
 bd (fa 0 (e.s k19 3)) fun t31 =>
 bd (ld h t31) fun t32 =>
 bd (some (e.s k19 4)) fun t33 =>
 bd (iaS 1 t32 t33) fun t34 =>
 bd (ld h t34) fun t35 =>
 bd (some (e.s k19 6)) fun t36 =>
 some ⟨.pn tp, fgE k19 [31, 32, 33, 34, 35, 36, 37, 38, 39, 40, 41, 42, 43, 44] e, hp⟩) fun _ _ =>
 bd (iaS 2 (e.s k19 5) (e.s k19 6)) fun t39 =>
 bd (fa 0 t39) fun t40 =>
 bd (ld h t40) fun t41 =>
 bn (K 35 [t41] h) fun t42 h1 =>
 bd (fa 0 (e.s k19 3)) fun t31 =>
 bd (ld h1 t31) fun t32 =>
 bd (iaS 1 t32 (e.s k19 4)) fun t34 =>
 bd (ld h1 t34) fun t35 =>
 bd (iaS 2 t35 (e.s k19 6)) fun t43 =>
 bd (fa 0 t43) fun t44 =>
 bf (stZ 1 h1 t44 t42) fun _ h2 =>
 ck (ld h t31) t32 (ck (ld h1 t31) t32 (ck (ld h t34) t35 (ck (ld h1 t34) t35 (ck (ld h t40) t41 (some ⟨.nm, ux19 e 0 (e.s k19 0), h2⟩))))))) fun e h =>
 bd (binK 0 .add (e.s k19 28) (.int .i64 1)) fun t45 =>
 some ⟨.nm, (ux19 e 28 t45).st 11 t45, h⟩
noncomputable def l19_1 (K : Oracle) (L : Looper) (e : E) (h : H) : Out :=
 sq (bd (binK 0 .lss (e.s k19 15) (e.s k19 14)) fun t16 =>
 some ⟨.nm, ux19 e 16 t16, h⟩) fun e h =>
 sq (br (e.s k19 16) (some ⟨.nm, e, h⟩)
 (some ⟨.ex 0, e, h⟩)) fun e h =>
 sq (blk 1 (sq (bd (iaS 1 (e.s k19 13) (e.s k19 15)) fun t18 =>
 bd (ld h t18) fun t19 =>
 some ⟨.nm, ((ux19 e 5 t19).st 4 (e.s k19 15)).st 5 t19, h⟩) fun e h =>
 sq (bd (some (e.s k19 5)) fun t23 =>
 bk (K 34 [t23] h) (fun tp hp =>
 bd (fa 0 (e.s k19 3)) fun t20 =>
 bd (ld h t20) fun t21 =>
 bd (some (e.s k19 4)) fun t22 =>
 some ⟨.pn tp, fgE k19 [20, 21, 22, 23, 24, 25] e, hp⟩) fun _ _ =>
 bn (K 34 [(e.s k19 5)] h) fun t24 h1 =>
 bd (fa 0 (e.s k19 3)) fun t20 =>
 bd (ld h1 t20) fun t21 =>
 bd (iaS 1 t21 (e.s k19 4)) fun t25 =>
 bf (stZ 1 h1 t25 t24) fun _ h2 =>
 ck (ld h t20) t21 (ck (ld h1 t20) t21 (some ⟨.nm, ux19 e 0 (e.s k19 0), h2⟩))) fun e h =>
 sq (bd (lnS (e.s k19 5)) fun t27 =>
 some ⟨.nm, ((ux19 e 28 (.int .i64 0)).st 10 t27).st 11 (.int .i64 0), h⟩) fun e h =>
 blk 2 (L (l19_0 K L) e h))) fun e h =>
 bd (binK 0 .add (e.s k19 15) (.int .i64 1)) fun t46 =>
 some ⟨.nm, (ux19 e 15 t46).st 9 t46, h⟩
noncomputable def s19 (K : Oracle) (L : Looper) (e : E) (h : H) : Out :=
 sq (bf (bx h 30 (e.s k19 0)) fun t1 h1 =>
 bf (nw h1 30 [.nils]) fun t2 h2 =>
 some ⟨.nm, ((ux19 e 2 t2).st 1 t1).st 2 t2, h2⟩) fun e h =>
 sq (bd (fa 0 (e.s k19 1)) fun t7 =>
 bd (ld h t7) fun t8 =>
 bd (lnS t8) fun t9 =>
 bf (ms h 61 24 [.nils] t9 t9) fun t10 h1 =>
 bd (bl [.nils] [(some (0, 1), t10)]) fun t11 =>
 bf (nw h1 30 [.nils]) fun t3 h2 =>
 bf (stZ 1 h2 t3 t11) fun _ h3 =>
 some ⟨.nm, (ux19 e 0 (e.s k19 0)).st 3 t3, h3⟩) fun e h =>
 sq (sq (bd (fa 0 (e.s k19 1)) fun t12 =>
 bd (ld h t12) fun t13 =>
 bd (lnS t13) fun t14 =>
 some ⟨.nm, (((ux19 e 15 (.int .i64 0)).st 7 t13).st 8 t14).st 9 (.int .i64 0), h⟩) fun e h =>
 blk 0 (L (l19_1 K L) e h)) fun e h =>
 sq (bd (ldn 1 h (e.s k19 3)) fun t47 =>
 bf (stZ 1 h (e.s k19 2) t47) fun _ h1 =>
 some ⟨.nm, ux19 e 0 (e.s k19 0), h1⟩) fun e h =>
 some ⟨.rt, e, h⟩
noncomputable def f19 (K : Oracle) (L : Looper) (p0 : V) (h : H) : Option (Rv × H) := fin Try.prog k19 [.cell 2 30] (s19 K L ⟨[p0, V.und, V.und, V.und, V.und, V.und, V.und, V.und, V.und, V.und, V.und, V.und], 0, p0⟩ h)
theorem r19 : (fun K L p0 h => runFF Try.prog kp K L 19 [p0] h) = f19 := by kernel_rfl

/-- zoetrope/syms.shapes -/
@[simp] def k20 : List Nat := [0]
@[simp] noncomputable def ux20 (e : E) (t : Nat) (v : V) : E := ⟨[(e.s k20 0)], t, v⟩
noncomputable def s20 (K : Oracle) (L : Looper) (e : E) (h : H) : Out :=
 sq (bf (nw h 58 [(.int .i64 0), (.int .i64 0), (.bool false), (.int .i64 0), (.int .i64 0), (.bool false), (.int .i64 0), (.int .i64 0), (.bool false), (.int .i64 0), (.int .i64 0), (.bool false), (.int .i64 0), (.int .i64 0), (.bool false), (.int .i64 0), (.int .i64 0), (.bool false), (.int .i64 0), (.int .i64 0), (.bool false), (.int .i64 0), (.int .i64 0), (.bool false), (.int .i64 0), (.int .i64 0), (.bool false), (.int .i64 0), (.int .i64 0), (.bool false), (.int .i64 0), (.int .i64 0), (.bool false), (.int .i64 0), (.int .i64 0), (.bool false), (.int .i64 0), (.int .i64 0), (.bool false), (.int .i64 0), (.int .i64 0), (.bool false), (.int .i64 0), (.int .i64 0), (.bool false), (.int .i64 0), (.int .i64 0), (.bool false), (.int .i64 0), (.int .i64 0), (.bool false), (.int .i64 0), (.int .i64 0), (.bool false), (.int .i64 0), (.int .i64 0), (.bool false), (.int .i64 0), (.int .i64 0), (.bool false), (.int .i64 0), (.int .i64 0), (.bool false), (.int .i64 0), (.int .i64 0), (.bool false), (.int .i64 0), (.int .i64 0), (.bool false), (.int .i64 0), (.int .i64 0), (.bool false), (.int .i64 0), (.int .i64 0), (.bool false), (.int .i64 0), (.int .i64 0), (.bool false), (.int .i64 0), (.int .i64 0), (.bool false), (.int .i64 0), (.int .i64 0), (.bool false), (.int .i64 0), (.int .i64 0), (.bool false), (.int .i64 0), (.int .i64 0), (.bool false), (.int .i64 0), (.int .i64 0), (.bool false), (.int .i64 0), (.int .i64 0), (.bool false)]) fun t0 h1 =>
 some ⟨.nm, ⟨[t0], 0, t0⟩, h1⟩) fun e h =>
 sq (bd (bl [(.int .i64 0), (.int .i64 0), (.bool false)] [(some (0, 1), (.int .i64 8)), (some (1, 1), (.int .i64 10)), (some (2, 1), (.bool false))]) fun t1 =>
 bd (bl [(.int .i64 0), (.int .i64 0), (.bool false)] [(some (0, 1), (.int .i64 4)), (some (1, 1), (.int .i64 8)), (some (2, 1), (.bool false))]) fun t2 =>
 bd (bl [(.int .i64 0), (.int .i64 0), (.bool false)] [(some (0, 1), (.int .i64 3)), (some (1, 1), (.int .i64 2)), (some (2, 1), (.bool false))]) fun t3 =>
 bd (bl [(.int .i64 0), (.int .i64 0), (.bool false)] [(some (0, 1), (.int .i64 3)), (some (1, 1), (.int .i64 2)), (some (2, 1), (.bool false))]) fun t4 =>
 bd (bl [(.int .i64 0), (.int .i64 0), (.bool false)] [(some (0, 1), (.int .i64 4)), (some (1, 1), (.int .i64 13)), (some (2, 1), (.bool false))]) fun t5 =>
 bd (bl [(.int .i64 0), (.int .i64 0), (.bool false)] [(some (0, 1), (.int .i64 8)), (some (1, 1), (.int .i64 7)), (some (2, 1), (.bool false))]) fun t6 =>
 bd (bl [(.int .i64 0), (.int .i64 0), (.bool false)] [(some (0, 1), (.int .i64 1)), (some (1, 1), (.int .i64 13)), (some (2, 1), (.bool false))]) fun t7 =>
 bd (bl [(.int .i64 0), (.int .i64 0), (.bool false)] [(some (0, 1), (.int .i64 1)), (some (1, 1), (.int .i64 14)), (some (2, 1), (.bool false))]) fun t8 =>
 bd (bl [(.int .i64 0), (.int .i64 0), (.bool false)] [(some (0, 1), (.int .i64 1)), (some (1, 1), (.int .i64 8)), (some (2, 1), (.bool false))]) fun t9 =>
 bd (bl [(.int .i64 0), (.int .i64 0), (.bool false)] [(some (0, 1), (.int .i64 2)), (some (1, 1), (.int .i64 16)), (some (2, 1), (.bool true))]) fun t10 =>
 bd (bl [(.int .i64 0), (.int .i64 0), (.bool false)] [(some (0, 1), (.int .i64 1)), (some (1, 1), (.int .i64 2)), (some (2, 1), (.bool false))]) fun t11 =>
 bd (bl [(.int .i64 0), (.int .i64 0), (.bool false)] [(some (0, 1), (.int .i64 3)), (some (1, 1), (.int .i64 3)), (some (2, 1), (.bool false))]) fun t12 =>
 bd (bl [(.int .i64 0), (.int .i64 0), (.bool false)] [(some (0, 1), (.int .i64 3)), (some (1, 1), (.int .i64 9)), (some (2, 1), (.bool false))]) fun t13 =>
 bd (bl [(.int .i64 0), (.int .i64 0), (.bool false)] [(some (0, 1), (.int .i64 1)), (some (1, 1), (.int .i64 2)), (some (2, 1), (.bool false))]) fun t14 =>
 bd (bl [(.int .i64 0), (.int .i64 0), (.bool false)] [(some (0, 1), (.int .i64 3)), (some (1, 1), (.int .i64 3)), (some (2, 1), (.bool false))]) fun t15 =>
 bd (bl [(.int .i64 0), (.int .i64 0), (.bool false)] [(some (0, 1), (.int .i64 1)), (some (1, 1), (.int .i64 2)), (some (2, 1), (.bool false))]) fun t16 =>
 bd (bl [(.int .i64 0), (.int .i64 0), (.bool false)] [(some (0, 1), (.int .i64 3)), (some (1, 1), (.int .i64 4)), (some (2, 1), (.bool false))]) fun t17 =>
 bd (bl [(.int .i64 0), (.int .i64 0), (.bool false)] [(some (0, 1), (.int .i64 1)), (some (1, 1), (.int .i64 4)), (some (2, 1), (.bool false))]) fun t18 =>
 bd (bl [(.int .i64 0), (.int .i64 0), (.bool false)] [(some (0, 1), (.int .i64 2)), (some (1, 1), (.int .i64 11)), (some (2, 1), (.bool true))]) fun t19 =>
 bd (bl [(.int .i64 0), (.int .i64 0), (.bool false)] [(some (0, 1), (.int .i64 2)), (some (1, 1), (.int .i64 8)), (some (2, 1), (.bool false))]) fun t20 =>
 bd (bl [(.int .i64 0), (.int .i64 0), (.bool false)] [(some (0, 1), (.int .i64 1)), (some (1, 1), (.int .i64 3)), (some (2, 1), (.bool false))]) fun t21 =>
 bd (bl [(.int .i64 0), (.int .i64 0), (.bool false)] [(some (0, 1), (.int .i64 1)), (some (1, 1), (.int .i64 2)), (some (2, 1), (.bool false))]) fun t22 =>
 bd (bl [(.int .i64 0), (.int .i64 0), (.bool false)] [(some (0, 1), (.int .i64 4)), (some (1, 1), (.int .i64 2)), (some (2, 1), (.bool false))]) fun t23 =>
 bd (bl [(.int .i64 0), (.int .i64 0), (.bool false)] [(some (0, 1), (.int .i64 2)), (some (1, 1), (.int .i64 5)), (some (2, 1), (.bool false))]) fun t24 =>
 bd (bl [(.int .i64 0), (.int .i64 0), (.bool false)] [(some (0, 1), (.int .i64 2)), (some (1, 1), (.int .i64 7)), (some (2, 1), (.bool false))]) fun t25 =>
 bd (bl [(.int .i64 0), (.int .i64 0), (.bool false)] [(some (0, 1), (.int .i64 2)), (some (1, 1), (.int .i64 9)), (some (2, 1), (.bool false))]) fun t26 =>
 bd (bl [(.int .i64 0), (.int .i64 0), (.bool false)] [(some (0, 1), (.int .i64 2)), (some (1, 1), (.int .i64 11)), (some (2, 1), (.bool false))]) fun t27 =>
 bd (bl [(.int .i64 0), (.int .i64 0), (.bool false)] [(some (0, 1), (.int .i64 2)), (some (1, 1), (.int .i64 3)), (some (2, 1), (.bool true))]) fun t28 =>
 bd (bl [(.int .i64 0), (.int .i64 0), (.bool false)] [(some (0, 1), (.int .i64 10)), (some (1, 1), (.int .i64 4)), (some (2, 1), (.bool true))]) fun t29 =>
 bd (bl [(.int .i64 0), (.int .i64 0), (.bool false)] [(some (0, 1), (.int .i64 14)), (some (1, 1), (.int .i64 4)), (some (2, 1), (.bool true))]) fun t30 =>
 bd (bl [(.int .i64 0), (.int .i64 0), (.bool false)] [(some (0, 1), (.int .i64 6)), (some (1, 1), (.int .i64 2)), (some (2, 1), (.bool false))]) fun t31 =>
 bd (bl [(.int .i64 0), (.int .i64 0), (.bool false)] [(some (0, 1), (.int .i64 3)), (some (1, 1), (.int .i64 2)), (some (2, 1), (.bool false))]) fun t32 =>
 bd (bl [(.int .i64 0), (.int .i64 0), (.bool false), (.int .i64 0), (.int .i64 0), (.bool false), (.int .i64 0), (.int .i64 0), (.bool false), (.int .i64 0), (.int .i64 0), (.bool false), (.int .i64 0), (.int .i64 0), (.bool false), (.int .i64 0), (.int .i64 0), (.bool false), (.int .i64 0), (.int .i64 0), (.bool false), (.int .i64 0), (.int .i64 0), (.bool false), (.int .i64 0), (.int .i64 0), (.bool false), (.int .i64 0), (.int .i64 0), (.bool false), (.int .i64 0), (.int .i64 0), (.bool false), (.int .i64 0), (.int .i64 0), (.bool false), (.int .i64 0), (.int .i64 0), (.bool false), (.int .i64 0), (.int .i64 0), (.bool false), (.int .i64 0), (.int .i64 0), (.bool false), (.int .i64 0), (.int .i64 0), (.bool false), (.int .i64 0), (.int .i64 0), (.bool false), (.int .i64 0), (.int .i64 0), (.bool false), (.int .i64 0), (.int .i64 0), (.bool false), (.int .i64 0), (.int .i64 0), (.bool false), (.int .i64 0), (.int .i64 0), (.bool false), (.int .i64 0), (.int .i64 0), (.bool false), (.int .i64 0), (.int .i64 0), (.bool false), (.int .i64 0), (.int .i64 0), (.bool false), (.int .i64 0), (.int .i64 0), (.bool false), (.int .i64 0), (.int .i64 0), (.bool false), (.int .i64 0), (.int .i64 0), (.bool false), (.int .i64 0), (.int .i64 0), (.bool false), (.int .i64 0), (.int .i64 0), (.bool false), (.int .i64 0), (.int .i64 0), (.bool false), (.int .i64 0), (.int .i64 0), (.bool false), (.int .i64 0), (.int .i64 0), (.bool false)] [(some (0, 3), t1), (some (3, 3), t2), (some (6, 3), t3), (some (9, 3), t4), (some (12, 3), t5), (some (15, 3), t6), (some (18, 3), t7), (some (21, 3), t8), (some (24, 3), t9), (some (27, 3), t10), (some (30, 3), t11), (some (33, 3), t12), (some (36, 3), t13), (some (39, 3), t14), (some (42, 3), t15), (some (45, 3), t16), (some (48, 3), t17), (some (51, 3), t18), (some (54, 3), t19), (some (57, 3), t20), (some (60, 3), t21), (some (63, 3), t22), (some (66, 3), t23), (some (69, 3), t24), (some (72, 3), t25), (some (75, 3), t26), (some (78, 3), t27), (some (81, 3), t28), (some (84, 3), t29), (some (87, 3), t30), (some (90, 3), t31), (some (93, 3), t32)]) fun t33 =>
 bf (stZ 96 h (e.s k20 0) t33) fun _ h1 =>
 some ⟨.nm, ⟨[(e.s k20 0)], 0, (e.s k20 0)⟩, h1⟩) fun e h =>
 some ⟨.rt, e, h⟩
noncomputable def f20 (K : Oracle) (L : Looper) (h : H) : Option (Rv × H) := fin Try.prog k20 [.cell 0 58] (s20 K L ⟨[V.und], 0, V.und⟩ h)
theorem r20 : (fun K L h => runFF Try.prog kp K L 20 [] h) = f20 := by kernel_rfl

/-- zoetrope/cdf.Flat -/
@[simp] def k21 : List Nat := [0, 2, 3, 4, 5, 15, 16]
@[simp] noncomputable def ux21 (e : E) (t : Nat) (v : V) : E := ⟨[(e.s k21 0), (e.s k21 2), (e.s k21 3), (e.s k21 4), (e.s k21 5), (e.s k21 15), (e.s k21 16)], t, v⟩
noncomputable def l21_0 (K : Oracle) (L : Looper) (e : E) (h : H) : Out :=
 sq (bd (binK 0 .lss (e.s k21 16) (e.s k21 15)) fun t17 =>
 some ⟨.nm, ux21 e 17 t17, h⟩) fun e h =>
 sq (br (e.s k21 17) (some ⟨.nm, e, h⟩)
 (some ⟨.ex 0, e, h⟩)) fun e h =>
 sq (blk 1 (sq (some ⟨.nm, (ux21 e 5 (e.s k21 16)).st 4 (e.s k21 16), h⟩) fun e h =>
 bd (fa 0 (e.s k21 4)) fun t19 =>
 bd (ld h t19) fun t20 =>
 bd (binK 0 .add (e.s k21 5) (.int .i64 1)) fun t23 =>
 bd (binK 0 .mul (.int .i64 32768) t23) fun t24 =>
 bd (binK 0 .quo t24 (e.s k21 0)) fun t26 =>
 bd (cv .u16 t26) fun t27 =>
 bd (iaS 1 t20 (e.s k21 5)) fun t28 =>
 bf (stZ 1 h t28 t27) fun _ h1 =>
 ck (ld h t19) t20 (some ⟨.nm, ux21 e 0 (e.s k21 0), h1⟩))) fun e h =>
 bd (binK 0 .add (e.s k21 16) (.int .i64 1)) fun t29 =>
 some ⟨.nm, (ux21 e 16 t29).st 6 t29, h⟩
noncomputable def s21 (K : Oracle) (L : Looper) (e : E) (h : H) : Out :=
 sq (bf (nw h 64 [.nils, (.int .i64 0)]) fun t2 h1 =>
 some ⟨.nm, ((ux21 e 3 (.int .i64 0)).st 1 t2).st 2 (.int .i64 0), h1⟩) fun e h =>
 sq (sq (bc k21 [6, 7, 8] e (K 36 [(e.s k21 0)] h) fun t7 h1 =>
 bd (unV .not t7) fun t8 =>
 some ⟨.nm, ux21 e 8 t8, h1⟩) fun e h =>
 br (e.s k21 8) (sq (bd (bl [.nils, (.int .i64 0)] []) fun t9 =>
 bf (stZ 2 h (e.s k21 2) t9) fun _ h1 =>
 some ⟨.nm, (ux21 e 3 (.int .i64 2)).st 2 (.int .i64 2), h1⟩) fun e h =>
 some ⟨.rt, e, h⟩)
 (some ⟨.nm, e, h⟩)) fun e h =>
 sq (bf (ms h 83 2 [(.int .u16 0)] (e.s k21 0) (e.s k21 0)) fun t11 h1 =>
 bd (bl [.nils, (.int .i64 0)] [(some (0, 1), t11)]) fun t12 =>
 bf (nw h1 64 [.nils, (.int .i64 0)]) fun t4 h2 =>
 bf (stZ 2 h2 t4 t12) fun _ h3 =>
 some ⟨.nm, (ux21 e 0 (e.s k21 0)).st 3 t4, h3⟩) fun e h =>
 sq (sq (bd (fa 0 (e.s k21 4)) fun t13 =>
 bd (ld h t13) fun t14 =>
 bd (lnS t14) fun t15 =>
 some ⟨.nm, ((ux21 e 16 (.int .i64 0)).st 5 t15).st 6 (.int .i64 0), h⟩) fun e h =>
 blk 0 (L (l21_0 K L) e h)) fun e h =>
 sq (bd (ldn 2 h (e.s k21 4)) fun t30 =>
 bf (stZ 2 h (e.s k21 2) t30) fun _ h1 =>
 some ⟨.nm, (ux21 e 3 (.int .i64 0)).st 2 (.int .i64 0), h1⟩) fun e h =>
 some ⟨.rt, e, h⟩
noncomputable def f21 (K : Oracle) (L : Looper) (p0 : V) (h : H) : Option (Rv × H) := fin Try.prog k21 [.cell 2 64, .tmp 3] (s21 K L ⟨[p0, V.und, V.und, V.und, V.und, V.und, V.und], 0, p0⟩ h)
theorem r21 : (fun K L p0 h => runFF Try.prog kp K L 21 [p0] h) = f21 := by kernel_rfl

/-- zoetrope/cdf.Steep -/
@[simp] def k22 : List Nat := [0, 2, 3, 4, 5, 15, 16]
@[simp] noncomputable def ux22 (e : E) (t : Nat) (v : V) : E := ⟨[(e.s k22 0), (e.s k22 2), (e.s k22 3), (e.s k22 4), (e.s k22 5), (e.s k22 15), (e.s k22 16)], t, v⟩
noncomputable def l22_0 (K : Oracle) (L : Looper) (e : E) (h : H) : Out :=
 sq (bd (binK 0 .lss (e.s k22 16) (e.s k22 15)) fun t17 =>
 some ⟨.nm, ux22 e 17 t17, h⟩) fun e h =>
 sq (br (e.s k22 17) (some ⟨.nm, e, h⟩)
 (some ⟨.ex 0, e, h⟩)) fun e h =>
 sq (blk 1 (sq (some ⟨.nm, (ux22 e 5 (e.s k22 16)).st 4 (e.s k22 16), h⟩) fun e h =>
 bd (fa 0 (e.s k22 4)) fun t19 =>
 bd (ld h t19) fun t20 =>
 bd (binK 0 .add (e.s k22 5) (.int .i64 1)) fun t23 =>
 bd (binK 0 .shr (.int .u16 32768) t23) fun t24 =>
 bd (binK 0 .sub (.int .u16 32768) t24) fun t25 =>
 bd (iaS 1 t20 (e.s k22 5)) fun t26 =>
 bf (stZ 1 h t26 t25) fun _ h1 =>
 ck (ld h t19) t20 (some ⟨.nm, ux22 e 0 (e.s k22 0), h1⟩))) fun e h =>
 bd (binK 0 .add (e.s k22 16) (.int .i64 1)) fun t27 =>
 some ⟨.nm, (ux22 e 16 t27).st 6 t27, h⟩
noncomputable def s22 (K : Oracle) (L : Looper) (e : E) (h : H) : Out :=
 sq (bf (nw h 64 [.nils, (.int .i64 0)]) fun t2 h1 =>
 some ⟨.nm, ((ux22 e 3 (.int .i64 0)).st 1 t2).st 2 (.int .i64 0), h1⟩) fun e h =>
 sq (sq (bc k22 [6, 7, 8] e (K 36 [(e.s k22 0)] h) fun t7 h1 =>
 bd (unV .not t7) fun t8 =>
 some ⟨.nm, ux22 e 8 t8, h1⟩) fun e h =>
 br (e.s k22 8) (sq (bd (bl [.nils, (.int .i64 0)] []) fun t9 =>
 bf (stZ 2 h (e.s k22 2) t9) fun _ h1 =>
 some ⟨.nm, (ux22 e 3 (.int .i64 2)).st 2 (.int .i64 2), h1⟩) fun e h =>
 some ⟨.rt, e, h⟩)
 (some ⟨.nm, e, h⟩)) fun e h =>
 sq (bf (ms h 83 2 [(.int .u16 0)] (e.s k22 0) (e.s k22 0)) fun t11 h1 =>
 bd (bl [.nils, (.int .i64 0)] [(some (0, 1), t11)]) fun t12 =>
 bf (nw h1 64 [.nils, (.int .i64 0)]) fun t4 h2 =>
 bf (stZ 2 h2 t4 t12) fun _ h3 =>
 some ⟨.nm, (ux22 e 0 (e.s k22 0)).st 3 t4, h3⟩) fun e h =>
 sq (sq (bd (fa 0 (e.s k22 4)) fun t13 =>
 bd (ld h t13) fun t14 =>
 bd (lnS t14) fun t15 =>
 some ⟨.nm, ((ux22 e 16 (.int .i64 0)).st 5 t15).st 6 (.int .i64 0), h⟩) fun e h =>
 blk 0 (L (l22_0 K L) e h)) fun e h =>
 sq (bd (fa 0 (e.s k22 4)) fun t28 =>
 bd (ld h t28) fun t29 =>
 bd (binK 0 .sub (e.s k22 0) (.int .i64 1)) fun t31 =>
 bd (iaS 1 t29 t31) fun t32 =>
 bf (stZ 1 h t32 (.int .u16 32768)) fun _ h1 =>
 some ⟨.nm, ux22 e 0 (e.s k22 0), h1⟩) fun e h =>
 sq (bd (ldn 2 h (e.s k22 4)) fun t33 =>
 bf (stZ 2 h (e.s k22 2) t33) fun _ h1 =>
 some ⟨.nm, (ux22 e 3 (.int .i64 0)).st 2 (.int .i64 0), h1⟩) fun e h =>
 some ⟨.rt, e, h⟩
noncomputable def f22 (K : Oracle) (L : Looper) (p0 : V) (h : H) : Option (Rv × H) := fin Try.prog k22 [.cell 2 64, .tmp 3] (s22 K L ⟨[p0, V.und, V.und, V.und, V.und, V.und, V.und], 0, p0⟩ h)
theorem r22 : (fun K L p0 h => runFF Try.prog kp K L 22 [p0] h) = f22 := by kernel_rfl

/-- zoetrope/zoetroperef00.Bring -/
@[simp] def k23 : List Nat := [0, 1, 4]
@[simp] noncomputable def ux23 (e : E) (t : Nat) (v : V) : E := ⟨[(e.s k23 0), (e.s k23 1), (e.s k23 4)], t, v⟩
noncomputable def s23 (K : Oracle) (L : Looper) (e : E) (h : H) : Out :=
 sq (some ⟨.nm, (ux23 e 4 (.int .i64 0)).st 2 (.int .i64 0), h⟩) fun e h =>
 sq (sq (bd (binK 0 .leq (e.s k23 1) (.int .i64 0)) fun t6 =>
 some ⟨.nm, ux23 e 6 t6, h⟩) fun e h =>
 br (e.s k23 6) (sq (some ⟨.nm, (ux23 e 4 (.int .i64 0)).st 2 (.int .i64 0), h⟩) fun e h =>
 some ⟨.rt, e, h⟩)
 (some ⟨.nm, e, h⟩)) fun e h =>
 sq (bd (binK 0 .rem (e.s k23 0) (e.s k23 1)) fun t9 =>
 some ⟨.nm, (ux23 e 0 t9).st 0 t9, h⟩) fun e h =>
 sq (sq (bd (binK 0 .lss (e.s k23 0) (.int .i64 0)) fun t11 =>
 some ⟨.nm, ux23 e 11 t11, h⟩) fun e h =>
 br (e.s k23 11) (bd (binK 0 .add (e.s k23 0) (e.s k23 1)) fun t14 =>
 some ⟨.nm, (ux23 e 0 t14).st 0 t14, h⟩)
 (some ⟨.nm, e, h⟩)) fun e h =>
 sq (some ⟨.nm, (ux23 e 4 (e.s k23 0)).st 2 (e.s k23 0), h⟩) fun e h =>
 some ⟨.rt, e, h⟩
noncomputable def f23 (K : Oracle) (L : Looper) (p0 p1 : V) (h : H) : Option (Rv × H) := fin Try.prog k23 [.tmp 4] (s23 K L ⟨[p0, p1, V.und], 0, p0⟩ h)
theorem r23 : (fun K L p0 p1 h => runFF Try.prog kp K L 23 [p0, p1] h) = f23 := by kernel_rfl

/-- (*zoetrope/syms.Coder).Bits -/
@[simp] def k24 : List Nat := [0, 1, 2, 6, 7, 8, 9, 10, 11, 36, 37]
@[simp] noncomputable def ux24 (e : E) (t : Nat) (v : V) : E := ⟨[(e.s k24 0), (e.s k24 1), (e.s k24 2), (e.s k24 6), (e.s k24 7), (e.s k24 8), (e.s k24 9), (e.s k24 10), (e.s k24 11), (e.s k24 36), (e.s k24 37)], t, v⟩
noncomputable def l24_0 (K : Oracle) (L : Looper) (e : E) (h : H) : Out :=
 sq (bd (binK 0 .lss (e.s k24 37) (e.s k24 36)) fun t38 =>
 some ⟨.nm, ux24 e 38 t38, h⟩) fun e h =>
 sq (br (e.s k24 38) (some ⟨.nm, e, h⟩)
 (some ⟨.ex 1, e, h⟩)) fun e h =>
 sq (blk 2 (sq (some ⟨.nm, (ux24 e 9 (e.s k24 37)).st 6 (e.s k24 37), h⟩) fun e h =>
 sq (bd (binK 0 .sub (e.s k24 1) (.int .i64 1)) fun t44 =>
 bd (binK 0 .sub t44 (e.s k24 9)) fun t46 =>
 bd (binK 0 .shr (e.s k24 2) t46) fun t47 =>
 bd (binK 0 .and t47 (.int .i64 1)) fun t48 =>
 bc k24 [41, 42, 43, 44, 45, 46, 47, 48, 49, 40, 50, 51, 10, 11] e (K 37 [(e.s k24 0), t48] h) fun t49 h1 =>
 bd (exV t49 0) fun t50 =>
 bd (exV t49 1) fun t51 =>
 some ⟨.nm, ((ux24 e 11 t51).st 7 t50).st 8 t51, h1⟩) fun e h =>
 sq (sq (bd (binK 0 .neq (e.s k24 11) (.int .i64 0)) fun t53 =>
 some ⟨.nm, ux24 e 53 t53, h⟩) fun e h =>
 br (e.s k24 53) (sq (some ⟨.nm, ((ux24 e 7 (e.s k24 11)).st 3 (.int .i64 0)).st 4 (e.s k24 11), h⟩) fun e h =>
 some ⟨.rt, e, h⟩)
 (some ⟨.nm, e, h⟩)) fun e h =>
 bd (binK 0 .shl (e.s k24 8) (.int .u64 1)) fun t56 =>
 bd (binK 0 .or t56 (e.s k24 10)) fun t58 =>
 some ⟨.nm, (ux24 e 8 t58).st 5 t58, h⟩)) fun e h =>
 bd (binK 0 .add (e.s k24 37) (.int .i64 1)) fun t59 =>
 some ⟨.nm, (ux24 e 37 t59).st 10 t59, h⟩
noncomputable def s24 (K : Oracle) (L : Looper) (e : E) (h : H) : Out :=
 sq (some ⟨.nm, ((ux24 e 7 (.int .i64 0)).st 3 (.int .i64 0)).st 4 (.int .i64 0), h⟩) fun e h =>
 sq (blk 0 (sq (bc k24 [13, 14, 12] e (K 30 [(e.s k24 0)] h) fun t14 h1 =>
 some ⟨.nm, ux24 e 12 t14, h1⟩) fun e h =>
 br (e.s k24 12) (sq (some ⟨.nm, ((ux24 e 7 (.int .i64 1)).st 3 (.int .i64 0)).st 4 (.int .i64 1), h⟩) fun e h =>
 some ⟨.rt, e, h⟩)
 (sq (bd (binK 0 .lss (e.s k24 1) (.int .i64 0)) fun t17 =>
 bd (gl t17 false (some (e.s k24 1))) fun t19 =>
 bd (gl t17 false (binK 0 .gtr t19 (.int .i64 30))) fun t20 =>
 bd (pk t17 (.bool true) t20) fun t21 =>
 bd (gl t21 false (some (e.s k24 0))) fun t23 =>
 bc k24 [16, 17, 18, 19, 20, 21, 22, 23, 24, 25, 26, 27, 28, 29, 30, 31, 32, 33, 34, 35, 15] e (gk t21 false h (K 26 [t23] h)) fun t24 h1 =>
 bd (gl t21 false (some t24)) fun t25 =>
 bd (gl t25 true (some (e.s k24 2))) fun t26 =>
 bd (gl t25 true (binK 0 .lss t26 (.int .i64 0))) fun t27 =>
 bd (gl t25 true (some t27)) fun t28 =>
 bd (gl t28 false (some (e.s k24 2))) fun t29 =>
 bd (gl t28 false (some (e.s k24 1))) fun t30 =>
 bd (gl t28 false (binK 0 .shr t29 t30)) fun t31 =>
 bd (gl t28 false (binK 0 .neq t31 (.int .i64 0))) fun t32 =>
 bd (gl t25 true (pk t28 (.bool true) t32)) fun t33 =>
 bd (gl t21 false (pk t25 t33 (.bool false))) fun t34 =>
 bd (pk t21 (.bool true) t34) fun t35 =>
 some ⟨.nm, ux24 e 15 t35, h1⟩) fun e h =>
 br (e.s k24 15) (sq (some ⟨.nm, ((ux24 e 7 (.int .i64 2)).st 3 (.int .i64 0)).st 4 (.int .i64 2), h⟩) fun e h =>
 some ⟨.rt, e, h⟩)
 (some ⟨.nm, e, h⟩)))) fun e h =>
 sq (some ⟨.nm, (ux24 e 8 (.int .i64 0)).st 5 (.int .i64 0), h⟩) fun e h =>
 sq (sq (some ⟨.nm, ((ux24 e 37 (.int .i64 0)).st 9 (e.s k24 1)).st 10 (.int .i64 0), h⟩) fun e h =>
 blk 1 (L (l24_0 K L) e h)) fun e h =>
 sq (bd (nilC (e.s k24 0)) fun t61 =>
 bd (fa 4 t61) fun t62 =>
 bd (ld h t62) fun t63 =>
 bd (binK 0 .add t63 (e.s k24 1)) fun t65 =>
 bd (nilC (e.s k24 0)) fun t66 =>
 bd (fa 4 t66) fun t67 =>
 bf (stZ 1 h t67 t65) fun _ h1 =>
 some ⟨.nm, ux24 e 0 (e.s k24 0), h1⟩) fun e h =>
 sq (some ⟨.nm, ((ux24 e 7 (.int .i64 0)).st 3 (e.s k24 8)).st 4 (.int .i64 0), h⟩) fun e h =>
 some ⟨.rt, e, h⟩
noncomputable def f24 (K : Oracle) (L : Looper) (p0 p1 p2 : V) (h : H) : Option (Rv × H) := fin Try.prog k24 [.tmp 6, .tmp 7] (s24 K L ⟨[p0, p1, p2, V.und, V.und, V.und, V.und, V.und, V.und, V.und, V.und], 0, p0⟩ h)
theorem r24 : (fun K L p0 p1 p2 h => runFF Try.prog kp K L 24 [p0, p1, p2] h) = f24 := by kernel_rfl

/-- zoetrope/scan.Order -/
@[simp] def k25 : List Nat := [0, 2, 3, 4, 5, 6, 7, 8]
@[simp] noncomputable def ux25 (e : E) (t : Nat) (v : V) : E := ⟨[(e.s k25 0), (e.s k25 2), (e.s k25 3), (e.s k25 4), (e.s k25 5), (e.s k25 6), (e.s k25 7), (e.s k25 8)], t, v⟩
noncomputable def l25_0 (K : Oracle) (L : Looper) (e : E) (h : H) : Out :=
 sq (blk 3 (sq (bd (binK 0 .sub (e.s k25 6) (e.s k25 7)) fun t28 =>
 some ⟨.nm, (ux25 e 8 t28).st 7 t28, h⟩) fun e h =>
 sq (blk 4 (sq (bd (binK 0 .eql (e.s k25 7) (e.s k25 4)) fun t32 =>
 bd (gl t32 true (some (e.s k25 6))) fun t34 =>
 bd (gl t32 true (some (e.s k25 4))) fun t35 =>
 bd (gl t32 true (binK 0 .mul (.int .i64 2) t35)) fun t36 =>
 bd (gl t32 true (binK 0 .sub t36 (.int .i64 1))) fun t37 =>
 bd (gl t32 true (binK 0 .eql t34 t37)) fun t38 =>
 bd (pk t32 t38 (.bool false)) fun t39 =>
 some ⟨.nm, ux25 e 29 t39, h⟩) fun e h =>
 br (e.s k25 29) (some ⟨.ex 0, e, h⟩)
 (sq (bd (binK 0 .eql (e.s k25 7) (e.s k25 4)) fun t43 =>
 bd (gl t43 false (some (e.s k25 8))) fun t45 =>
 bd (gl t43 false (binK 0 .lss t45 (.int .i64 0))) fun t46 =>
 bd (pk t43 (.bool true) t46) fun t47 =>
 some ⟨.nm, ux25 e 40 t47, h⟩) fun e h =>
 br (e.s k25 40) (some ⟨.ex 1, e, h⟩)
 (some ⟨.nm, e, h⟩)))) fun e h =>
 bd (binK 0 .mul (e.s k25 7) (e.s k25 4)) fun t51 =>
 bd (binK 0 .add t51 (e.s k25 8)) fun t53 =>
 bf (bs h 3 1 [(.int .i64 0)] [(some (0, 1), t53)]) fun t54 h1 =>
 bf (apZ 3 1 8 h1 (e.s k25 5) t54) fun t55 h2 =>
 some ⟨.nm, (ux25 e 5 t55).st 4 t55, h2⟩)) fun e h =>
 bd (binK 0 .add (e.s k25 7) (.int .i64 1)) fun t25 =>
 some ⟨.nm, (ux25 e 7 t25).st 6 t25, h⟩
noncomputable def l25_1 (K : Oracle) (L : Looper) (e : E) (h : H) : Out :=
 sq (blk 1 (sq (bd (binK 0 .sub (e.s k25 6) (e.s k25 4)) fun t21 =>
 bd (binK 0 .add t21 (.int .i64 1)) fun t22 =>
 bd (maxV [(.int .i64 0), t22]) fun t23 =>
 some ⟨.nm, (ux25 e 7 t23).st 6 t23, h⟩) fun e h =>
 blk 2 (L (l25_0 K L) e h))) fun e h =>
 bd (binK 0 .add (e.s k25 6) (.int .i64 1)) fun t18 =>
 some ⟨.nm, (ux25 e 6 t18).st 5 t18, h⟩
noncomputable def s25 (K : Oracle) (L : Looper) (e : E) (h : H) : Out :=
 sq (some ⟨.nm, ((ux25 e 3 (.int .i64 0)).st 1 .nils).st 2 (.int .i64 0), h⟩) fun e h =>
 sq (bc k25 [9, 10, 4] e (K 38 [(e.s k25 0)] h) fun t10 h1 =>
 some ⟨.nm, (ux25 e 4 t10).st 3 t10, h1⟩) fun e h =>
 sq (sq (bd (binK 0 .eql (e.s k25 4) (.int .i64 0)) fun t12 =>
 some ⟨.nm, ux25 e 12 t12, h⟩) fun e h =>
 br (e.s k25 12) (sq (some ⟨.nm, ((ux25 e 3 (.int .i64 2)).st 1 .nils).st 2 (.int .i64 2), h⟩) fun e h =>
 some ⟨.rt, e, h⟩)
 (some ⟨.nm, e, h⟩)) fun e h =>
 sq (bd (binK 0 .mul (e.s k25 4) (e.s k25 4)) fun t15 =>
 bf (ms h 3 8 [(.int .i64 0)] (.int .i64 0) t15) fun t16 h1 =>
 some ⟨.nm, (ux25 e 5 t16).st 4 t16, h1⟩) fun e h =>
 sq (some ⟨.nm, e, h⟩) fun e h =>
 sq (sq (some ⟨.nm, (ux25 e 6 (.int .i64 0)).st 5 (.int .i64 0), h⟩) fun e h =>
 blk 0 (L (l25_1 K L) e h)) fun e h =>
 sq (some ⟨.nm, ((ux25 e 3 (.int .i64 0)).st 1 (e.s k25 5)).st 2 (.int .i64 0), h⟩) fun e h =>
 some ⟨.rt, e, h⟩
noncomputable def f25 (K : Oracle) (L : Looper) (p0 : V) (h : H) : Option (Rv × H) := fin Try.prog k25 [.tmp 2, .tmp 3] (s25 K L ⟨[p0, V.und, V.und, V.und, V.und, V.und, V.und, V.und], 0, p0⟩ h)
theorem r25 : (fun K L p0 h => runFF Try.prog kp K L 25 [p0] h) = f25 := by kernel_rfl

/-- (*zoetrope/syms.Coder).Writes -/
@[simp] def k26 : List Nat := [0, 2]
@[simp] noncomputable def ux26 (e : E) (t : Nat) (v : V) : E := ⟨[(e.s k26 0), (e.s k26 2)], t, v⟩
noncomputable def s26 (K : Oracle) (L : Looper) (e : E) (h : H) : Out :=
 sq (some ⟨.nm, (ux26 e 2 (.bool false)).st 1 (.bool false), h⟩) fun e h =>
 sq (bd (binK 2 .neq (e.s k26 0) .nilp) fun t4 =>
 bd (gl t4 true (some (e.s k26 0))) fun t6 =>
 bd (gl t4 true (nilC t6)) fun t7 =>
 bd (gl t4 true (fa 0 t7)) fun t8 =>
 bd (gl t4 true (ld h t8)) fun t9 =>
 bd (gl t4 true (binK 2 .neq t9 .nilp)) fun t10 =>
 bd (pk t4 t10 (.bool false)) fun t11 =>
 some ⟨.nm, (ux26 e 2 t11).st 1 t11, h⟩) fun e h =>
 some ⟨.rt, e, h⟩
noncomputable def f26 (K : Oracle) (L : Looper) (p0 : V) (h : H) : Option (Rv × H) := fin Try.prog k26 [.tmp 2] (s26 K L ⟨[p0, V.und], 0, p0⟩ h)
theorem r26 : (fun K L p0 h => runFF Try.prog kp K L 26 [p0] h) = f26 := by kernel_rfl

/-- slices.Max[[]int,int] -/
@[simp] def k27 : List Nat := [0, 2, 3, 4]
@[simp] noncomputable def ux27 (e : E) (t : Nat) (v : V) : E := ⟨[(e.s k27 0), (e.s k27 2), (e.s k27 3), (e.s k27 4)], t, v⟩
noncomputable def l27_0 (K : Oracle) (L : Looper) (e : E) (h : H) : Out :=
 sq (sq (bd (lnS (e.s k27 0)) fun t14 =>
 bd (binK 0 .lss (e.s k27 4) t14) fun t15 =>
 some ⟨.nm, ux27 e 15 t15, h⟩) fun e h =>
 br (e.s k27 15) (some ⟨.nm, e, h⟩)
 (some ⟨.ex 0, e, h⟩)) fun e h =>
 sq (blk 1 (bd (iaS 1 (e.s k27 0) (e.s k27 4)) fun t21 =>
 bd (ld h t21) fun t22 =>
 bd (maxV [(e.s k27 3), t22]) fun t23 =>
 some ⟨.nm, (ux27 e 3 t23).st 2 t23, h⟩)) fun e h =>
 bd (binK 0 .add (e.s k27 4) (.int .i64 1)) fun t17 =>
 some ⟨.nm, (ux27 e 4 t17).st 3 t17, h⟩
noncomputable def s27 (K : Oracle) (L : Looper) (e : E) (h : H) : Out :=
 sq (some ⟨.nm, (ux27 e 2 (.int .i64 0)).st 1 (.int .i64 0), h⟩) fun e h =>
 sq (sq (bd (lnS (e.s k27 0)) fun t6 =>
 bd (binK 0 .lss t6 (.int .i64 1)) fun t7 =>
 some ⟨.nm, ux27 e 7 t7, h⟩) fun e h =>
 br (e.s k27 7) (bd (some (.iface 9 (.str [115, 108, 105, 99, 101, 115, 46, 77, 97, 120, 58, 32, 101, 109, 112, 116, 121, 32, 108, 105, 115, 116]))) fun t8 =>
 bc k27 [8] e (panV t8 h) fun _ h1 =>
 some ⟨.nm, ux27 e 0 (e.s k27 0), h1⟩)
 (some ⟨.nm, e, h⟩)) fun e h =>
 sq (bd (iaS 1 (e.s k27 0) (.int .i64 0)) fun t10 =>
 bd (ld h t10) fun t11 =>
 some ⟨.nm, (ux27 e 3 t11).st 2 t11, h⟩) fun e h =>
 sq (sq (some ⟨.nm, (ux27 e 4 (.int .i64 1)).st 3 (.int .i64 1), h⟩) fun e h =>
 blk 0 (L (l27_0 K L) e h)) fun e h =>
 sq (some ⟨.nm, (ux27 e 2 (e.s k27 3)).st 1 (e.s k27 3), h⟩) fun e h =>
 some ⟨.rt, e, h⟩
noncomputable def f27 (K : Oracle) (L : Looper) (p0 : V) (h : H) : Option (Rv × H) := fin Try.prog k27 [.tmp 2] (s27 K L ⟨[p0, V.und, V.und, V.und], 0, p0⟩ h)
theorem r27 : (fun K L p0 h => runFF Try.prog kp K L 27 [p0] h) = f27 := by kernel_rfl

/-- slices.Min[[]int,int] -/
@[simp] def k28 : List Nat := [0, 2, 3, 4]
@[simp] noncomputable def ux28 (e : E) (t : Nat) (v : V) : E := ⟨[(e.s k28 0), (e.s k28 2), (e.s k28 3), (e.s k28 4)], t, v⟩
noncomputable def l28_0 (K : Oracle) (L : Looper) (e : E) (h : H) : Out :=
 sq (sq (bd (lnS (e.s k28 0)) fun t14 =>
 bd (binK 0 .lss (e.s k28 4) t14) fun t15 =>
 some ⟨.nm, ux28 e 15 t15, h⟩) fun e h =>
 br (e.s k28 15) (some ⟨.nm, e, h⟩)
 (some ⟨.ex 0, e, h⟩)) fun e h =>
 sq (blk 1 (bd (iaS 1 (e.s k28 0) (e.s k28 4)) fun t21 =>
 bd (ld h t21) fun t22 =>
 bd (minV [(e.s k28 3), t22]) fun t23 =>
 some ⟨.nm, (ux28 e 3 t23).st 2 t23, h⟩)) fun e h =>
 bd (binK 0 .add (e.s k28 4) (.int .i64 1)) fun t17 =>
 some ⟨.nm, (ux28 e 4 t17).st 3 t17, h⟩
noncomputable def s28 (K : Oracle) (L : Looper) (e : E) (h : H) : Out :=
 sq (some ⟨.nm, (ux28 e 2 (.int .i64 0)).st 1 (.int .i64 0), h⟩) fun e h =>
 sq (sq (bd (lnS (e.s k28 0)) fun t6 =>
 bd (binK 0 .lss t6 (.int .i64 1)) fun t7 =>
 some ⟨.nm, ux28 e 7 t7, h⟩) fun e h =>
 br (e.s k28 7) (bd (some (.iface 9 (.str [115, 108, 105, 99, 101, 115, 46, 77, 105, 110, 58, 32, 101, 109, 112, 116, 121, 32, 108, 105, 115, 116]))) fun t8 =>
 bc k28 [8] e (panV t8 h) fun _ h1 =>
 some ⟨.nm, ux28 e 0 (e.s k28 0), h1⟩)
 (some ⟨.nm, e, h⟩)) fun e h =>
 sq (bd (iaS 1 (e.s k28 0) (.int .i64 0)) fun t10 =>
 bd (ld h t10) fun t11 =>
 some ⟨.nm, (ux28 e 3 t11).st 2 t11, h⟩) fun e h =>
 sq (sq (some ⟨.nm, (ux28 e 4 (.int .i64 1)).st 3 (.int .i64 1), h⟩) fun e h =>
 blk 0 (L (l28_0 K L) e h)) fun e h =>
 sq (some ⟨.nm, (ux28 e 2 (e.s k28 3)).st 1 (e.s k28 3), h⟩) fun e h =>
 some ⟨.rt, e, h⟩
noncomputable def f28 (K : Oracle) (L : Looper) (p0 : V) (h : H) : Option (Rv × H) := fin Try.prog k28 [.tmp 2] (s28 K L ⟨[p0, V.und, V.und, V.und], 0, p0⟩ h)
theorem r28 : (fun K L p0 h => runFF Try.prog kp K L 28 [p0] h) = f28 := by kernel_rfl

/-- (*zoetrope/syms.Coder).none -/
@[simp] def k30 : List Nat := [0, 2]
@[simp] noncomputable def ux30 (e : E) (t : Nat) (v : V) : E := ⟨[(e.s k30 0), (e.s k30 2)], t, v⟩
noncomputable def s30 (K : Oracle) (L : Looper) (e : E) (h : H) : Out :=
 sq (some ⟨.nm, (ux30 e 2 (.bool false)).st 1 (.bool false), h⟩) fun e h =>
 sq (bd (binK 2 .eql (e.s k30 0) .nilp) fun t4 =>
 bd (gl t4 false (some (e.s k30 0))) fun t6 =>
 bd (gl t4 false (nilC t6)) fun t7 =>
 bd (gl t4 false (fa 0 t7)) fun t8 =>
 bd (gl t4 false (ld h t8)) fun t9 =>
 bd (gl t4 false (binK 2 .eql t9 .nilp)) fun t10 =>
 bd (gl t4 false (some t10)) fun t11 =>
 bd (gl t11 true (some (e.s k30 0))) fun t12 =>
 bd (gl t11 true (nilC t12)) fun t13 =>
 bd (gl t11 true (fa 1 t13)) fun t14 =>
 bd (gl t11 true (ld h t14)) fun t15 =>
 bd (gl t11 true (binK 2 .eql t15 .nilp)) fun t16 =>
 bd (gl t4 false (pk t11 t16 (.bool false))) fun t17 =>
 bd (pk t4 (.bool true) t17) fun t18 =>
 some ⟨.nm, (ux30 e 2 t18).st 1 t18, h⟩) fun e h =>
 some ⟨.rt, e, h⟩
noncomputable def f30 (K : Oracle) (L : Looper) (p0 : V) (h : H) : Option (Rv × H) := fin Try.prog k30 [.tmp 2] (s30 K L ⟨[p0, V.und], 0, p0⟩ h)
theorem r30 : (fun K L p0 h => runFF Try.prog kp K L 30 [p0] h) = f30 := by kernel_rfl

/-- (*zoetrope/rac.Encoder).Bytes -/
@[simp] def k31 : List Nat := [0, 2, 3, 4, 24]
@[simp] noncomputable def ux31 (e : E) (t : Nat) (v : V) : E := ⟨[(e.s k31 0), (e.s k31 2), (e.s k31 3), (e.s k31 4), (e.s k31 24)], t, v⟩
noncomputable def l31_0 (K : Oracle) (L : Looper) (e : E) (h : H) : Out :=
 sq (bd (binK 0 .lss (e.s k31 24) (.int .i64 4)) fun t25 =>
 some ⟨.nm, ux31 e 25 t25, h⟩) fun e h =>
 sq (br (e.s k31 25) (some ⟨.nm, e, h⟩)
 (some ⟨.ex 0, e, h⟩)) fun e h =>
 sq (blk 1 (bc k31 [26] e (K 44 [(e.s k31 3)] h) fun t26 h1 =>
 some ⟨.nm, ux31 e 26 t26, h1⟩)) fun e h =>
 bd (binK 0 .add (e.s k31 24) (.int .i64 1)) fun t27 =>
 some ⟨.nm, (ux31 e 24 t27).st 4 t27, h⟩
noncomputable def l31_1 (K : Oracle) (L : Looper) (e : E) (h : H) : Out :=
 sq (sq (bd (binK 0 .gtr (e.s k31 4) (.int .i64 0)) fun t32 =>
 bd (gl t32 true (fa 0 (e.s k31 3))) fun t34 =>
 bd (gl t32 true (ld h t34)) fun t35 =>
 bd (gl t32 true (some (e.s k31 4))) fun t36 =>
 bd (gl t32 true (binK 0 .sub t36 (.int .i64 1))) fun t37 =>
 bd (gl t32 true (iaS 1 t35 t37)) fun t38 =>
 bd (gl t32 true (ld h t38)) fun t39 =>
 bd (gl t32 true (binK 0 .eql t39 (.int .u8 0))) fun t40 =>
 bd (pk t32 t40 (.bool false)) fun t41 =>
 some ⟨.nm, ux31 e 41 t41, h⟩) fun e h =>
 br (e.s k31 41) (some ⟨.nm, e, h⟩)
 (some ⟨.ex 2, e, h⟩)) fun e h =>
 blk 3 (bd (binK 0 .sub (e.s k31 4) (.int .i64 1)) fun t43 =>
 some ⟨.nm, (ux31 e 4 t43).st 3 t43, h⟩)
noncomputable def s31 (K : Oracle) (L : Looper) (e : E) (h : H) : Out :=
 sq (some ⟨.nm, (ux31 e 2 .nils).st 1 .nils, h⟩) fun e h =>
 sq (sq (bd (binK 2 .eql (e.s k31 0) .nilp) fun t6 =>
 bd (gl t6 false (some (e.s k31 0))) fun t8 =>
 bd (gl t6 false (nilC t8)) fun t9 =>
 bd (gl t6 false (fa 2 t9)) fun t10 =>
 bd (gl t6 false (ld h t10)) fun t11 =>
 bd (gl t6 false (binK 0 .eql t11 (.int .u32 0))) fun t12 =>
 bd (pk t6 (.bool true) t12) fun t13 =>
 some ⟨.nm, ux31 e 13 t13, h⟩) fun e h =>
 br (e.s k31 13) (sq (some ⟨.nm, (ux31 e 2 .nils).st 1 .nils, h⟩) fun e h =>
 some ⟨.rt, e, h⟩)
 (some ⟨.nm, e, h⟩)) fun e h =>
 sq (bd (nilC (e.s k31 0)) fun t15 =>
 bd (fa 0 t15) fun t16 =>
 bd (ld h t16) fun t17 =>
 bn (K 43 [t17] h) fun t18 h1 =>
 bd (nilC (e.s k31 0)) fun t20 =>
 bd (fa 1 t20) fun t21 =>
 bd (ld h1 t21) fun t22 =>
 bd (bl [.nils, (.int .u64 0), (.int .u32 0)] [(some (0, 1), t18), (some (1, 1), t22)]) fun t23 =>
 bf (nw h1 80 [.nils, (.int .u64 0), (.int .u32 0)]) fun t3 h2 =>
 bf (stZ 3 h2 t3 t23) fun _ h3 =>
 ck (ld h t16) t17 (ck (ld h t21) t22 (ck (ld h1 t21) t22 (some ⟨.nm, (ux31 e 0 (e.s k31 0)).st 2 t3, h3⟩)))) fun e h =>
 sq (sq (some ⟨.nm, (ux31 e 24 (.int .i64 0)).st 4 (.int .i64 0), h⟩) fun e h =>
 blk 0 (L (l31_0 K L) e h)) fun e h =>
 sq (bd (fa 0 (e.s k31 3)) fun t28 =>
 bd (ld h t28) fun t29 =>
 bd (lnS t29) fun t30 =>
 some ⟨.nm, (ux31 e 4 t30).st 3 t30, h⟩) fun e h =>
 sq (blk 2 (L (l31_1 K L) e h)) fun e h =>
 sq (bd (fa 0 (e.s k31 3)) fun t44 =>
 bd (ld h t44) fun t45 =>
 bd (slS 1 t45 none (some (e.s k31 4)) (some (e.s k31 4))) fun t48 =>
 some ⟨.nm, (ux31 e 2 t48).st 1 t48, h⟩) fun e h =>
 some ⟨.rt, e, h⟩
noncomputable def f31 (K : Oracle) (L : Looper) (p0 : V) (h : H) : Option (Rv × H) := fin Try.prog k31 [.tmp 2] (s31 K L ⟨[p0, V.und, V.und, V.und, V.und], 0, p0⟩ h)
theorem r31 : (fun K L p0 h => runFF Try.prog kp K L 31 [p0] h) = f31 := by kernel_rfl

/-- zoetrope/rac.Read -/
@[simp] def k32 : List Nat := [0, 2, 3, 8]
@[simp] noncomputable def ux32 (e : E) (t : Nat) (v : V) : E := ⟨[(e.s k32 0), (e.s k32 2), (e.s k32 3), (e.s k32 8)], t, v⟩
noncomputable def l32_0 (K : Oracle) (L : Looper) (e : E) (h : H) : Out :=
 sq (bd (binK 0 .lss (e.s k32 8) (.int .i64 4)) fun t9 =>
 some ⟨.nm, ux32 e 9 t9, h⟩) fun e h =>
 sq (br (e.s k32 9) (some ⟨.nm, e, h⟩)
 (some ⟨.ex 0, e, h⟩)) fun e h =>
 sq (blk 1 (bc k32 [10, 11] e (K 45 [(e.s k32 3)] h) fun t11 h1 =>
 some ⟨.nm, ux32 e 11 t11, h1⟩)) fun e h =>
 bd (binK 0 .add (e.s k32 8) (.int .i64 1)) fun t12 =>
 some ⟨.nm, (ux32 e 8 t12).st 3 t12, h⟩
noncomputable def s32 (K : Oracle) (L : Looper) (e : E) (h : H) : Out :=
 sq (some ⟨.nm, (ux32 e 2 .nilp).st 1 .nilp, h⟩) fun e h =>
 sq (bc k32 [4, 5, 6, 7, 3] e (K 43 [(e.s k32 0)] h) fun t5 h1 =>
 bd (bl [.nils, (.int .u32 0), (.int .u32 0)] [(some (0, 1), t5), (some (2, 1), (.int .u32 4294967295))]) fun t6 =>
 bf (bx h1 92 t6) fun t7 h2 =>
 some ⟨.nm, (ux32 e 3 t7).st 2 t7, h2⟩) fun e h =>
 sq (sq (some ⟨.nm, (ux32 e 8 (.int .i64 0)).st 3 (.int .i64 0), h⟩) fun e h =>
 blk 0 (L (l32_0 K L) e h)) fun e h =>
 sq (bd (nilC (e.s k32 3)) fun t15 =>
 bd (fa 1 t15) fun t16 =>
 bd (ld h t16) fun t17 =>
 bd (minV [t17, (.int .u32 4294967294)]) fun t18 =>
 bd (nilC (e.s k32 3)) fun t19 =>
 bd (fa 1 t19) fun t20 =>
 bf (stZ 1 h t20 t18) fun _ h1 =>
 some ⟨.nm, ux32 e 0 (e.s k32 0), h1⟩) fun e h =>
 sq (some ⟨.nm, (ux32 e 2 (e.s k32 3)).st 1 (e.s k32 3), h⟩) fun e h =>
 some ⟨.rt, e, h⟩
noncomputable def f32 (K : Oracle) (L : Looper) (p0 : V) (h : H) : Option (Rv × H) := fin Try.prog k32 [.tmp 2] (s32 K L ⟨[p0, V.und, V.und, V.und], 0, p0⟩ h)
theorem r32 : (fun K L p0 h => runFF Try.prog kp K L 32 [p0] h) = f32 := by kernel_rfl

/-- zoetrope/cdf.Check -/
@[simp] def k33 : List Nat := [0, 1, 2]
@[simp] noncomputable def ux33 (e : E) (t : Nat) (v : V) : E := ⟨[(e.s k33 0), (e.s k33 1), (e.s k33 2)], t, v⟩
noncomputable def s33 (K : Oracle) (L : Looper) (e : E) (h : H) : Out :=
 sq (bf (bx h 64 (e.s k33 0)) fun t1 h1 =>
 some ⟨.nm, ((ux33 e 2 (.int .i64 0)).st 1 t1).st 2 (.int .i64 0), h1⟩) fun e h =>
 sq (blk 0 (sq (sq (bd (fa 0 (e.s k33 1)) fun t4 =>
 bd (ld h t4) fun t5 =>
 bd (lnS t5) fun t6 =>
 bc k33 [4, 5, 6, 7, 8, 3] e (K 36 [t6] h) fun t7 h1 =>
 bd (unV .not t7) fun t8 =>
 some ⟨.nm, ux33 e 3 t8, h1⟩) fun e h =>
 br (e.s k33 3) (some ⟨.nm, e, h⟩)
 (sq (bd (fa 1 (e.s k33 1)) fun t9 =>
 bd (ld h t9) fun t10 =>
 bd (binK 0 .lss t10 (.int .i64 0)) fun t11 =>
 some ⟨.nm, ux33 e 3 t11, h⟩) fun e h =>
 br (e.s k33 3) (some ⟨.nm, e, h⟩)
 (bd (fa 1 (e.s k33 1)) fun t12 =>
 bd (ld h t12) fun t13 =>
 bd (binK 0 .gtr t13 (.int .i64 32)) fun t14 =>
 some ⟨.nm, ux33 e 3 t14, h⟩))) fun e h =>
 br (e.s k33 3) (sq (some ⟨.nm, (ux33 e 2 (.int .i64 2)).st 2 (.int .i64 2), h⟩) fun e h =>
 some ⟨.rt, e, h⟩)
 (sq (sq (bd (fa 0 (e.s k33 1)) fun t16 =>
 bd (ld h t16) fun t17 =>
 bc k33 [16, 17, 18, 19, 15] e (K 46 [t17] h) fun t18 h1 =>
 bd (unV .not t18) fun t19 =>
 some ⟨.nm, ux33 e 15 t19, h1⟩) fun e h =>
 br (e.s k33 15) (some ⟨.nm, e, h⟩)
 (bd (fa 0 (e.s k33 1)) fun t20 =>
 bd (ld h t20) fun t21 =>
 bd (fa 0 (e.s k33 1)) fun t22 =>
 bd (ld h t22) fun t23 =>
 bd (lnS t23) fun t24 =>
 bd (binK 0 .sub t24 (.int .i64 1)) fun t25 =>
 bd (iaS 1 t21 t25) fun t26 =>
 bd (ld h t26) fun t27 =>
 bd (binK 0 .neq t27 (.int .u16 32768)) fun t28 =>
 some ⟨.nm, ux33 e 15 t28, h⟩)) fun e h =>
 br (e.s k33 15) (sq (some ⟨.nm, (ux33 e 2 (.int .i64 2)).st 2 (.int .i64 2), h⟩) fun e h =>
 some ⟨.rt, e, h⟩)
 (some ⟨.nm, e, h⟩)))) fun e h =>
 sq (some ⟨.nm, (ux33 e 2 (.int .i64 0)).st 2 (.int .i64 0), h⟩) fun e h =>
 some ⟨.rt, e, h⟩
noncomputable def f33 (K : Oracle) (L : Looper) (p0 : V) (h : H) : Option (Rv × H) := fin Try.prog k33 [.tmp 2] (s33 K L ⟨[p0, V.und, V.und], 0, p0⟩ h)
theorem r33 : (fun K L p0 h => runFF Try.prog kp K L 33 [p0] h) = f33 := by kernel_rfl

/-- slices.Clone[[]zoetrope/api.Table,zoetrope/api.Table] -/
@[simp] def k34 : List Nat := [0, 2]
@[simp] noncomputable def ux34 (e : E) (t : Nat) (v : V) : E := ⟨[(e.s k34 0), (e.s k34 2)], t, v⟩
noncomputable def s34 (K : Oracle) (L : Looper) (e : E) (h : H) : Out :=
 sq (some ⟨.nm, (ux34 e 2 .nils).st 1 .nils, h⟩) fun e h =>
 sq (sq (bd (binK 3 .eql (e.s k34 0) .nils) fun t4 =>
 some ⟨.nm, ux34 e 4 t4, h⟩) fun e h =>
 br (e.s k34 4) (sq (some ⟨.nm, (ux34 e 2 .nils).st 1 .nils, h⟩) fun e h =>
 some ⟨.rt, e, h⟩)
 (some ⟨.nm, e, h⟩)) fun e h =>
 sq (bf (bs h 64 0 [] []) fun t5 h1 =>
 bf (apZ 64 2 32 h1 t5 (e.s k34 0)) fun t7 h2 =>
 some ⟨.nm, (ux34 e 2 t7).st 1 t7, h2⟩) fun e h =>
 some ⟨.rt, e, h⟩
noncomputable def f34 (K : Oracle) (L : Looper) (p0 : V) (h : H) : Option (Rv × H) := fin Try.prog k34 [.tmp 2] (s34 K L ⟨[p0, V.und], 0, p0⟩ h)
theorem r34 : (fun K L p0 h => runFF Try.prog kp K L 34 [p0] h) = f34 := by kernel_rfl

/-- slices.Clone[[]uint16,uint16] -/
@[simp] def k35 : List Nat := [0, 2]
@[simp] noncomputable def ux35 (e : E) (t : Nat) (v : V) : E := ⟨[(e.s k35 0), (e.s k35 2)], t, v⟩
noncomputable def s35 (K : Oracle) (L : Looper) (e : E) (h : H) : Out :=
 sq (some ⟨.nm, (ux35 e 2 .nils).st 1 .nils, h⟩) fun e h =>
 sq (sq (bd (binK 3 .eql (e.s k35 0) .nils) fun t4 =>
 some ⟨.nm, ux35 e 4 t4, h⟩) fun e h =>
 br (e.s k35 4) (sq (some ⟨.nm, (ux35 e 2 .nils).st 1 .nils, h⟩) fun e h =>
 some ⟨.rt, e, h⟩)
 (some ⟨.nm, e, h⟩)) fun e h =>
 sq (bf (bs h 83 0 [] []) fun t5 h1 =>
 bf (apZ 83 1 2 h1 t5 (e.s k35 0)) fun t7 h2 =>
 some ⟨.nm, (ux35 e 2 t7).st 1 t7, h2⟩) fun e h =>
 some ⟨.rt, e, h⟩
noncomputable def f35 (K : Oracle) (L : Looper) (p0 : V) (h : H) : Option (Rv × H) := fin Try.prog k35 [.tmp 2] (s35 K L ⟨[p0, V.und], 0, p0⟩ h)
theorem r35 : (fun K L p0 h => runFF Try.prog kp K L 35 [p0] h) = f35 := by kernel_rfl

/-- zoetrope/cdf.sizes -/
@[simp] def k36 : List Nat := [0, 2]
@[simp] noncomputable def ux36 (e : E) (t : Nat) (v : V) : E := ⟨[(e.s k36 0), (e.s k36 2)], t, v⟩
noncomputable def s36 (K : Oracle) (L : Looper) (e : E) (h : H) : Out :=
 sq (some ⟨.nm, (ux36 e 2 (.bool false)).st 1 (.bool false), h⟩) fun e h =>
 sq (bd (binK 0 .geq (e.s k36 0) (.int .i64 2)) fun t4 =>
 bd (gl t4 true (some (e.s k36 0))) fun t6 =>
 bd (gl t4 true (binK 0 .leq t6 (.int .i64 16))) fun t7 =>
 bd (pk t4 t7 (.bool false)) fun t8 =>
 some ⟨.nm, (ux36 e 2 t8).st 1 t8, h⟩) fun e h =>
 some ⟨.rt, e, h⟩
noncomputable def f36 (K : Oracle) (L : Looper) (p0 : V) (h : H) : Option (Rv × H) := fin Try.prog k36 [.tmp 2] (s36 K L ⟨[p0, V.und], 0, p0⟩ h)
theorem r36 : (fun K L p0 h => runFF Try.prog kp K L 36 [p0] h) = f36 := by kernel_rfl

/-- (*zoetrope/syms.Coder).bit -/
@[simp] def k37 : List Nat := [0, 1, 4, 5, 6, 7, 8]
@[simp] noncomputable def ux37 (e : E) (t : Nat) (v : V) : E := ⟨[(e.s k37 0), (e.s k37 1), (e.s k37 4), (e.s k37 5), (e.s k37 6), (e.s k37 7), (e.s k37 8)], t, v⟩
noncomputable def s37 (K : Oracle) (L : Looper) (e : E) (h : H) : Out :=
 sq (some ⟨.nm, ((ux37 e 5 (.int .i64 0)).st 2 (.int .i64 0)).st 3 (.int .i64 0), h⟩) fun e h =>
 sq (sq (bc k37 [9, 10, 11] e (K 26 [(e.s k37 0)] h) fun t10 h1 =>
 bd (unV .not t10) fun t11 =>
 some ⟨.nm, ux37 e 11 t11, h1⟩) fun e h =>
 br (e.s k37 11) (sq (bd (nilC (e.s k37 0)) fun t14 =>
 bd (fa 1 t14) fun t15 =>
 bd (ld h t15) fun t16 =>
 bc k37 [13, 14, 15, 16, 17, 12, 18, 19, 6, 7] e (K 47 [t16] h) fun t17 h1 =>
 bd (exV t17 0) fun t18 =>
 bd (exV t17 1) fun t19 =>
 some ⟨.nm, ((ux37 e 7 t19).st 4 t18).st 5 t19, h1⟩) fun e h =>
 sq (sq (bd (binK 0 .neq (e.s k37 7) (.int .i64 0)) fun t21 =>
 some ⟨.nm, ux37 e 21 t21, h⟩) fun e h =>
 br (e.s k37 21) (sq (some ⟨.nm, ((ux37 e 5 (e.s k37 7)).st 2 (.int .i64 0)).st 3 (e.s k37 7), h⟩) fun e h =>
 some ⟨.rt, e, h⟩)
 (some ⟨.nm, e, h⟩)) fun e h =>
 bd (binK 0 .quo (e.s k37 6) (.int .u32 16384)) fun t24 =>
 bd (cv .i64 t24) fun t25 =>
 some ⟨.nm, (ux37 e 1 t25).st 1 t25, h⟩)
 (some ⟨.nm, e, h⟩)) fun e h =>
 sq (bd (cv .u32 (e.s k37 1)) fun t27 =>
 bd (binK 0 .mul t27 (.int .u32 16384)) fun t28 =>
 some ⟨.nm, (ux37 e 8 t28).st 6 t28, h⟩) fun e h =>
 sq (sq (bc k37 [29, 30] e (K 26 [(e.s k37 0)] h) fun t30 h1 =>
 some ⟨.nm, ux37 e 30 t30, h1⟩) fun e h =>
 br (e.s k37 30) (sq (bd (nilC (e.s k37 0)) fun t33 =>
 bd (fa 0 t33) fun t34 =>
 bd (ld h t34) fun t35 =>
 bd (binK 0 .add (e.s k37 8) (.int .u32 16384)) fun t38 =>
 bc k37 [31, 32, 33, 34, 35, 36, 37, 38, 39, 4, 5] e (K 48 [t35, (e.s k37 8), t38] h) fun t39 h1 =>
 some ⟨.nm, ((ux37 e 5 t39).st 2 (e.s k37 1)).st 3 t39, h1⟩) fun e h =>
 some ⟨.rt, e, h⟩)
 (some ⟨.nm, e, h⟩)) fun e h =>
 sq (bd (nilC (e.s k37 0)) fun t42 =>
 bd (fa 1 t42) fun t43 =>
 bd (ld h t43) fun t44 =>
 bd (binK 0 .add (e.s k37 8) (.int .u32 16384)) fun t47 =>
 bc k37 [40, 41, 42, 43, 44, 45, 46, 47, 48, 4, 5] e (K 49 [t44, (e.s k37 8), t47] h) fun t48 h1 =>
 some ⟨.nm, ((ux37 e 5 t48).st 2 (e.s k37 1)).st 3 t48, h1⟩) fun e h =>
 some ⟨.rt, e, h⟩
noncomputable def f37 (K : Oracle) (L : Looper) (p0 p1 : V) (h : H) : Option (Rv × H) := fin Try.prog k37 [.tmp 4, .tmp 5] (s37 K L ⟨[p0, p1, V.und, V.und, V.und, V.und, V.und], 0, p0⟩ h)
theorem r37 : (fun K L p0 p1 h => runFF Try.prog kp K L 37 [p0, p1] h) = f37 := by kernel_rfl

/-- zoetrope/scan.side -/
@[simp] def k38 : List Nat := [0, 2, 3]
@[simp] noncomputable def ux38 (e : E) (t : Nat) (v : V) : E := ⟨[(e.s k38 0), (e.s k38 2), (e.s k38 3)], t, v⟩
noncomputable def s38 (K : Oracle) (L : Looper) (e : E) (h : H) : Out :=
 sq (some ⟨.nm, (ux38 e 2 (.int .i64 0)).st 1 (.int .i64 0), h⟩) fun e h =>
 sq (sq (some ⟨.nm, (ux38 e 3 (e.s k38 0)).st 2 (e.s k38 0), h⟩) fun e h =>
 blk 0 (sq (sq (bd (binK 0 .eql (e.s k38 3) (.int .i64 4)) fun t5 =>
 some ⟨.nm, ux38 e 4 t5, h⟩) fun e h =>
 br (e.s k38 4) (some ⟨.nm, e, h⟩)
 (sq (bd (binK 0 .eql (e.s k38 3) (.int .i64 8)) fun t6 =>
 some ⟨.nm, ux38 e 4 t6, h⟩) fun e h =>
 br (e.s k38 4) (some ⟨.nm, e, h⟩)
 (sq (bd (binK 0 .eql (e.s k38 3) (.int .i64 16)) fun t7 =>
 some ⟨.nm, ux38 e 4 t7, h⟩) fun e h =>
 br (e.s k38 4) (some ⟨.nm, e, h⟩)
 (bd (binK 0 .eql (e.s k38 3) (.int .i64 32)) fun t8 =>
 some ⟨.nm, ux38 e 4 t8, h⟩)))) fun e h =>
 br (e.s k38 4) (sq (some ⟨.nm, (ux38 e 2 (e.s k38 0)).st 1 (e.s k38 0), h⟩) fun e h =>
 some ⟨.rt, e, h⟩)
 (sq (bd (binK 0 .eql (e.s k38 3) (.int .i64 64)) fun t11 =>
 some ⟨.nm, ux38 e 10 t11, h⟩) fun e h =>
 br (e.s k38 10) (sq (bd (binK 0 .quo (e.s k38 0) (.int .i64 2)) fun t13 =>
 some ⟨.nm, (ux38 e 2 t13).st 1 t13, h⟩) fun e h =>
 some ⟨.rt, e, h⟩)
 (some ⟨.nm, e, h⟩)))) fun e h =>
 sq (some ⟨.nm, (ux38 e 2 (.int .i64 0)).st 1 (.int .i64 0), h⟩) fun e h =>
 some ⟨.rt, e, h⟩
noncomputable def f38 (K : Oracle) (L : Looper) (p0 : V) (h : H) : Option (Rv × H) := fin Try.prog k38 [.tmp 2] (s38 K L ⟨[p0, V.und, V.und], 0, p0⟩ h)
theorem r38 : (fun K L p0 h => runFF Try.prog kp K L 38 [p0] h) = f38 := by kernel_rfl

/-- (*zoetrope/coefs.block).end -/
@[simp] def k40 : List Nat := [0, 2, 3, 4, 5, 6, 8, 13, 14, 15]
@[simp] noncomputable def ux40 (e : E) (t : Nat) (v : V) : E := ⟨[(e.s k40 0), (e.s k40 2), (e.s k40 3), (e.s k40 4), (e.s k40 5), (e.s k40 6), (e.s k40 8), (e.s k40 13), (e.s k40 14), (e.s k40 15)], t, v⟩
noncomputable def l40_0 (K : Oracle) (L : Looper) (e : E) (h : H) : Out :=
 sq (bd (binK 0 .lss (e.s k40 15) (e.s k40 14)) fun t16 =>
 some ⟨.nm, ux40 e 16 t16, h⟩) fun e h =>
 sq (br (e.s k40 16) (some ⟨.nm, e, h⟩)
 (some ⟨.ex 0, e, h⟩)) fun e h =>
 sq (blk 1 (sq (bd (iaS 1 (e.s k40 13) (e.s k40 15)) fun t18 =>
 bd (ld h t18) fun t19 =>
 some ⟨.nm, ((ux40 e 5 t19).st 3 (e.s k40 15)).st 4 t19, h⟩) fun e h =>
 sq (bd (nilC (e.s k40 0)) fun t21 =>
 bd (fa 5 t21) fun t22 =>
 bd (ld h t22) fun t23 =>
 bd (iaS 1 t23 (e.s k40 5)) fun t25 =>
 bd (ld h t25) fun t26 =>
 bd (binK 0 .neq t26 (.int .i64 0)) fun t27 =>
 some ⟨.nm, ux40 e 27 t27, h⟩) fun e h =>
 br (e.s k40 27) (bd (binK 0 .add (e.s k40 4) (.int .i64 1)) fun t29 =>
 some ⟨.nm, (ux40 e 3 t29).st 2 t29, h⟩)
 (some ⟨.nm, e, h⟩))) fun e h =>
 bd (binK 0 .add (e.s k40 15) (.int .i64 1)) fun t30 =>
 some ⟨.nm, (ux40 e 15 t30).st 9 t30, h⟩
noncomputable def s40 (K : Oracle) (L : Looper) (e : E) (h : H) : Out :=
 sq (some ⟨.nm, (ux40 e 2 (.int .i64 0)).st 1 (.int .i64 0), h⟩) fun e h =>
 sq (some ⟨.nm, (ux40 e 3 (.int .i64 0)).st 2 (.int .i64 0), h⟩) fun e h =>
 sq (sq (bd (nilC (e.s k40 0)) fun t11 =>
 bd (fa 4 t11) fun t12 =>
 bd (ld h t12) fun t13 =>
 bd (lnS t13) fun t14 =>
 some ⟨.nm, (((ux40 e 15 (.int .i64 0)).st 7 t13).st 8 t14).st 9 (.int .i64 0), h⟩) fun e h =>
 blk 0 (L (l40_0 K L) e h)) fun e h =>
 sq (sq (bd (some (e.s k40 0)) fun t37 =>
 bd (nilC t37) fun t38 =>
 bd (fa 1 t38) fun t39 =>
 bd (ld h t39) fun t40 =>
 bd (binK 0 .gtr t40 (.int .i64 8)) fun t41 =>
 bk (K 51 [t41] h) (fun tp hp =>
 bd (some (e.s k40 3)) fun t44 =>
 bd (binK 0 .eql t44 (.int .i64 0)) fun t45 =>
 bd (some (e.s k40 0)) fun t31 =>
 bd (some (e.s k40 0)) fun t32 =>
 bd (nilC t32) fun t33 =>
 bd (fa 2 t33) fun t34 =>
 bd (ld h t34) fun t35 =>
 bd (binK 0 .mul (.int .i64 2) t35) fun t36 =>
 some ⟨.pn tp, fgE k40 [31, 32, 33, 34, 35, 36, 37, 38, 39, 40, 41, 42, 43, 44, 45, 46, 47, 48] e, hp⟩) fun _ _ =>
 bd (nilC (e.s k40 0)) fun t38 =>
 bd (fa 1 t38) fun t39 =>
 bd (ld h t39) fun t40 =>
 bd (binK 0 .gtr t40 (.int .i64 8)) fun t41 =>
 bn (K 51 [t41] h) fun t42 h1 =>
 bd (binK 0 .eql (e.s k40 3) (.int .i64 0)) fun t45 =>
 bn (K 51 [t45] h1) fun t46 h2 =>
 bd (nilC (e.s k40 0)) fun t33 =>
 bd (fa 2 t33) fun t34 =>
 bd (ld h2 t34) fun t35 =>
 bd (binK 0 .mul (.int .i64 2) t35) fun t36 =>
 bd (binK 0 .add t36 t42) fun t43 =>
 bn (K 50 [(e.s k40 0), (.int .i64 22), t43, t46] h2) fun t47 h3 =>
 bd (binK 0 .eql t47 (.int .i64 1)) fun t48 =>
 ck (ld h t34) t35 (ck (ld h1 t34) t35 (ck (ld h2 t34) t35 (ck (ld h t39) t40 (some ⟨.nm, ux40 e 48 t48, h3⟩))))) fun e h =>
 br (e.s k40 48) (sq (some ⟨.nm, (ux40 e 2 (.int .i64 0)).st 1 (.int .i64 0), h⟩) fun e h =>
 some ⟨.rt, e, h⟩)
 (some ⟨.nm, e, h⟩)) fun e h =>
 sq (bd (maxV [(e.s k40 3), (.int .i64 1)]) fun t51 =>
 bc k40 [50, 51, 52, 49, 53, 54, 55, 56, 6, 7, 8, 9] e (K 52 [t51] h) fun t52 h1 =>
 bd (exV t52 0) fun t53 =>
 bd (exV t52 1) fun t54 =>
 bd (exV t52 2) fun t55 =>
 bd (exV t52 3) fun t56 =>
 some ⟨.nm, ((ux40 e 9 t56).st 5 t53).st 6 t55, h1⟩) fun e h =>
 sq (bd (some (e.s k40 0)) fun t58 =>
 bd (nilC t58) fun t59 =>
 bd (fa 1 t59) fun t60 =>
 bd (ld h t60) fun t61 =>
 bk (K 53 [t61] h) (fun tp hp =>
 bd (some (e.s k40 0)) fun t57 =>
 bd (some (e.s k40 0)) fun t63 =>
 bd (nilC t63) fun t64 =>
 bd (fa 2 t64) fun t65 =>
 bd (ld h t65) fun t66 =>
 bd (some (e.s k40 6)) fun t67 =>
 some ⟨.pn tp, fgE k40 [57, 58, 59, 60, 61, 62, 63, 64, 65, 66, 67, 68, 6] e, hp⟩) fun _ _ =>
 bd (nilC (e.s k40 0)) fun t59 =>
 bd (fa 1 t59) fun t60 =>
 bd (ld h t60) fun t61 =>
 bn (K 53 [t61] h) fun t62 h1 =>
 bd (nilC (e.s k40 0)) fun t64 =>
 bd (fa 2 t64) fun t65 =>
 bd (ld h1 t65) fun t66 =>
 bn (K 50 [(e.s k40 0), t62, t66, (e.s k40 6)] h1) fun t68 h2 =>
 ck (ld h t60) t61 (ck (ld h t65) t66 (ck (ld h1 t65) t66 (some ⟨.nm, (ux40 e 6 t68).st 5 t68, h2⟩)))) fun e h =>
 sq (sq (bd (binK 0 .eql (e.s k40 6) (.int .i64 0)) fun t70 =>
 some ⟨.nm, ux40 e 70 t70, h⟩) fun e h =>
 br (e.s k40 70) (sq (some ⟨.nm, (ux40 e 2 (.int .i64 1)).st 1 (.int .i64 1), h⟩) fun e h =>
 some ⟨.rt, e, h⟩)
 (some ⟨.nm, e, h⟩)) fun e h =>
 sq (bd (some (e.s k40 0)) fun t75 =>
 bd (some (e.s k40 6)) fun t76 =>
 bd (binK 0 .sub t76 (.int .i64 1)) fun t77 =>
 bd (some (e.s k40 8)) fun t78 =>
 bk (K 54 [t75, t77, t78] h) (fun tp hp =>
 bd (some (e.s k40 6)) fun t71 =>
 bd (binK 0 .sub t71 (.int .i64 1)) fun t72 =>
 bd (binK 0 .shl (.int .i64 1) t72) fun t73 =>
 bd (binK 0 .add t73 (.int .i64 1)) fun t74 =>
 some ⟨.pn tp, fgE k40 [71, 72, 73, 74, 75, 76, 77, 78, 79, 80, 2] e, hp⟩) fun _ _ =>
 bd (binK 0 .sub (e.s k40 6) (.int .i64 1)) fun t77 =>
 bn (K 54 [(e.s k40 0), t77, (e.s k40 8)] h) fun t79 h1 =>
 bd (binK 0 .sub (e.s k40 6) (.int .i64 1)) fun t72 =>
 bd (binK 0 .shl (.int .i64 1) t72) fun t73 =>
 bd (binK 0 .add t73 (.int .i64 1)) fun t74 =>
 bd (binK 0 .add t74 t79) fun t80 =>
 some ⟨.nm, (ux40 e 2 t80).st 1 t80, h1⟩) fun e h =>
 some ⟨.rt, e, h⟩
noncomputable def f40 (K : Oracle) (L : Looper) (p0 : V) (h : H) : Option (Rv × H) := fin Try.prog k40 [.tmp 2] (s40 K L ⟨[p0, V.und, V.und, V.und, V.und, V.und, V.und, V.und, V.und, V.und], 0, p0⟩ h)
theorem r40 : (fun K L p0 h => runFF Try.prog kp K L 40 [p0] h) = f40 := by kernel_rfl

/-- (*zoetrope/coefs.block).amounts -/
@[simp] def k41 : List Nat := [0, 1, 4, 5, 6, 7, 8]
@[simp] noncomputable def ux41 (e : E) (t : Nat) (v : V) : E := ⟨[(e.s k41 0), (e.s k41 1), (e.s k41 4), (e.s k41 5), (e.s k41 6), (e.s k41 7), (e.s k41 8)], t, v⟩
noncomputable def l41_0 (K : Oracle) (L : Looper) (e : E) (h : H) : Out :=
 sq (sq (bd (binK 0 .geq (e.s k41 4) (.int .i64 0)) fun t13 =>
 some ⟨.nm, ux41 e 13 t13, h⟩) fun e h =>
 br (e.s k41 13) (some ⟨.nm, e, h⟩)
 (some ⟨.ex 0, e, h⟩)) fun e h =>
 sq (blk 1 (sq (bd (nilC (e.s k41 0)) fun t17 =>
 bd (fa 4 t17) fun t18 =>
 bd (ld h t18) fun t19 =>
 bd (iaS 1 t19 (e.s k41 4)) fun t21 =>
 bd (ld h t21) fun t22 =>
 some ⟨.nm, (ux41 e 5 t22).st 3 t22, h⟩) fun e h =>
 sq (bd (nilC (e.s k41 0)) fun t24 =>
 bd (fa 5 t24) fun t25 =>
 bd (ld h t25) fun t26 =>
 bd (iaS 1 t26 (e.s k41 5)) fun t28 =>
 bd (ld h t28) fun t29 =>
 bd (nilC (e.s k41 0)) fun t31 =>
 bd (fa 5 t31) fun t32 =>
 bd (ld h t32) fun t33 =>
 bd (iaS 1 t33 (e.s k41 5)) fun t35 =>
 bd (ld h t35) fun t36 =>
 bd (unV .neg t36) fun t37 =>
 bd (maxV [t29, t37]) fun t38 =>
 bd (minV [t38, (.int .i64 3)]) fun t39 =>
 ck (ld h t25) t26 (ck (ld h t28) t29 (ck (ld h t32) t33 (ck (ld h t35) t36 (some ⟨.nm, (ux41 e 6 t39).st 4 t39, h⟩))))) fun e h =>
 sq (some ⟨.nm, (ux41 e 7 (.int .i64 0)).st 5 (.int .i64 0), h⟩) fun e h =>
 sq (sq (bd (binK 0 .sub (e.s k41 1) (.int .i64 1)) fun t42 =>
 bd (binK 0 .eql (e.s k41 4) t42) fun t43 =>
 some ⟨.nm, ux41 e 43 t43, h⟩) fun e h =>
 br (e.s k41 43) (bd (nilC (e.s k41 0)) fun t46 =>
 bd (fa 2 t46) fun t47 =>
 bd (ld h t47) fun t48 =>
 bd (binK 0 .sub (e.s k41 6) (.int .i64 1)) fun t50 =>
 bd (maxV [t50, (.int .i64 0)]) fun t51 =>
 bc k41 [44, 45, 46, 47, 48, 49, 50, 51, 52, 53, 7] e (K 50 [(e.s k41 0), (.int .i64 27), t48, t51] h) fun t52 h1 =>
 bd (binK 0 .add (.int .i64 1) t52) fun t53 =>
 some ⟨.nm, (ux41 e 7 t53).st 5 t53, h1⟩)
 (sq (bd (some (e.s k41 0)) fun t55 =>
 bd (nilC t55) fun t56 =>
 bd (fa 6 t56) fun t57 =>
 bd (ld h t57) fun t58 =>
 bd (some (e.s k41 0)) fun t59 =>
 bd (nilC t59) fun t60 =>
 bd (fa 1 t60) fun t61 =>
 bd (ld h t61) fun t62 =>
 bd (some (e.s k41 5)) fun t63 =>
 bk (K 55 [t58, t62, t63] h) (fun tp hp =>
 some ⟨.pn tp, fgE k41 [55, 56, 57, 58, 59, 60, 61, 62, 63, 64, 54, 65, 66, 8, 9] e, hp⟩) fun _ _ =>
 bd (nilC (e.s k41 0)) fun t56 =>
 bd (fa 6 t56) fun t57 =>
 bd (ld h t57) fun t58 =>
 bd (nilC (e.s k41 0)) fun t60 =>
 bd (fa 1 t60) fun t61 =>
 bd (ld h t61) fun t62 =>
 bn (K 55 [t58, t62, (e.s k41 5)] h) fun t64 h1 =>
 bd (exV t64 0) fun t65 =>
 bd (exV t64 1) fun t66 =>
 ck (ld h t57) t58 (ck (ld h t61) t62 (some ⟨.nm, (ux41 e 9 t66).st 6 t65, h1⟩))) fun e h =>
 bd (nilC (e.s k41 0)) fun t69 =>
 bd (fa 2 t69) fun t70 =>
 bd (ld h t70) fun t71 =>
 bd (binK 0 .mul (.int .i64 5) t71) fun t72 =>
 bd (binK 0 .add t72 (e.s k41 8)) fun t74 =>
 bc k41 [67, 68, 69, 70, 71, 72, 73, 74, 75, 76, 7] e (K 50 [(e.s k41 0), (.int .i64 28), t74, (e.s k41 6)] h) fun t76 h1 =>
 some ⟨.nm, (ux41 e 7 t76).st 5 t76, h1⟩)) fun e h =>
 bd (some (e.s k41 0)) fun t82 =>
 bd (some (e.s k41 5)) fun t83 =>
 bd (some (e.s k41 7)) fun t84 =>
 bk (K 56 [t82, t83, t84] h) (fun tp hp =>
 bd (some (e.s k41 0)) fun t77 =>
 bd (nilC t77) fun t78 =>
 bd (fa 6 t78) fun t79 =>
 bd (ld h t79) fun t80 =>
 bd (some (e.s k41 5)) fun t81 =>
 some ⟨.pn tp, fgE k41 [77, 78, 79, 80, 81, 82, 83, 84, 85, 86] e, hp⟩) fun _ _ =>
 bn (K 56 [(e.s k41 0), (e.s k41 5), (e.s k41 7)] h) fun t85 h1 =>
 bd (nilC (e.s k41 0)) fun t78 =>
 bd (fa 6 t78) fun t79 =>
 bd (ld h1 t79) fun t80 =>
 bd (iaS 1 t80 (e.s k41 5)) fun t86 =>
 bf (stZ 1 h1 t86 t85) fun _ h2 =>
 ck (ld h t79) t80 (ck (ld h1 t79) t80 (some ⟨.nm, ux41 e 0 (e.s k41 0), h2⟩)))) fun e h =>
 bd (binK 0 .sub (e.s k41 4) (.int .i64 1)) fun t15 =>
 some ⟨.nm, (ux41 e 4 t15).st 2 t15, h⟩
noncomputable def s41 (K : Oracle) (L : Looper) (e : E) (h : H) : Out :=
 sq (bd (binK 0 .sub (e.s k41 1) (.int .i64 1)) fun t11 =>
 some ⟨.nm, (ux41 e 4 t11).st 2 t11, h⟩) fun e h =>
 blk 0 (L (l41_0 K L) e h)
noncomputable def f41 (K : Oracle) (L : Looper) (p0 p1 : V) (h : H) : Option (Rv × H) := fin Try.prog k41 [] (s41 K L ⟨[p0, p1, V.und, V.und, V.und, V.und, V.und], 0, p0⟩ h)
theorem r41 : (fun K L p0 p1 h => runFF Try.prog kp K L 41 [p0, p1] h) = f41 := by kernel_rfl

/-- (*zoetrope/coefs.block).signs -/
@[simp] def k42 : List Nat := [0, 1, 5, 6, 12, 13, 14]
@[simp] noncomputable def ux42 (e : E) (t : Nat) (v : V) : E := ⟨[(e.s k42 0), (e.s k42 1), (e.s k42 5), (e.s k42 6), (e.s k42 12), (e.s k42 13), (e.s k42 14)], t, v⟩
noncomputable def l42_0 (K : Oracle) (L : Looper) (e : E) (h : H) : Out :=
 sq (bd (binK 0 .lss (e.s k42 14) (e.s k42 13)) fun t15 =>
 some ⟨.nm, ux42 e 15 t15, h⟩) fun e h =>
 sq (br (e.s k42 15) (some ⟨.nm, e, h⟩)
 (some ⟨.ex 0, e, h⟩)) fun e h =>
 sq (blk 1 (sq (bd (iaS 1 (e.s k42 12) (e.s k42 14)) fun t16 =>
 bd (ld h t16) fun t17 =>
 some ⟨.nm, (ux42 e 5 t17).st 2 t17, h⟩) fun e h =>
 sq (sq (bd (nilC (e.s k42 0)) fun t19 =>
 bd (fa 6 t19) fun t20 =>
 bd (ld h t20) fun t21 =>
 bd (iaS 1 t21 (e.s k42 5)) fun t23 =>
 bd (ld h t23) fun t24 =>
 bd (binK 0 .eql t24 (.int .i64 0)) fun t25 =>
 some ⟨.nm, ux42 e 25 t25, h⟩) fun e h =>
 br (e.s k42 25) (some ⟨.ex 1, e, h⟩)
 (some ⟨.nm, e, h⟩)) fun e h =>
 sq (bd (nilC (e.s k42 0)) fun t27 =>
 bd (fa 5 t27) fun t28 =>
 bd (ld h t28) fun t29 =>
 bd (iaS 1 t29 (e.s k42 5)) fun t31 =>
 bd (ld h t31) fun t32 =>
 bd (binK 0 .lss t32 (.int .i64 0)) fun t33 =>
 bc k42 [26, 27, 28, 29, 30, 31, 32, 33, 34, 6] e (K 51 [t33] h) fun t34 h1 =>
 some ⟨.nm, (ux42 e 6 t34).st 3 t34, h1⟩) fun e h =>
 sq (sq (bd (binK 0 .eql (e.s k42 5) (.int .i64 0)) fun t36 =>
 some ⟨.nm, ux42 e 36 t36, h⟩) fun e h =>
 br (e.s k42 36) (bd (some (e.s k42 0)) fun t37 =>
 bd (some (e.s k42 0)) fun t38 =>
 bd (nilC t38) fun t39 =>
 bd (fa 2 t39) fun t40 =>
 bd (ld h t40) fun t41 =>
 bd (binK 0 .mul (.int .i64 3) t41) fun t42 =>
 bd (some (e.s k42 0)) fun t43 =>
 bd (nilC t43) fun t44 =>
 bd (fa 3 t44) fun t45 =>
 bd (ld h t45) fun t46 =>
 bd (binK 0 .add t42 t46) fun t47 =>
 bd (some (e.s k42 6)) fun t48 =>
 bk (K 50 [t37, (.int .i64 30), t47, t48] h) (fun tp hp =>
 some ⟨.pn tp, fgE k42 [37, 38, 39, 40, 41, 42, 43, 44, 45, 46, 47, 48, 49, 6] e, hp⟩) fun _ _ =>
 bd (nilC (e.s k42 0)) fun t39 =>
 bd (fa 2 t39) fun t40 =>
 bd (ld h t40) fun t41 =>
 bd (binK 0 .mul (.int .i64 3) t41) fun t42 =>
 bd (nilC (e.s k42 0)) fun t44 =>
 bd (fa 3 t44) fun t45 =>
 bd (ld h t45) fun t46 =>
 bd (binK 0 .add t42 t46) fun t47 =>
 bn (K 50 [(e.s k42 0), (.int .i64 30), t47, (e.s k42 6)] h) fun t49 h1 =>
 ck (ld h t40) t41 (ck (ld h t45) t46 (some ⟨.nm, (ux42 e 6 t49).st 3 t49, h1⟩)))
 (bc k42 [50, 51, 52, 6] e (K 54 [(e.s k42 0), (.int .i64 1), (e.s k42 6)] h) fun t52 h1 =>
 some ⟨.nm, (ux42 e 6 t52).st 3 t52, h1⟩)) fun e h =>
 sq (bd (binK 0 .eql (e.s k42 6) (.int .i64 1)) fun t54 =>
 some ⟨.nm, ux42 e 54 t54, h⟩) fun e h =>
 br (e.s k42 54) (bd (nilC (e.s k42 0)) fun t56 =>
 bd (fa 6 t56) fun t57 =>
 bd (ld h t57) fun t58 =>
 bd (nilC (e.s k42 0)) fun t61 =>
 bd (fa 6 t61) fun t62 =>
 bd (ld h t62) fun t63 =>
 bd (iaS 1 t63 (e.s k42 5)) fun t65 =>
 bd (ld h t65) fun t66 =>
 bd (unV .neg t66) fun t67 =>
 bd (iaS 1 t58 (e.s k42 5)) fun t68 =>
 bf (stZ 1 h t68 t67) fun _ h1 =>
 ck (ld h t57) t58 (ck (ld h t62) t63 (ck (ld h t65) t66 (some ⟨.nm, ux42 e 0 (e.s k42 0), h1⟩))))
 (some ⟨.nm, e, h⟩))) fun e h =>
 bd (binK 0 .add (e.s k42 14) (.int .i64 1)) fun t69 =>
 some ⟨.nm, (ux42 e 14 t69).st 6 t69, h⟩
noncomputable def s42 (K : Oracle) (L : Looper) (e : E) (h : H) : Out :=
 sq (bd (nilC (e.s k42 0)) fun t8 =>
 bd (fa 4 t8) fun t9 =>
 bd (ld h t9) fun t10 =>
 bd (slS 1 t10 none (some (e.s k42 1)) none) fun t12 =>
 bd (lnS t12) fun t13 =>
 some ⟨.nm, (((ux42 e 14 (.int .i64 0)).st 4 t12).st 5 t13).st 6 (.int .i64 0), h⟩) fun e h =>
 blk 0 (L (l42_0 K L) e h)
noncomputable def f42 (K : Oracle) (L : Looper) (p0 p1 : V) (h : H) : Option (Rv × H) := fin Try.prog k42 [] (s42 K L ⟨[p0, p1, V.und, V.und, V.und, V.und, V.und], 0, p0⟩ h)
theorem r42 : (fun K L p0 p1 h => runFF Try.prog kp K L 42 [p0, p1] h) = f42 := by kernel_rfl

/-- slices.Clone[[]byte,byte] -/
@[simp] def k43 : List Nat := [0, 2]
@[simp] noncomputable def ux43 (e : E) (t : Nat) (v : V) : E := ⟨[(e.s k43 0), (e.s k43 2)], t, v⟩
noncomputable def s43 (K : Oracle) (L : Looper) (e : E) (h : H) : Out :=
 sq (some ⟨.nm, (ux43 e 2 .nils).st 1 .nils, h⟩) fun e h =>
 sq (sq (bd (binK 3 .eql (e.s k43 0) .nils) fun t4 =>
 some ⟨.nm, ux43 e 4 t4, h⟩) fun e h =>
 br (e.s k43 4) (sq (some ⟨.nm, (ux43 e 2 .nils).st 1 .nils, h⟩) fun e h =>
 some ⟨.rt, e, h⟩)
 (some ⟨.nm, e, h⟩)) fun e h =>
 sq (bf (bs h 5 0 [] []) fun t5 h1 =>
 bf (apZ 5 1 1 h1 t5 (e.s k43 0)) fun t7 h2 =>
 some ⟨.nm, (ux43 e 2 t7).st 1 t7, h2⟩) fun e h =>
 some ⟨.rt, e, h⟩
noncomputable def f43 (K : Oracle) (L : Looper) (p0 : V) (h : H) : Option (Rv × H) := fin Try.prog k43 [.tmp 2] (s43 K L ⟨[p0, V.und], 0, p0⟩ h)
theorem r43 : (fun K L p0 h => runFF Try.prog kp K L 43 [p0] h) = f43 := by kernel_rfl

/-- (*zoetrope/rac.Encoder).shift -/
@[simp] def k44 : List Nat := [0]
@[simp] noncomputable def ux44 (e : E) (t : Nat) (v : V) : E := ⟨[(e.s k44 0)], t, v⟩
noncomputable def s44 (K : Oracle) (L : Looper) (e : E) (h : H) : Out :=
 sq (sq (bd (nilC (e.s k44 0)) fun t3 =>
 bd (fa 1 t3) fun t4 =>
 bd (ld h t4) fun t5 =>
 bd (binK 0 .gtr t5 (.int .u64 4294967295)) fun t6 =>
 some ⟨.nm, ⟨[(e.s k44 0)], 6, t6⟩, h⟩) fun e h =>
 br (e.s k44 6) (bc k44 [7, 8] e (K 57 [(e.s k44 0)] h) fun t8 h1 =>
 some ⟨.nm, ⟨[(e.s k44 0)], 8, t8⟩, h1⟩)
 (some ⟨.nm, e, h⟩)) fun e h =>
 sq (bd (nilC (e.s k44 0)) fun t11 =>
 bd (fa 0 t11) fun t12 =>
 bd (ld h t12) fun t13 =>
 bd (nilC (e.s k44 0)) fun t15 =>
 bd (fa 1 t15) fun t16 =>
 bd (ld h t16) fun t17 =>
 bd (binK 0 .shr t17 (.int .u64 24)) fun t18 =>
 bd (cv .u8 t18) fun t19 =>
 bf (bs h 5 1 [(.int .u8 0)] [(some (0, 1), t19)]) fun t20 h1 =>
 bf (apZ 5 1 1 h1 t13 t20) fun t21 h2 =>
 bd (nilC (e.s k44 0)) fun t22 =>
 bd (fa 0 t22) fun t23 =>
 bf (stZ 1 h2 t23 t21) fun _ h3 =>
 ck (ld h t12) t13 (ck (ld h t16) t17 (some ⟨.nm, ⟨[(e.s k44 0)], 0, (e.s k44 0)⟩, h3⟩))) fun e h =>
 bd (nilC (e.s k44 0)) fun t26 =>
 bd (fa 1 t26) fun t27 =>
 bd (ld h t27) fun t28 =>
 bd (binK 0 .and t28 (.int .u64 16777215)) fun t29 =>
 bd (binK 0 .shl t29 (.int .u64 8)) fun t30 =>
 bd (nilC (e.s k44 0)) fun t31 =>
 bd (fa 1 t31) fun t32 =>
 bf (stZ 1 h t32 t30) fun _ h1 =>
 some ⟨.nm, ⟨[(e.s k44 0)], 0, (e.s k44 0)⟩, h1⟩
noncomputable def f44 (K : Oracle) (L : Looper) (p0 : V) (h : H) : Option (Rv × H) := fin Try.prog k44 [] (s44 K L ⟨[p0], 0, p0⟩ h)
theorem r44 : (fun K L p0 h => runFF Try.prog kp K L 44 [p0] h) = f44 := by kernel_rfl

/-- (*zoetrope/rac.Decoder).shift -/
@[simp] def k45 : List Nat := [0]
@[simp] noncomputable def ux45 (e : E) (t : Nat) (v : V) : E := ⟨[(e.s k45 0)], t, v⟩
noncomputable def s45 (K : Oracle) (L : Looper) (e : E) (h : H) : Out :=
 sq (bd (nilC (e.s k45 0)) fun t3 =>
 bd (fa 1 t3) fun t4 =>
 bd (ld h t4) fun t5 =>
 bd (binK 0 .shl t5 (.int .u64 8)) fun t6 =>
 bd (nilC (e.s k45 0)) fun t7 =>
 bd (fa 1 t7) fun t8 =>
 bf (stZ 1 h t8 t6) fun _ h1 =>
 some ⟨.nm, ⟨[(e.s k45 0)], 0, (e.s k45 0)⟩, h1⟩) fun e h =>
 sq (bd (nilC (e.s k45 0)) fun t10 =>
 bd (fa 0 t10) fun t11 =>
 bd (ld h t11) fun t12 =>
 bd (lnS t12) fun t13 =>
 bd (binK 0 .gtr t13 (.int .i64 0)) fun t14 =>
 some ⟨.nm, ⟨[(e.s k45 0)], 14, t14⟩, h⟩) fun e h =>
 br (e.s k45 14) (sq (bd (nilC (e.s k45 0)) fun t16 =>
 bd (fa 1 t16) fun t17 =>
 bd (ld h t17) fun t18 =>
 bd (nilC (e.s k45 0)) fun t20 =>
 bd (fa 0 t20) fun t21 =>
 bd (ld h t21) fun t22 =>
 bd (iaS 1 t22 (.int .i64 0)) fun t23 =>
 bd (ld h t23) fun t24 =>
 bd (cv .u32 t24) fun t25 =>
 bd (binK 0 .or t18 t25) fun t26 =>
 bd (nilC (e.s k45 0)) fun t27 =>
 bd (fa 1 t27) fun t28 =>
 bf (stZ 1 h t28 t26) fun _ h1 =>
 ck (ld h t17) t18 (ck (ld h t21) t22 (ck (ld h t23) t24 (some ⟨.nm, ⟨[(e.s k45 0)], 0, (e.s k45 0)⟩, h1⟩)))) fun e h =>
 bd (nilC (e.s k45 0)) fun t31 =>
 bd (fa 0 t31) fun t32 =>
 bd (ld h t32) fun t33 =>
 bd (slS 1 t33 (some (.int .i64 1)) none none) fun t34 =>
 bd (nilC (e.s k45 0)) fun t35 =>
 bd (fa 0 t35) fun t36 =>
 bf (stZ 1 h t36 t34) fun _ h1 =>
 some ⟨.nm, ⟨[(e.s k45 0)], 0, (e.s k45 0)⟩, h1⟩)
 (some ⟨.nm, e, h⟩)
noncomputable def f45 (K : Oracle) (L : Looper) (p0 : V) (h : H) : Option (Rv × H) := fin Try.prog k45 [] (s45 K L ⟨[p0], 0, p0⟩ h)
theorem r45 : (fun K L p0 h => runFF Try.prog kp K L 45 [p0] h) = f45 := by kernel_rfl

/-- slices.IsSorted[[]uint16,uint16] -/
@[simp] def k46 : List Nat := [0, 2, 3]
@[simp] noncomputable def ux46 (e : E) (t : Nat) (v : V) : E := ⟨[(e.s k46 0), (e.s k46 2), (e.s k46 3)], t, v⟩
noncomputable def l46_0 (K : Oracle) (L : Looper) (e : E) (h : H) : Out :=
 sq (sq (bd (binK 0 .gtr (e.s k46 3) (.int .i64 0)) fun t8 =>
 some ⟨.nm, ux46 e 8 t8, h⟩) fun e h =>
 br (e.s k46 8) (some ⟨.nm, e, h⟩)
 (some ⟨.ex 0, e, h⟩)) fun e h =>
 sq (blk 1 (sq (bd (some (e.s k46 0)) fun t11 =>
 bd (some (e.s k46 3)) fun t12 =>
 bd (iaS 1 t11 t12) fun t13 =>
 bd (ld h t13) fun t14 =>
 bd (some (e.s k46 0)) fun t15 =>
 bd (some (e.s k46 3)) fun t16 =>
 bd (binK 0 .sub t16 (.int .i64 1)) fun t17 =>
 bd (iaS 1 t15 t17) fun t18 =>
 bd (ld h t18) fun t19 =>
 bk (K 58 [t14, t19] h) (fun tp hp =>
 some ⟨.pn tp, fgE k46 [11, 12, 13, 14, 15, 16, 17, 18, 19, 20] e, hp⟩) fun _ _ =>
 bd (iaS 1 (e.s k46 0) (e.s k46 3)) fun t13 =>
 bd (ld h t13) fun t14 =>
 bd (binK 0 .sub (e.s k46 3) (.int .i64 1)) fun t17 =>
 bd (iaS 1 (e.s k46 0) t17) fun t18 =>
 bd (ld h t18) fun t19 =>
 bn (K 58 [t14, t19] h) fun t20 h1 =>
 ck (ld h t13) t14 (ck (ld h t18) t19 (some ⟨.nm, ux46 e 20 t20, h1⟩))) fun e h =>
 br (e.s k46 20) (sq (some ⟨.nm, (ux46 e 2 (.bool false)).st 1 (.bool false), h⟩) fun e h =>
 some ⟨.rt, e, h⟩)
 (some ⟨.nm, e, h⟩))) fun e h =>
 bd (binK 0 .sub (e.s k46 3) (.int .i64 1)) fun t10 =>
 some ⟨.nm, (ux46 e 3 t10).st 2 t10, h⟩
noncomputable def s46 (K : Oracle) (L : Looper) (e : E) (h : H) : Out :=
 sq (some ⟨.nm, (ux46 e 2 (.bool false)).st 1 (.bool false), h⟩) fun e h =>
 sq (sq (bd (lnS (e.s k46 0)) fun t5 =>
 bd (binK 0 .sub t5 (.int .i64 1)) fun t6 =>
 some ⟨.nm, (ux46 e 3 t6).st 2 t6, h⟩) fun e h =>
 blk 0 (L (l46_0 K L) e h)) fun e h =>
 sq (some ⟨.nm, (ux46 e 2 (.bool true)).st 1 (.bool true), h⟩) fun e h =>
 some ⟨.rt, e, h⟩
noncomputable def f46 (K : Oracle) (L : Looper) (p0 : V) (h : H) : Option (Rv × H) := fin Try.prog k46 [.tmp 2] (s46 K L ⟨[p0, V.und, V.und], 0, p0⟩ h)
theorem r46 : (fun K L p0 h => runFF Try.prog kp K L 46 [p0] h) = f46 := by kernel_rfl

/-- (*zoetrope/rac.Decoder).Value -/
@[simp] def k47 : List Nat := [0, 2, 3]
@[simp] noncomputable def ux47 (e : E) (t : Nat) (v : V) : E := ⟨[(e.s k47 0), (e.s k47 2), (e.s k47 3)], t, v⟩
noncomputable def s47 (K : Oracle) (L : Looper) (e : E) (h : H) : Out :=
 sq (some ⟨.nm, ((ux47 e 3 (.int .i64 0)).st 1 (.int .u32 0)).st 2 (.int .i64 0), h⟩) fun e h =>
 sq (sq (bd (binK 2 .eql (e.s k47 0) .nilp) fun t5 =>
 bd (gl t5 false (some (e.s k47 0))) fun t7 =>
 bd (gl t5 false (nilC t7)) fun t8 =>
 bd (gl t5 false (fa 2 t8)) fun t9 =>
 bd (gl t5 false (ld h t9)) fun t10 =>
 bd (gl t5 false (binK 0 .eql t10 (.int .u32 0))) fun t11 =>
 bd (pk t5 (.bool true) t11) fun t12 =>
 some ⟨.nm, ux47 e 12 t12, h⟩) fun e h =>
 br (e.s k47 12) (sq (some ⟨.nm, ((ux47 e 3 (.int .i64 1)).st 1 (.int .u32 0)).st 2 (.int .i64 1), h⟩) fun e h =>
 some ⟨.rt, e, h⟩)
 (some ⟨.nm, e, h⟩)) fun e h =>
 sq (bc k47 [13, 14, 2, 3] e (K 59 [(e.s k47 0)] h) fun t14 h1 =>
 some ⟨.nm, ((ux47 e 3 (.int .i64 0)).st 1 t14).st 2 (.int .i64 0), h1⟩) fun e h =>
 some ⟨.rt, e, h⟩
noncomputable def f47 (K : Oracle) (L : Looper) (p0 : V) (h : H) : Option (Rv × H) := fin Try.prog k47 [.tmp 2, .tmp 3] (s47 K L ⟨[p0, V.und, V.und], 0, p0⟩ h)
theorem r47 : (fun K L p0 h => runFF Try.prog kp K L 47 [p0] h) = f47 := by kernel_rfl

/-- (*zoetrope/rac.Encoder).Put -/
@[simp] def k48 : List Nat := [0, 1, 2, 6, 7, 8]
@[simp] noncomputable def ux48 (e : E) (t : Nat) (v : V) : E := ⟨[(e.s k48 0), (e.s k48 1), (e.s k48 2), (e.s k48 6), (e.s k48 7), (e.s k48 8)], t, v⟩
noncomputable def l48_0 (K : Oracle) (L : Looper) (e : E) (h : H) : Out :=
 sq (sq (bd (binK 0 .leq (e.s k48 8) (.int .u32 16777215)) fun t47 =>
 some ⟨.nm, ux48 e 47 t47, h⟩) fun e h =>
 br (e.s k48 47) (some ⟨.nm, e, h⟩)
 (some ⟨.ex 1, e, h⟩)) fun e h =>
 sq (blk 2 (bc k48 [50, 51] e (K 44 [(e.s k48 0)] h) fun t51 h1 =>
 some ⟨.nm, ux48 e 51 t51, h1⟩)) fun e h =>
 bd (binK 0 .shl (e.s k48 8) (.int .u64 8)) fun t49 =>
 some ⟨.nm, (ux48 e 8 t49).st 5 t49, h⟩
noncomputable def s48 (K : Oracle) (L : Looper) (e : E) (h : H) : Out :=
 sq (some ⟨.nm, (ux48 e 6 (.int .i64 0)).st 3 (.int .i64 0), h⟩) fun e h =>
 sq (blk 0 (sq (bd (binK 2 .eql (e.s k48 0) .nilp) fun t11 =>
 bd (gl t11 false (some (e.s k48 0))) fun t13 =>
 bd (gl t11 false (nilC t13)) fun t14 =>
 bd (gl t11 false (fa 2 t14)) fun t15 =>
 bd (gl t11 false (ld h t15)) fun t16 =>
 bd (gl t11 false (binK 0 .eql t16 (.int .u32 0))) fun t17 =>
 bd (pk t11 (.bool true) t17) fun t18 =>
 some ⟨.nm, ux48 e 9 t18, h⟩) fun e h =>
 br (e.s k48 9) (sq (some ⟨.nm, (ux48 e 6 (.int .i64 1)).st 3 (.int .i64 1), h⟩) fun e h =>
 some ⟨.rt, e, h⟩)
 (sq (bd (binK 0 .geq (e.s k48 1) (e.s k48 2)) fun t22 =>
 bd (gl t22 false (some (e.s k48 2))) fun t24 =>
 bd (gl t22 false (binK 0 .gtr t24 (.int .u32 32768))) fun t25 =>
 bd (pk t22 (.bool true) t25) fun t26 =>
 some ⟨.nm, ux48 e 19 t26, h⟩) fun e h =>
 br (e.s k48 19) (sq (some ⟨.nm, (ux48 e 6 (.int .i64 2)).st 3 (.int .i64 2), h⟩) fun e h =>
 some ⟨.rt, e, h⟩)
 (some ⟨.nm, e, h⟩)))) fun e h =>
 sq (bd (nilC (e.s k48 0)) fun t29 =>
 bd (fa 2 t29) fun t30 =>
 bd (ld h t30) fun t31 =>
 bc k48 [28, 29, 30, 31, 32, 33, 34, 27, 35, 36, 7, 8] e (K 60 [t31, (e.s k48 1), (e.s k48 2)] h) fun t34 h1 =>
 bd (exV t34 0) fun t35 =>
 bd (exV t34 1) fun t36 =>
 some ⟨.nm, ((ux48 e 8 t36).st 4 t35).st 5 t36, h1⟩) fun e h =>
 sq (bd (nilC (e.s k48 0)) fun t38 =>
 bd (fa 1 t38) fun t39 =>
 bd (ld h t39) fun t40 =>
 bd (cv .u64 (e.s k48 7)) fun t42 =>
 bd (binK 0 .add t40 t42) fun t43 =>
 bd (nilC (e.s k48 0)) fun t44 =>
 bd (fa 1 t44) fun t45 =>
 bf (stZ 1 h t45 t43) fun _ h1 =>
 some ⟨.nm, ux48 e 0 (e.s k48 0), h1⟩) fun e h =>
 sq (blk 1 (L (l48_0 K L) e h)) fun e h =>
 sq (bd (nilC (e.s k48 0)) fun t54 =>
 bd (fa 2 t54) fun t55 =>
 bf (stZ 1 h t55 (e.s k48 8)) fun _ h1 =>
 some ⟨.nm, ux48 e 0 (e.s k48 0), h1⟩) fun e h =>
 sq (some ⟨.nm, (ux48 e 6 (.int .i64 0)).st 3 (.int .i64 0), h⟩) fun e h =>
 some ⟨.rt, e, h⟩
noncomputable def f48 (K : Oracle) (L : Looper) (p0 p1 p2 : V) (h : H) : Option (Rv × H) := fin Try.prog k48 [.tmp 6] (s48 K L ⟨[p0, p1, p2, V.und, V.und, V.und], 0, p0⟩ h)
theorem r48 : (fun K L p0 p1 p2 h => runFF Try.prog kp K L 48 [p0, p1, p2] h) = f48 := by kernel_rfl

/-- (*zoetrope/rac.Decoder).Take -/
@[simp] def k49 : List Nat := [0, 1, 2, 6, 7, 8, 9]
@[simp] noncomputable def ux49 (e : E) (t : Nat) (v : V) : E := ⟨[(e.s k49 0), (e.s k49 1), (e.s k49 2), (e.s k49 6), (e.s k49 7), (e.s k49 8), (e.s k49 9)], t, v⟩
noncomputable def l49_0 (K : Oracle) (L : Looper) (e : E) (h : H) : Out :=
 sq (sq (bd (binK 0 .leq (e.s k49 9) (.int .u32 16777215)) fun t52 =>
 some ⟨.nm, ux49 e 52 t52, h⟩) fun e h =>
 br (e.s k49 52) (some ⟨.nm, e, h⟩)
 (some ⟨.ex 0, e, h⟩)) fun e h =>
 sq (blk 1 (bc k49 [55, 56] e (K 45 [(e.s k49 0)] h) fun t56 h1 =>
 some ⟨.nm, ux49 e 56 t56, h1⟩)) fun e h =>
 bd (binK 0 .shl (e.s k49 9) (.int .u64 8)) fun t54 =>
 some ⟨.nm, (ux49 e 9 t54).st 6 t54, h⟩
noncomputable def s49 (K : Oracle) (L : Looper) (e : E) (h : H) : Out :=
 sq (some ⟨.nm, (ux49 e 6 (.int .i64 0)).st 3 (.int .i64 0), h⟩) fun e h =>
 sq (sq (bd (binK 2 .eql (e.s k49 0) .nilp) fun t11 =>
 bd (gl t11 false (some (e.s k49 0))) fun t13 =>
 bd (gl t11 false (nilC t13)) fun t14 =>
 bd (gl t11 false (fa 2 t14)) fun t15 =>
 bd (gl t11 false (ld h t15)) fun t16 =>
 bd (gl t11 false (binK 0 .eql t16 (.int .u32 0))) fun t17 =>
 bd (pk t11 (.bool true) t17) fun t18 =>
 some ⟨.nm, ux49 e 18 t18, h⟩) fun e h =>
 br (e.s k49 18) (sq (some ⟨.nm, (ux49 e 6 (.int .i64 1)).st 3 (.int .i64 1), h⟩) fun e h =>
 some ⟨.rt, e, h⟩)
 (some ⟨.nm, e, h⟩)) fun e h =>
 sq (sq (bc k49 [19, 20, 7] e (K 59 [(e.s k49 0)] h) fun t20 h1 =>
 some ⟨.nm, (ux49 e 7 t20).st 4 t20, h1⟩) fun e h =>
 sq (bd (binK 0 .gtr (e.s k49 1) (e.s k49 7)) fun t23 =>
 bd (gl t23 false (some (e.s k49 2))) fun t25 =>
 bd (gl t23 false (some (e.s k49 7))) fun t26 =>
 bd (gl t23 false (binK 0 .leq t25 t26)) fun t27 =>
 bd (pk t23 (.bool true) t27) fun t28 =>
 bd (gl t28 false (some (e.s k49 2))) fun t30 =>
 bd (gl t28 false (binK 0 .gtr t30 (.int .u32 32768))) fun t31 =>
 bd (pk t28 (.bool true) t31) fun t32 =>
 some ⟨.nm, ux49 e 32 t32, h⟩) fun e h =>
 br (e.s k49 32) (sq (some ⟨.nm, (ux49 e 6 (.int .i64 2)).st 3 (.int .i64 2), h⟩) fun e h =>
 some ⟨.rt, e, h⟩)
 (some ⟨.nm, e, h⟩)) fun e h =>
 sq (bd (nilC (e.s k49 0)) fun t35 =>
 bd (fa 2 t35) fun t36 =>
 bd (ld h t36) fun t37 =>
 bc k49 [34, 35, 36, 37, 38, 39, 40, 33, 41, 42, 8, 9] e (K 60 [t37, (e.s k49 1), (e.s k49 2)] h) fun t40 h1 =>
 bd (exV t40 0) fun t41 =>
 bd (exV t40 1) fun t42 =>
 some ⟨.nm, ((ux49 e 9 t42).st 5 t41).st 6 t42, h1⟩) fun e h =>
 sq (bd (nilC (e.s k49 0)) fun t44 =>
 bd (fa 1 t44) fun t45 =>
 bd (ld h t45) fun t46 =>
 bd (binK 0 .sub t46 (e.s k49 8)) fun t48 =>
 bd (nilC (e.s k49 0)) fun t49 =>
 bd (fa 1 t49) fun t50 =>
 bf (stZ 1 h t50 t48) fun _ h1 =>
 some ⟨.nm, ux49 e 0 (e.s k49 0), h1⟩) fun e h =>
 sq (blk 0 (L (l49_0 K L) e h)) fun e h =>
 sq (bd (nilC (e.s k49 0)) fun t59 =>
 bd (fa 2 t59) fun t60 =>
 bf (stZ 1 h t60 (e.s k49 9)) fun _ h1 =>
 some ⟨.nm, ux49 e 0 (e.s k49 0), h1⟩) fun e h =>
 sq (some ⟨.nm, (ux49 e 6 (.int .i64 0)).st 3 (.int .i64 0), h⟩) fun e h =>
 some ⟨.rt, e, h⟩
noncomputable def f49 (K : Oracle) (L : Looper) (p0 p1 p2 : V) (h : H) : Option (Rv × H) := fin Try.prog k49 [.tmp 6] (s49 K L ⟨[p0, p1, p2, V.und, V.und, V.und, V.und], 0, p0⟩ h)
theorem r49 : (fun K L p0 p1 p2 h => runFF Try.prog kp K L 49 [p0, p1, p2] h) = f49 := by kernel_rfl

/-- (*zoetrope/coefs.block).symbol -/
@[simp] def k50 : List Nat := [0, 1, 2, 3, 8]
@[simp] noncomputable def ux50 (e : E) (t : Nat) (v : V) : E := ⟨[(e.s k50 0), (e.s k50 1), (e.s k50 2), (e.s k50 3), (e.s k50 8)], t, v⟩
noncomputable def s50 (K : Oracle) (L : Looper) (e : E) (h : H) : Out :=
 sq (some ⟨.nm, (ux50 e 8 (.int .i64 0)).st 4 (.int .i64 0), h⟩) fun e h =>
 sq (bd (nilC (e.s k50 0)) fun t10 =>
 bd (fa 0 t10) fun t11 =>
 bd (ld h t11) fun t12 =>
 bc k50 [9, 10, 11, 12, 13, 14, 15, 16, 17, 18, 19, 8] e (K 62 [t12, (e.s k50 1), (e.s k50 2), (e.s k50 3)] h) fun t16 h1 =>
 bd (exV t16 0) fun t17 =>
 bd (exV t16 1) fun t18 =>
 bc k50 [9, 10, 11, 12, 13, 14, 15, 16, 17, 18, 19, 8] e (K 61 [t17, t18] h1) fun t19 h2 =>
 some ⟨.nm, (ux50 e 8 t19).st 4 t19, h2⟩) fun e h =>
 some ⟨.rt, e, h⟩
noncomputable def f50 (K : Oracle) (L : Looper) (p0 p1 p2 p3 : V) (h : H) : Option (Rv × H) := fin Try.prog k50 [.tmp 8] (s50 K L ⟨[p0, p1, p2, p3, V.und], 0, p0⟩ h)
theorem r50 : (fun K L p0 p1 p2 p3 h => runFF Try.prog kp K L 50 [p0, p1, p2, p3] h) = f50 := by kernel_rfl

/-- zoetrope/coefs.flag -/
@[simp] def k51 : List Nat := [0, 2]
@[simp] noncomputable def ux51 (e : E) (t : Nat) (v : V) : E := ⟨[(e.s k51 0), (e.s k51 2)], t, v⟩
noncomputable def s51 (K : Oracle) (L : Looper) (e : E) (h : H) : Out :=
 sq (some ⟨.nm, (ux51 e 2 (.int .i64 0)).st 1 (.int .i64 0), h⟩) fun e h =>
 sq (sq (some ⟨.nm, ux51 e 3 (e.s k51 0), h⟩) fun e h =>
 br (e.s k51 3) (sq (some ⟨.nm, (ux51 e 2 (.int .i64 1)).st 1 (.int .i64 1), h⟩) fun e h =>
 some ⟨.rt, e, h⟩)
 (some ⟨.nm, e, h⟩)) fun e h =>
 sq (some ⟨.nm, (ux51 e 2 (.int .i64 0)).st 1 (.int .i64 0), h⟩) fun e h =>
 some ⟨.rt, e, h⟩
noncomputable def f51 (K : Oracle) (L : Looper) (p0 : V) (h : H) : Option (Rv × H) := fin Try.prog k51 [.tmp 2] (s51 K L ⟨[p0, V.und], 0, p0⟩ h)
theorem r51 : (fun K L p0 h => runFF Try.prog kp K L 51 [p0] h) = f51 := by kernel_rfl

/-- zoetrope/scan.Class -/
@[simp] def k52 : List Nat := [0, 2, 3, 4, 5]
@[simp] noncomputable def ux52 (e : E) (t : Nat) (v : V) : E := ⟨[(e.s k52 0), (e.s k52 2), (e.s k52 3), (e.s k52 4), (e.s k52 5)], t, v⟩
noncomputable def s52 (K : Oracle) (L : Looper) (e : E) (h : H) : Out :=
 sq (some ⟨.nm, ((((ux52 e 5 (.int .i64 0)).st 1 (.int .i64 0)).st 2 (.int .i64 0)).st 3 (.int .i64 0)).st 4 (.int .i64 0), h⟩) fun e h =>
 sq (blk 0 (sq (bd (binK 0 .lss (e.s k52 0) (.int .i64 1)) fun t8 =>
 bd (gl t8 false (some (e.s k52 0))) fun t10 =>
 bd (gl t8 false (binK 0 .gtr t10 (.int .i64 1024))) fun t11 =>
 bd (pk t8 (.bool true) t11) fun t12 =>
 some ⟨.nm, ux52 e 6 t12, h⟩) fun e h =>
 br (e.s k52 6) (sq (some ⟨.nm, ((((ux52 e 5 (.int .i64 2)).st 1 (.int .i64 0)).st 2 (.int .i64 0)).st 3 (.int .i64 0)).st 4 (.int .i64 2), h⟩) fun e h =>
 some ⟨.rt, e, h⟩)
 (sq (bd (binK 0 .eql (e.s k52 0) (.int .i64 1)) fun t15 =>
 some ⟨.nm, ux52 e 13 t15, h⟩) fun e h =>
 br (e.s k52 13) (sq (some ⟨.nm, ((((ux52 e 5 (.int .i64 0)).st 1 (.int .i64 0)).st 2 (.int .i64 0)).st 3 (.int .i64 0)).st 4 (.int .i64 0), h⟩) fun e h =>
 some ⟨.rt, e, h⟩)
 (some ⟨.nm, e, h⟩)))) fun e h =>
 sq (bd (binK 0 .sub (e.s k52 0) (.int .i64 1)) fun t17 =>
 bd (cv .u64 t17) fun t18 =>
 bc k52 [16, 17, 18, 19, 2] e (K 63 [t18] h) fun t19 h1 =>
 some ⟨.nm, (ux52 e 2 t19).st 1 t19, h1⟩) fun e h =>
 sq (bd (binK 0 .sub (e.s k52 2) (.int .i64 1)) fun t22 =>
 bd (binK 0 .sub (e.s k52 2) (.int .i64 1)) fun t25 =>
 bd (binK 0 .shl (.int .i64 1) t25) fun t26 =>
 bd (binK 0 .sub (e.s k52 0) t26) fun t27 =>
 bd (binK 0 .sub t27 (.int .i64 1)) fun t28 =>
 some ⟨.nm, (((ux52 e 5 (.int .i64 0)).st 2 t22).st 3 t28).st 4 (.int .i64 0), h⟩) fun e h =>
 some ⟨.rt, e, h⟩
noncomputable def f52 (K : Oracle) (L : Looper) (p0 : V) (h : H) : Option (Rv × H) := fin Try.prog k52 [.tmp 2, .tmp 3, .tmp 4, .tmp 5] (s52 K L ⟨[p0, V.und, V.und, V.und, V.und], 0, p0⟩ h)
theorem r52 : (fun K L p0 h => runFF Try.prog kp K L 52 [p0] h) = f52 := by kernel_rfl

/-- zoetrope/coefs.endKind -/
@[simp] def k53 : List Nat := [0, 2, 3]
@[simp] noncomputable def ux53 (e : E) (t : Nat) (v : V) : E := ⟨[(e.s k53 0), (e.s k53 2), (e.s k53 3)], t, v⟩
noncomputable def s53 (K : Oracle) (L : Looper) (e : E) (h : H) : Out :=
 sq (some ⟨.nm, (ux53 e 2 (.int .i64 0)).st 1 (.int .i64 0), h⟩) fun e h =>
 sq (sq (some ⟨.nm, (ux53 e 3 (e.s k53 0)).st 2 (e.s k53 0), h⟩) fun e h =>
 blk 0 (sq (bd (binK 0 .eql (e.s k53 3) (.int .i64 4)) fun t5 =>
 some ⟨.nm, ux53 e 4 t5, h⟩) fun e h =>
 br (e.s k53 4) (sq (some ⟨.nm, (ux53 e 2 (.int .i64 23)).st 1 (.int .i64 23), h⟩) fun e h =>
 some ⟨.rt, e, h⟩)
 (sq (bd (binK 0 .eql (e.s k53 3) (.int .i64 8)) fun t7 =>
 some ⟨.nm, ux53 e 6 t7, h⟩) fun e h =>
 br (e.s k53 6) (sq (some ⟨.nm, (ux53 e 2 (.int .i64 24)).st 1 (.int .i64 24), h⟩) fun e h =>
 some ⟨.rt, e, h⟩)
 (sq (bd (binK 0 .eql (e.s k53 3) (.int .i64 16)) fun t9 =>
 some ⟨.nm, ux53 e 8 t9, h⟩) fun e h =>
 br (e.s k53 8) (sq (some ⟨.nm, (ux53 e 2 (.int .i64 25)).st 1 (.int .i64 25), h⟩) fun e h =>
 some ⟨.rt, e, h⟩)
 (some ⟨.nm, e, h⟩))))) fun e h =>
 sq (some ⟨.nm, (ux53 e 2 (.int .i64 26)).st 1 (.int .i64 26), h⟩) fun e h =>
 some ⟨.rt, e, h⟩
noncomputable def f53 (K : Oracle) (L : Looper) (p0 : V) (h : H) : Option (Rv × H) := fin Try.prog k53 [.tmp 2] (s53 K L ⟨[p0, V.und, V.und], 0, p0⟩ h)
theorem r53 : (fun K L p0 h => runFF Try.prog kp K L 53 [p0] h) = f53 := by kernel_rfl

/-- (*zoetrope/coefs.block).number -/
@[simp] def k54 : List Nat := [0, 1, 2, 6]
@[simp] noncomputable def ux54 (e : E) (t : Nat) (v : V) : E := ⟨[(e.s k54 0), (e.s k54 1), (e.s k54 2), (e.s k54 6)], t, v⟩
noncomputable def s54 (K : Oracle) (L : Looper) (e : E) (h : H) : Out :=
 sq (some ⟨.nm, (ux54 e 6 (.int .i64 0)).st 3 (.int .i64 0), h⟩) fun e h =>
 sq (bd (nilC (e.s k54 0)) fun t8 =>
 bd (fa 0 t8) fun t9 =>
 bd (ld h t9) fun t10 =>
 bc k54 [7, 8, 9, 10, 11, 12, 13, 14, 15, 16, 6] e (K 24 [t10, (e.s k54 1), (e.s k54 2)] h) fun t13 h1 =>
 bd (exV t13 0) fun t14 =>
 bd (exV t13 1) fun t15 =>
 bc k54 [7, 8, 9, 10, 11, 12, 13, 14, 15, 16, 6] e (K 61 [t14, t15] h1) fun t16 h2 =>
 some ⟨.nm, (ux54 e 6 t16).st 3 t16, h2⟩) fun e h =>
 some ⟨.rt, e, h⟩
noncomputable def f54 (K : Oracle) (L : Looper) (p0 p1 p2 : V) (h : H) : Option (Rv × H) := fin Try.prog k54 [.tmp 6] (s54 K L ⟨[p0, p1, p2, V.und], 0, p0⟩ h)
theorem r54 : (fun K L p0 p1 p2 h => runFF Try.prog kp K L 54 [p0, p1, p2] h) = f54 := by kernel_rfl

/-- zoetrope/scan.Base -/
@[simp] def k55 : List Nat := [0, 1, 2, 6, 7]
@[simp] noncomputable def ux55 (e : E) (t : Nat) (v : V) : E := ⟨[(e.s k55 0), (e.s k55 1), (e.s k55 2), (e.s k55 6), (e.s k55 7)], t, v⟩
noncomputable def s55 (K : Oracle) (L : Looper) (e : E) (h : H) : Out :=
 sq (some ⟨.nm, ((ux55 e 7 (.int .i64 0)).st 3 (.int .i64 0)).st 4 (.int .i64 0), h⟩) fun e h =>
 sq (bd (bl [(.int .i64 0), (.int .i64 0)] [(some (0, 1), (.int .i64 0)), (some (1, 1), (.int .i64 1))]) fun t11 =>
 bd (bl [(.int .i64 0), (.int .i64 0)] [(some (0, 1), (.int .i64 1)), (some (1, 1), (.int .i64 0))]) fun t12 =>
 bd (bl [(.int .i64 0), (.int .i64 0)] [(some (0, 1), (.int .i64 1)), (some (1, 1), (.int .i64 1))]) fun t13 =>
 bd (bl [(.int .i64 0), (.int .i64 0)] [(some (0, 1), (.int .i64 0)), (some (1, 1), (.int .i64 2))]) fun t14 =>
 bd (bl [(.int .i64 0), (.int .i64 0)] [(some (0, 1), (.int .i64 2)), (some (1, 1), (.int .i64 0))]) fun t15 =>
 bf (bs h 111 5 [(.int .i64 0), (.int .i64 0), (.int .i64 0), (.int .i64 0), (.int .i64 0), (.int .i64 0), (.int .i64 0), (.int .i64 0), (.int .i64 0), (.int .i64 0)] [(some (0, 2), t11), (some (2, 2), t12), (some (4, 2), t13), (some (6, 2), t14), (some (8, 2), t15)]) fun t16 h1 =>
 bc k55 [8, 9, 10, 11, 12, 13, 14, 15, 16, 17, 18, 19, 6, 7] e (K 64 [(e.s k55 0), (e.s k55 1), (e.s k55 2), (.int .i64 3), (.int .i64 4), t16] h1) fun t17 h2 =>
 bd (exV t17 0) fun t18 =>
 bd (exV t17 1) fun t19 =>
 some ⟨.nm, ((ux55 e 7 t19).st 3 t18).st 4 t19, h2⟩) fun e h =>
 some ⟨.rt, e, h⟩
noncomputable def f55 (K : Oracle) (L : Looper) (p0 p1 p2 : V) (h : H) : Option (Rv × H) := fin Try.prog k55 [.tmp 6, .tmp 7] (s55 K L ⟨[p0, p1, p2, V.und, V.und], 0, p0⟩ h)
theorem r55 : (fun K L p0 p1 p2 h => runFF Try.prog kp K L 55 [p0, p1, p2] h) = f55 := by kernel_rfl

/-- (*zoetrope/coefs.block).amount -/
@[simp] def k56 : List Nat := [0, 1, 2, 6, 7, 9, 10, 11, 45]
@[simp] noncomputable def ux56 (e : E) (t : Nat) (v : V) : E := ⟨[(e.s k56 0), (e.s k56 1), (e.s k56 2), (e.s k56 6), (e.s k56 7), (e.s k56 9), (e.s k56 10), (e.s k56 11), (e.s k56 45)], t, v⟩
noncomputable def l56_0 (K : Oracle) (L : Looper) (e : E) (h : H) : Out :=
 sq (bd (binK 0 .lss (e.s k56 45) (.int .i64 4)) fun t46 =>
 some ⟨.nm, ux56 e 46 t46, h⟩) fun e h =>
 sq (br (e.s k56 46) (some ⟨.nm, e, h⟩)
 (some ⟨.ex 2, e, h⟩)) fun e h =>
 sq (blk 3 (sq (bd (nilC (e.s k56 0)) fun t49 =>
 bd (fa 2 t49) fun t50 =>
 bd (ld h t50) fun t51 =>
 bd (binK 0 .mul (.int .i64 7) t51) fun t52 =>
 bd (binK 0 .add t52 (e.s k56 7)) fun t54 =>
 bd (binK 0 .sub (e.s k56 9) (e.s k56 10)) fun t57 =>
 bd (maxV [t57, (.int .i64 0)]) fun t58 =>
 bd (minV [t58, (.int .i64 3)]) fun t59 =>
 bc k56 [47, 48, 49, 50, 51, 52, 53, 54, 55, 56, 57, 58, 59, 60, 11] e (K 50 [(e.s k56 0), (.int .i64 29), t54, t59] h) fun t60 h1 =>
 some ⟨.nm, (ux56 e 11 t60).st 7 t60, h1⟩) fun e h =>
 sq (bd (binK 0 .add (e.s k56 10) (e.s k56 11)) fun t63 =>
 some ⟨.nm, (ux56 e 10 t63).st 6 t63, h⟩) fun e h =>
 sq (bd (binK 0 .lss (e.s k56 11) (.int .i64 3)) fun t65 =>
 some ⟨.nm, ux56 e 65 t65, h⟩) fun e h =>
 br (e.s k56 65) (some ⟨.ex 0, e, h⟩)
 (some ⟨.nm, e, h⟩))) fun e h =>
 bd (binK 0 .add (e.s k56 45) (.int .i64 1)) fun t66 =>
 some ⟨.nm, (ux56 e 45 t66).st 8 t66, h⟩
noncomputable def l56_1 (K : Oracle) (L : Looper) (e : E) (h : H) : Out :=
 blk 1 (sq (sq (some ⟨.nm, (ux56 e 45 (.int .i64 0)).st 8 (.int .i64 0), h⟩) fun e h =>
 blk 2 (L (l56_0 K L) e h)) fun e h =>
 sq (bd (binK 0 .sub (e.s k56 9) (e.s k56 10)) fun t71 =>
 bc k56 [67, 68, 69, 70, 71, 72, 73, 6] e (K 66 [(e.s k56 0), t71] h) fun t72 h1 =>
 bd (binK 0 .add (e.s k56 10) t72) fun t73 =>
 some ⟨.nm, (ux56 e 6 t73).st 3 t73, h1⟩) fun e h =>
 some ⟨.rt, e, h⟩)
noncomputable def s56 (K : Oracle) (L : Looper) (e : E) (h : H) : Out :=
 sq (some ⟨.nm, (ux56 e 6 (.int .i64 0)).st 3 (.int .i64 0), h⟩) fun e h =>
 sq (sq (bd (binK 0 .lss (e.s k56 2) (.int .i64 3)) fun t13 =>
 some ⟨.nm, ux56 e 13 t13, h⟩) fun e h =>
 br (e.s k56 13) (sq (some ⟨.nm, (ux56 e 6 (e.s k56 2)).st 3 (e.s k56 2), h⟩) fun e h =>
 some ⟨.rt, e, h⟩)
 (some ⟨.nm, e, h⟩)) fun e h =>
 sq (bd (some (e.s k56 0)) fun t16 =>
 bd (nilC t16) fun t17 =>
 bd (fa 6 t17) fun t18 =>
 bd (ld h t18) fun t19 =>
 bd (some (e.s k56 0)) fun t20 =>
 bd (nilC t20) fun t21 =>
 bd (fa 1 t21) fun t22 =>
 bd (ld h t22) fun t23 =>
 bd (some (e.s k56 1)) fun t24 =>
 bk (K 65 [t19, t23, t24] h) (fun tp hp =>
 some ⟨.pn tp, fgE k56 [16, 17, 18, 19, 20, 21, 22, 23, 24, 25, 15, 26, 27, 7, 8] e, hp⟩) fun _ _ =>
 bd (nilC (e.s k56 0)) fun t17 =>
 bd (fa 6 t17) fun t18 =>
 bd (ld h t18) fun t19 =>
 bd (nilC (e.s k56 0)) fun t21 =>
 bd (fa 1 t21) fun t22 =>
 bd (ld h t22) fun t23 =>
 bn (K 65 [t19, t23, (e.s k56 1)] h) fun t25 h1 =>
 bd (exV t25 0) fun t26 =>
 bd (exV t25 1) fun t27 =>
 ck (ld h t18) t19 (ck (ld h t22) t23 (some ⟨.nm, (ux56 e 8 t27).st 4 t26, h1⟩))) fun e h =>
 sq (bd (nilC (e.s k56 0)) fun t29 =>
 bd (fa 5 t29) fun t30 =>
 bd (ld h t30) fun t31 =>
 bd (iaS 1 t31 (e.s k56 1)) fun t33 =>
 bd (ld h t33) fun t34 =>
 bd (nilC (e.s k56 0)) fun t36 =>
 bd (fa 5 t36) fun t37 =>
 bd (ld h t37) fun t38 =>
 bd (iaS 1 t38 (e.s k56 1)) fun t40 =>
 bd (ld h t40) fun t41 =>
 bd (unV .neg t41) fun t42 =>
 bd (maxV [t34, t42]) fun t43 =>
 ck (ld h t30) t31 (ck (ld h t33) t34 (ck (ld h t37) t38 (ck (ld h t40) t41 (some ⟨.nm, (ux56 e 9 t43).st 5 t43, h⟩))))) fun e h =>
 sq (some ⟨.nm, (ux56 e 10 (e.s k56 2)).st 6 (e.s k56 2), h⟩) fun e h =>
 sq (some ⟨.nm, e, h⟩) fun e h =>
 sq (blk 0 (L (l56_1 K L) e h)) fun e h =>
 sq (some ⟨.nm, (ux56 e 6 (e.s k56 10)).st 3 (e.s k56 10), h⟩) fun e h =>
 some ⟨.rt, e, h⟩
noncomputable def f56 (K : Oracle) (L : Looper) (p0 p1 p2 : V) (h : H) : Option (Rv × H) := fin Try.prog k56 [.tmp 6] (s56 K L ⟨[p0, p1, p2, V.und, V.und, V.und, V.und, V.und, V.und], 0, p0⟩ h)
theorem r56 : (fun K L p0 p1 p2 h => runFF Try.prog kp K L 56 [p0, p1, p2] h) = f56 := by kernel_rfl

/-- (*zoetrope/rac.Encoder).carry -/
@[simp] def k57 : List Nat := [0, 2, 28]
@[simp] noncomputable def ux57 (e : E) (t : Nat) (v : V) : E := ⟨[(e.s k57 0), (e.s k57 2), (e.s k57 28)], t, v⟩
noncomputable def l57_0 (K : Oracle) (L : Looper) (e : E) (h : H) : Out :=
 sq (sq (bd (binK 0 .geq (e.s k57 2) (.int .i64 0)) fun t10 =>
 some ⟨.nm, ux57 e 10 t10, h⟩) fun e h =>
 br (e.s k57 10) (some ⟨.nm, e, h⟩)
 (some ⟨.ex 0, e, h⟩)) fun e h =>
 sq (blk 1 (sq (bd (nilC (e.s k57 0)) fun t14 =>
 bd (fa 0 t14) fun t15 =>
 bd (ld h t15) fun t16 =>
 bd (iaS 1 t16 (e.s k57 2)) fun t18 =>
 bd (ld h t18) fun t19 =>
 bd (binK 0 .add t19 (.int .u8 1)) fun t20 =>
 bd (iaS 1 t16 (e.s k57 2)) fun t21 =>
 bf (stZ 1 h t21 t20) fun _ h1 =>
 some ⟨.nm, ux57 e 0 (e.s k57 0), h1⟩) fun e h =>
 sq (bd (nilC (e.s k57 0)) fun t23 =>
 bd (fa 0 t23) fun t24 =>
 bd (ld h t24) fun t25 =>
 bd (iaS 1 t25 (e.s k57 2)) fun t27 =>
 bd (ld h t27) fun t28 =>
 some ⟨.nm, (ux57 e 28 t28).st 2 t28, h⟩) fun e h =>
 blk 2 (sq (bd (binK 0 .eql (e.s k57 28) (.int .u8 0)) fun t30 =>
 some ⟨.nm, ux57 e 29 t30, h⟩) fun e h =>
 br (e.s k57 29) (some ⟨.nm, e, h⟩)
 (some ⟨.ex 0, e, h⟩)))) fun e h =>
 bd (binK 0 .sub (e.s k57 2) (.int .i64 1)) fun t12 =>
 some ⟨.nm, (ux57 e 2 t12).st 1 t12, h⟩
noncomputable def s57 (K : Oracle) (L : Looper) (e : E) (h : H) : Out :=
 sq (some ⟨.nm, e, h⟩) fun e h =>
 sq (sq (bd (nilC (e.s k57 0)) fun t4 =>
 bd (fa 0 t4) fun t5 =>
 bd (ld h t5) fun t6 =>
 bd (lnS t6) fun t7 =>
 bd (binK 0 .sub t7 (.int .i64 1)) fun t8 =>
 some ⟨.nm, (ux57 e 2 t8).st 1 t8, h⟩) fun e h =>
 blk 0 (L (l57_0 K L) e h)) fun e h =>
 bd (nilC (e.s k57 0)) fun t32 =>
 bd (fa 1 t32) fun t33 =>
 bd (ld h t33) fun t34 =>
 bd (binK 0 .and t34 (.int .u64 4294967295)) fun t35 =>
 bd (nilC (e.s k57 0)) fun t36 =>
 bd (fa 1 t36) fun t37 =>
 bf (stZ 1 h t37 t35) fun _ h1 =>
 some ⟨.nm, ux57 e 0 (e.s k57 0), h1⟩
noncomputable def f57 (K : Oracle) (L : Looper) (p0 : V) (h : H) : Option (Rv × H) := fin Try.prog k57 [] (s57 K L ⟨[p0, V.und, V.und], 0, p0⟩ h)
theorem r57 : (fun K L p0 h => runFF Try.prog kp K L 57 [p0] h) = f57 := by kernel_rfl

/-- cmp.Less[uint16] -/
@[simp] def k58 : List Nat := [0, 1, 4]
@[simp] noncomputable def ux58 (e : E) (t : Nat) (v : V) : E := ⟨[(e.s k58 0), (e.s k58 1), (e.s k58 4)], t, v⟩
noncomputable def s58 (K : Oracle) (L : Looper) (e : E) (h : H) : Out :=
 sq (some ⟨.nm, (ux58 e 4 (.bool false)).st 2 (.bool false), h⟩) fun e h =>
 sq (bc k58 [5, 6, 7, 8, 9, 10, 11, 12, 13, 14, 15, 16, 4] e (K 67 [(e.s k58 0)] h) fun t6 h1 =>
 bd (gl t6 true (some (e.s k58 1))) fun t8 =>
 bc k58 [5, 6, 7, 8, 9, 10, 11, 12, 13, 14, 15, 16, 4] e (gk t6 true h1 (K 67 [t8] h1)) fun t9 h2 =>
 bd (gl t6 true (unV .not t9)) fun t10 =>
 bd (pk t6 t10 (.bool false)) fun t11 =>
 bd (gl t11 false (some (e.s k58 0))) fun t13 =>
 bd (gl t11 false (some (e.s k58 1))) fun t14 =>
 bd (gl t11 false (binK 0 .lss t13 t14)) fun t15 =>
 bd (pk t11 (.bool true) t15) fun t16 =>
 some ⟨.nm, (ux58 e 4 t16).st 2 t16, h2⟩) fun e h =>
 some ⟨.rt, e, h⟩
noncomputable def f58 (K : Oracle) (L : Looper) (p0 p1 : V) (h : H) : Option (Rv × H) := fin Try.prog k58 [.tmp 4] (s58 K L ⟨[p0, p1, V.und], 0, p0⟩ h)
theorem r58 : (fun K L p0 p1 h => runFF Try.prog kp K L 58 [p0, p1] h) = f58 := by kernel_rfl

/-- (*zoetrope/rac.Decoder).value -/
@[simp] def k59 : List Nat := [0, 2]
@[simp] noncomputable def ux59 (e : E) (t : Nat) (v : V) : E := ⟨[(e.s k59 0), (e.s k59 2)], t, v⟩
noncomputable def s59 (K : Oracle) (L : Looper) (e : E) (h : H) : Out :=
 sq (some ⟨.nm, (ux59 e 2 (.int .u32 0)).st 1 (.int .u32 0), h⟩) fun e h =>
 sq (bd (nilC (e.s k59 0)) fun t4 =>
 bd (fa 1 t4) fun t5 =>
 bd (ld h t5) fun t6 =>
 bd (nilC (e.s k59 0)) fun t8 =>
 bd (fa 2 t8) fun t9 =>
 bd (ld h t9) fun t10 =>
 bd (binK 0 .shr t10 (.int .u64 15)) fun t11 =>
 bd (binK 0 .quo t6 t11) fun t12 =>
 bd (minV [t12, (.int .u32 32767)]) fun t13 =>
 ck (ld h t5) t6 (ck (ld h t9) t10 (some ⟨.nm, (ux59 e 2 t13).st 1 t13, h⟩))) fun e h =>
 some ⟨.rt, e, h⟩
noncomputable def f59 (K : Oracle) (L : Looper) (p0 : V) (h : H) : Option (Rv × H) := fin Try.prog k59 [.tmp 2] (s59 K L ⟨[p0, V.und], 0, p0⟩ h)
theorem r59 : (fun K L p0 h => runFF Try.prog kp K L 59 [p0] h) = f59 := by kernel_rfl

/-- zoetrope/rac.narrow -/
@[simp] def k60 : List Nat := [0, 1, 2, 6, 7, 8]
@[simp] noncomputable def ux60 (e : E) (t : Nat) (v : V) : E := ⟨[(e.s k60 0), (e.s k60 1), (e.s k60 2), (e.s k60 6), (e.s k60 7), (e.s k60 8)], t, v⟩
noncomputable def s60 (K : Oracle) (L : Looper) (e : E) (h : H) : Out :=
 sq (some ⟨.nm, ((ux60 e 7 (.int .u32 0)).st 3 (.int .u32 0)).st 4 (.int .u32 0), h⟩) fun e h =>
 sq (bd (binK 0 .shr (e.s k60 0) (.int .u64 15)) fun t10 =>
 some ⟨.nm, (ux60 e 8 t10).st 5 t10, h⟩) fun e h =>
 sq (bd (binK 0 .mul (e.s k60 8) (e.s k60 1)) fun t13 =>
 some ⟨.nm, (ux60 e 6 t13).st 3 t13, h⟩) fun e h =>
 sq (sq (bd (binK 0 .eql (e.s k60 2) (.int .u32 32768)) fun t15 =>
 some ⟨.nm, ux60 e 15 t15, h⟩) fun e h =>
 br (e.s k60 15) (sq (bd (binK 0 .sub (e.s k60 0) (e.s k60 6)) fun t19 =>
 some ⟨.nm, (ux60 e 7 t19).st 4 t19, h⟩) fun e h =>
 some ⟨.rt, e, h⟩)
 (some ⟨.nm, e, h⟩)) fun e h =>
 sq (bd (binK 0 .sub (e.s k60 2) (e.s k60 1)) fun t24 =>
 bd (binK 0 .mul (e.s k60 8) t24) fun t25 =>
 some ⟨.nm, (ux60 e 7 t25).st 4 t25, h⟩) fun e h =>
 some ⟨.rt, e, h⟩
noncomputable def f60 (K : Oracle) (L : Looper) (p0 p1 p2 : V) (h : H) : Option (Rv × H) := fin Try.prog k60 [.tmp 6, .tmp 7] (s60 K L ⟨[p0, p1, p2, V.und, V.und, V.und], 0, p0⟩ h)
theorem r60 : (fun K L p0 p1 p2 h => runFF Try.prog kp K L 60 [p0, p1, p2] h) = f60 := by kernel_rfl

/-- zoetrope/coefs.must -/
@[simp] def k61 : List Nat := [0, 1, 4]
@[simp] noncomputable def ux61 (e : E) (t : Nat) (v : V) : E := ⟨[(e.s k61 0), (e.s k61 1), (e.s k61 4)], t, v⟩
noncomputable def s61 (K : Oracle) (L : Looper) (e : E) (h : H) : Out :=
 sq (some ⟨.nm, (ux61 e 4 (.int .i64 0)).st 2 (.int .i64 0), h⟩) fun e h =>
 sq (sq (bd (binK 0 .neq (e.s k61 1) (.int .i64 0)) fun t6 =>
 some ⟨.nm, ux61 e 6 t6, h⟩) fun e h =>
 br (e.s k61 6) (bd (bl [(.int .i64 0)] [(some (0, 1), (e.s k61 1))]) fun t8 =>
 bd (some (.iface 88 t8)) fun t9 =>
 bc k61 [7, 8, 9] e (panV t9 h) fun _ h1 =>
 some ⟨.nm, ux61 e 0 (e.s k61 0), h1⟩)
 (some ⟨.nm, e, h⟩)) fun e h =>
 sq (some ⟨.nm, (ux61 e 4 (e.s k61 0)).st 2 (e.s k61 0), h⟩) fun e h =>
 some ⟨.rt, e, h⟩
noncomputable def f61 (K : Oracle) (L : Looper) (p0 p1 : V) (h : H) : Option (Rv × H) := fin Try.prog k61 [.tmp 4] (s61 K L ⟨[p0, p1, V.und], 0, p0⟩ h)
theorem r61 : (fun K L p0 p1 h => runFF Try.prog kp K L 61 [p0, p1] h) = f61 := by kernel_rfl

/-- (*zoetrope/syms.Coder).Symbol -/
@[simp] def k62 : List Nat := [0, 1, 2, 3, 8, 9, 10, 11, 12, 13, 14]
@[simp] noncomputable def ux62 (e : E) (t : Nat) (v : V) : E := ⟨[(e.s k62 0), (e.s k62 1), (e.s k62 2), (e.s k62 3), (e.s k62 8), (e.s k62 9), (e.s k62 10), (e.s k62 11), (e.s k62 12), (e.s k62 13), (e.s k62 14)], t, v⟩
noncomputable def s62 (K : Oracle) (L : Looper) (e : E) (h : H) : Out :=
 sq (some ⟨.nm, ((ux62 e 9 (.int .i64 0)).st 4 (.int .i64 0)).st 5 (.int .i64 0), h⟩) fun e h =>
 sq (sq (bc k62 [15, 16] e (K 30 [(e.s k62 0)] h) fun t16 h1 =>
 some ⟨.nm, ux62 e 16 t16, h1⟩) fun e h =>
 br (e.s k62 16) (sq (some ⟨.nm, ((ux62 e 9 (.int .i64 1)).st 4 (.int .i64 0)).st 5 (.int .i64 1), h⟩) fun e h =>
 some ⟨.rt, e, h⟩)
 (some ⟨.nm, e, h⟩)) fun e h =>
 sq (bc k62 [18, 19, 17, 20, 21, 22, 10, 11, 12] e (K 68 [(e.s k62 1)] h) fun t19 h1 =>
 bd (exV t19 0) fun t20 =>
 bd (exV t19 1) fun t21 =>
 bd (exV t19 2) fun t22 =>
 some ⟨.nm, (((ux62 e 12 t22).st 6 t20).st 7 t21).st 8 t22, h1⟩) fun e h =>
 sq (blk 0 (sq (bd (binK 0 .neq (e.s k62 12) (.int .i64 0)) fun t25 =>
 some ⟨.nm, ux62 e 23 t25, h⟩) fun e h =>
 br (e.s k62 23) (sq (some ⟨.nm, ((ux62 e 9 (e.s k62 12)).st 4 (.int .i64 0)).st 5 (e.s k62 12), h⟩) fun e h =>
 some ⟨.rt, e, h⟩)
 (sq (bd (binK 0 .lss (e.s k62 2) (.int .i64 0)) fun t29 =>
 bd (gl t29 false (some (e.s k62 2))) fun t31 =>
 bd (gl t29 false (some (e.s k62 10))) fun t32 =>
 bd (gl t29 false (binK 0 .geq t31 t32)) fun t33 =>
 bd (pk t29 (.bool true) t33) fun t34 =>
 bd (gl t34 false (some (e.s k62 0))) fun t36 =>
 bc k62 [28, 29, 30, 31, 32, 33, 34, 35, 36, 37, 38, 39, 40, 41, 42, 43, 44, 45, 46, 47, 27] e (gk t34 false h (K 26 [t36] h)) fun t37 h1 =>
 bd (gl t34 false (some t37)) fun t38 =>
 bd (gl t38 true (some (e.s k62 3))) fun t39 =>
 bd (gl t38 true (binK 0 .lss t39 (.int .i64 0))) fun t40 =>
 bd (gl t38 true (some t40)) fun t41 =>
 bd (gl t41 false (some (e.s k62 3))) fun t42 =>
 bd (gl t41 false (some (e.s k62 11))) fun t43 =>
 bd (gl t41 false (binK 0 .geq t42 t43)) fun t44 =>
 bd (gl t38 true (pk t41 (.bool true) t44)) fun t45 =>
 bd (gl t34 false (pk t38 t45 (.bool false))) fun t46 =>
 bd (pk t34 (.bool true) t46) fun t47 =>
 some ⟨.nm, ux62 e 27 t47, h1⟩) fun e h =>
 br (e.s k62 27) (sq (some ⟨.nm, ((ux62 e 9 (.int .i64 2)).st 4 (.int .i64 0)).st 5 (.int .i64 2), h⟩) fun e h =>
 some ⟨.rt, e, h⟩)
 (some ⟨.nm, e, h⟩)))) fun e h =>
 sq (bd (nilC (e.s k62 0)) fun t49 =>
 bd (fa 2 t49) fun t50 =>
 bd (fa 0 t50) fun t51 =>
 bd (ld h t51) fun t52 =>
 bd (iaS 1 t52 (e.s k62 1)) fun t54 =>
 bd (ld h t54) fun t55 =>
 bd (iaS 2 t55 (e.s k62 2)) fun t57 =>
 some ⟨.nm, (ux62 e 13 t57).st 9 t57, h⟩) fun e h =>
 sq (bd (nilC (e.s k62 13)) fun t61 =>
 bd (ldn 2 h t61) fun t62 =>
 bc k62 [59, 60, 61, 62, 63, 64, 58, 65, 66, 14, 12] e (K 69 [(e.s k62 0), t62, (e.s k62 3)] h) fun t64 h1 =>
 bd (exV t64 0) fun t65 =>
 bd (exV t64 1) fun t66 =>
 some ⟨.nm, ((ux62 e 12 t66).st 8 t66).st 10 t65, h1⟩) fun e h =>
 sq (sq (bd (binK 0 .neq (e.s k62 12) (.int .i64 0)) fun t68 =>
 some ⟨.nm, ux62 e 68 t68, h⟩) fun e h =>
 br (e.s k62 68) (sq (some ⟨.nm, ((ux62 e 9 (e.s k62 12)).st 4 (.int .i64 0)).st 5 (e.s k62 12), h⟩) fun e h =>
 some ⟨.rt, e, h⟩)
 (some ⟨.nm, e, h⟩)) fun e h =>
 sq (sq (bd (nilC (e.s k62 0)) fun t71 =>
 bd (fa 3 t71) fun t72 =>
 bd (ld h t72) fun t73 =>
 some ⟨.nm, ux62 e 73 t73, h⟩) fun e h =>
 br (e.s k62 73) (bd (nilC (e.s k62 13)) fun t77 =>
 bd (ldn 2 h t77) fun t78 =>
 bc k62 [75, 76, 77, 78, 79, 80, 74, 81, 82, 83, 12] e (K 70 [t78, (e.s k62 14)] h) fun t80 h1 =>
 bd (exV t80 0) fun t81 =>
 bd (exV t80 1) fun t82 =>
 bd (nilC (e.s k62 13)) fun t83 =>
 bf (stZ 2 h1 t83 t81) fun _ h2 =>
 some ⟨.nm, (ux62 e 12 t82).st 8 t82, h2⟩)
 (some ⟨.nm, e, h⟩)) fun e h =>
 sq (bd (nilC (e.s k62 0)) fun t85 =>
 bd (fa 4 t85) fun t86 =>
 bd (ld h t86) fun t87 =>
 bd (binK 0 .add t87 (.int .i64 1)) fun t88 =>
 bd (nilC (e.s k62 0)) fun t89 =>
 bd (fa 4 t89) fun t90 =>
 bf (stZ 1 h t90 t88) fun _ h1 =>
 some ⟨.nm, ux62 e 0 (e.s k62 0), h1⟩) fun e h =>
 sq (some ⟨.nm, ((ux62 e 9 (e.s k62 12)).st 4 (e.s k62 14)).st 5 (e.s k62 12), h⟩) fun e h =>
 some ⟨.rt, e, h⟩
noncomputable def f62 (K : Oracle) (L : Looper) (p0 p1 p2 p3 : V) (h : H) : Option (Rv × H) := fin Try.prog k62 [.tmp 8, .tmp 9] (s62 K L ⟨[p0, p1, p2, p3, V.und, V.und, V.und, V.und, V.und, V.und, V.und], 0, p0⟩ h)
theorem r62 : (fun K L p0 p1 p2 p3 h => runFF Try.prog kp K L 62 [p0, p1, p2, p3] h) = f62 := by kernel_rfl

/-- math/bits.Len -/
@[simp] def k63 : List Nat := [0, 2]
@[simp] noncomputable def ux63 (e : E) (t : Nat) (v : V) : E := ⟨[(e.s k63 0), (e.s k63 2)], t, v⟩
noncomputable def s63 (K : Oracle) (L : Looper) (e : E) (h : H) : Out :=
 sq (some ⟨.nm, (ux63 e 2 (.int .i64 0)).st 1 (.int .i64 0), h⟩) fun e h =>
 sq (br (.bool false) (sq (bd (cv .u32 (e.s k63 0)) fun t4 =>
 bc k63 [3, 4, 5, 2] e (K 71 [t4] h) fun t5 h1 =>
 some ⟨.nm, (ux63 e 2 t5).st 1 t5, h1⟩) fun e h =>
 some ⟨.rt, e, h⟩)
 (some ⟨.nm, e, h⟩)) fun e h =>
 sq (bc k63 [6, 7, 2] e (K 72 [(e.s k63 0)] h) fun t7 h1 =>
 some ⟨.nm, (ux63 e 2 t7).st 1 t7, h1⟩) fun e h =>
 some ⟨.rt, e, h⟩
noncomputable def f63 (K : Oracle) (L : Looper) (p0 : V) (h : H) : Option (Rv × H) := fin Try.prog k63 [.tmp 2] (s63 K L ⟨[p0, V.und], 0, p0⟩ h)
theorem r63 : (fun K L p0 h => runFF Try.prog kp K L 63 [p0] h) = f63 := by kernel_rfl

/-- zoetrope/scan.context -/
@[simp] def k64 : List Nat := [0, 1, 2, 3, 4, 5, 12, 13, 14, 15, 17, 18, 19, 20, 43, 44, 45]
@[simp] noncomputable def ux64 (e : E) (t : Nat) (v : V) : E := ⟨[(e.s k64 0), (e.s k64 1), (e.s k64 2), (e.s k64 3), (e.s k64 4), (e.s k64 5), (e.s k64 12), (e.s k64 13), (e.s k64 14), (e.s k64 15), (e.s k64 17), (e.s k64 18), (e.s k64 19), (e.s k64 20), (e.s k64 43), (e.s k64 44), (e.s k64 45)], t, v⟩
noncomputable def l64_0 (K : Oracle) (L : Looper) (e : E) (h : H) : Out :=
 sq (bd (binK 0 .lss (e.s k64 45) (e.s k64 44)) fun t46 =>
 some ⟨.nm, ux64 e 46 t46, h⟩) fun e h =>
 sq (br (e.s k64 46) (some ⟨.nm, e, h⟩)
 (some ⟨.ex 0, e, h⟩)) fun e h =>
 sq (blk 1 (sq (bd (iaS 2 (e.s k64 43) (e.s k64 45)) fun t47 =>
 bd (ldn 2 h t47) fun t48 =>
 bf (nw h 111 [(.int .i64 0), (.int .i64 0)]) fun t17 h1 =>
 bf (stZ 2 h1 t17 t48) fun _ h2 =>
 some ⟨.nm, (ux64 e 0 (e.s k64 0)).st 10 t17, h2⟩) fun e h =>
 sq (bd (binK 0 .quo (e.s k64 2) (e.s k64 14)) fun t51 =>
 bd (fa 0 (e.s k64 17)) fun t52 =>
 bd (ld h t52) fun t53 =>
 bd (binK 0 .add t51 t53) fun t54 =>
 bd (binK 0 .rem (e.s k64 2) (e.s k64 14)) fun t57 =>
 bd (fa 1 (e.s k64 17)) fun t58 =>
 bd (ld h t58) fun t59 =>
 bd (binK 0 .add t57 t59) fun t60 =>
 ck (ld h t52) t53 (ck (ld h t58) t59 (some ⟨.nm, ((ux64 e 19 t60).st 11 t54).st 12 t60, h⟩))) fun e h =>
 sq (sq (bd (binK 0 .geq (e.s k64 18) (e.s k64 14)) fun t63 =>
 bd (gl t63 false (some (e.s k64 19))) fun t65 =>
 bd (gl t63 false (some (e.s k64 14))) fun t66 =>
 bd (gl t63 false (binK 0 .geq t65 t66)) fun t67 =>
 bd (pk t63 (.bool true) t67) fun t68 =>
 some ⟨.nm, ux64 e 68 t68, h⟩) fun e h =>
 br (e.s k64 68) (some ⟨.ex 1, e, h⟩)
 (some ⟨.nm, e, h⟩)) fun e h =>
 sq (bd (binK 0 .mul (e.s k64 18) (e.s k64 14)) fun t72 =>
 bd (binK 0 .add t72 (e.s k64 19)) fun t74 =>
 bd (iaS 1 (e.s k64 0) t74) fun t75 =>
 bd (ld h t75) fun t76 =>
 some ⟨.nm, (ux64 e 20 t76).st 13 t76, h⟩) fun e h =>
 sq (bd (binK 0 .geq (e.s k64 20) (.int .i64 0)) fun t78 =>
 some ⟨.nm, ux64 e 78 t78, h⟩) fun e h =>
 br (e.s k64 78) (bd (minV [(e.s k64 20), (e.s k64 3)]) fun t82 =>
 bd (binK 0 .add (e.s k64 15) t82) fun t83 =>
 some ⟨.nm, (ux64 e 15 t83).st 9 t83, h⟩)
 (bd (unV .neg (e.s k64 3)) fun t87 =>
 bd (maxV [(e.s k64 20), t87]) fun t88 =>
 bd (unV .neg t88) fun t89 =>
 bd (binK 0 .add (e.s k64 15) t89) fun t90 =>
 some ⟨.nm, (ux64 e 15 t90).st 9 t90, h⟩))) fun e h =>
 bd (binK 0 .add (e.s k64 45) (.int .i64 1)) fun t91 =>
 some ⟨.nm, (ux64 e 45 t91).st 16 t91, h⟩
noncomputable def s64 (K : Oracle) (L : Looper) (e : E) (h : H) : Out :=
 sq (some ⟨.nm, ((ux64 e 13 (.int .i64 0)).st 6 (.int .i64 0)).st 7 (.int .i64 0), h⟩) fun e h =>
 sq (bc k64 [21, 22, 14] e (K 38 [(e.s k64 1)] h) fun t22 h1 =>
 some ⟨.nm, (ux64 e 14 t22).st 8 t22, h1⟩) fun e h =>
 sq (sq (bd (binK 0 .eql (e.s k64 14) (.int .i64 0)) fun t24 =>
 bd (gl t24 false (some (e.s k64 0))) fun t26 =>
 bd (gl t24 false (lnS t26)) fun t27 =>
 bd (gl t24 false (some (e.s k64 14))) fun t28 =>
 bd (gl t24 false (some (e.s k64 14))) fun t29 =>
 bd (gl t24 false (binK 0 .mul t28 t29)) fun t30 =>
 bd (gl t24 false (binK 0 .neq t27 t30)) fun t31 =>
 bd (pk t24 (.bool true) t31) fun t32 =>
 bd (gl t32 false (some (e.s k64 2))) fun t34 =>
 bd (gl t32 false (binK 0 .lss t34 (.int .i64 0))) fun t35 =>
 bd (pk t32 (.bool true) t35) fun t36 =>
 bd (gl t36 false (some (e.s k64 2))) fun t38 =>
 bd (gl t36 false (some (e.s k64 0))) fun t39 =>
 bd (gl t36 false (lnS t39)) fun t40 =>
 bd (gl t36 false (binK 0 .geq t38 t40)) fun t41 =>
 bd (pk t36 (.bool true) t41) fun t42 =>
 some ⟨.nm, ux64 e 42 t42, h⟩) fun e h =>
 br (e.s k64 42) (sq (some ⟨.nm, ((ux64 e 13 (.int .i64 2)).st 6 (.int .i64 0)).st 7 (.int .i64 2), h⟩) fun e h =>
 some ⟨.rt, e, h⟩)
 (some ⟨.nm, e, h⟩)) fun e h =>
 sq (some ⟨.nm, (ux64 e 15 (.int .i64 0)).st 9 (.int .i64 0), h⟩) fun e h =>
 sq (sq (bd (lnS (e.s k64 5)) fun t44 =>
 some ⟨.nm, (((ux64 e 45 (.int .i64 0)).st 14 (e.s k64 5)).st 15 t44).st 16 (.int .i64 0), h⟩) fun e h =>
 blk 0 (L (l64_0 K L) e h)) fun e h =>
 sq (bd (binK 0 .add (e.s k64 15) (.int .i64 1)) fun t93 =>
 bd (binK 0 .quo t93 (.int .i64 2)) fun t94 =>
 bd (minV [t94, (e.s k64 4)]) fun t96 =>
 some ⟨.nm, ((ux64 e 13 (.int .i64 0)).st 6 t96).st 7 (.int .i64 0), h⟩) fun e h =>
 some ⟨.rt, e, h⟩
noncomputable def f64 (K : Oracle) (L : Looper) (p0 p1 p2 p3 p4 p5 : V) (h : H) : Option (Rv × H) := fin Try.prog k64 [.tmp 12, .tmp 13] (s64 K L ⟨[p0, p1, p2, p3, p4, p5, V.und, V.und, V.und, V.und, V.und, V.und, V.und, V.und, V.und, V.und, V.und], 0, p0⟩ h)
theorem r64 : (fun K L p0 p1 p2 p3 p4 p5 h => runFF Try.prog kp K L 64 [p0, p1, p2, p3, p4, p5] h) = f64 := by kernel_rfl

/-- zoetrope/scan.More -/
@[simp] def k65 : List Nat := [0, 1, 2, 6, 7]
@[simp] noncomputable def ux65 (e : E) (t : Nat) (v : V) : E := ⟨[(e.s k65 0), (e.s k65 1), (e.s k65 2), (e.s k65 6), (e.s k65 7)], t, v⟩
noncomputable def s65 (K : Oracle) (L : Looper) (e : E) (h : H) : Out :=
 sq (some ⟨.nm, ((ux65 e 7 (.int .i64 0)).st 3 (.int .i64 0)).st 4 (.int .i64 0), h⟩) fun e h =>
 sq (bd (bl [(.int .i64 0), (.int .i64 0)] [(some (0, 1), (.int .i64 0)), (some (1, 1), (.int .i64 1))]) fun t11 =>
 bd (bl [(.int .i64 0), (.int .i64 0)] [(some (0, 1), (.int .i64 1)), (some (1, 1), (.int .i64 0))]) fun t12 =>
 bd (bl [(.int .i64 0), (.int .i64 0)] [(some (0, 1), (.int .i64 1)), (some (1, 1), (.int .i64 1))]) fun t13 =>
 bf (bs h 111 3 [(.int .i64 0), (.int .i64 0), (.int .i64 0), (.int .i64 0), (.int .i64 0), (.int .i64 0)] [(some (0, 2), t11), (some (2, 2), t12), (some (4, 2), t13)]) fun t14 h1 =>
 bc k65 [8, 9, 10, 11, 12, 13, 14, 15, 16, 17, 6, 7] e (K 64 [(e.s k65 0), (e.s k65 1), (e.s k65 2), (.int .i64 15), (.int .i64 6), t14] h1) fun t15 h2 =>
 bd (exV t15 0) fun t16 =>
 bd (exV t15 1) fun t17 =>
 some ⟨.nm, ((ux65 e 7 t17).st 3 t16).st 4 t17, h2⟩) fun e h =>
 some ⟨.rt, e, h⟩
noncomputable def f65 (K : Oracle) (L : Looper) (p0 p1 p2 : V) (h : H) : Option (Rv × H) := fin Try.prog k65 [.tmp 6, .tmp 7] (s65 K L ⟨[p0, p1, p2, V.und, V.und], 0, p0⟩ h)
theorem r65 : (fun K L p0 p1 p2 h => runFF Try.prog kp K L 65 [p0, p1, p2] h) = f65 := by kernel_rfl

/-- (*zoetrope/coefs.block).length -/
@[simp] def k66 : List Nat := [0, 1, 4, 5, 6, 7, 8]
@[simp] noncomputable def ux66 (e : E) (t : Nat) (v : V) : E := ⟨[(e.s k66 0), (e.s k66 1), (e.s k66 4), (e.s k66 5), (e.s k66 6), (e.s k66 7), (e.s k66 8)], t, v⟩
noncomputable def l66_0 (K : Oracle) (L : Looper) (e : E) (h : H) : Out :=
 sq (sq (bd (binK 0 .eql (e.s k66 6) (e.s k66 7)) fun t19 =>
 bc k66 [16, 17, 18, 19, 20, 21, 22] e (K 51 [t19] h) fun t20 h1 =>
 bc k66 [16, 17, 18, 19, 20, 21, 22] e (K 54 [(e.s k66 0), (.int .i64 1), t20] h1) fun t21 h2 =>
 bd (binK 0 .eql t21 (.int .i64 0)) fun t22 =>
 some ⟨.nm, ux66 e 22 t22, h2⟩) fun e h =>
 br (e.s k66 22) (some ⟨.nm, e, h⟩)
 (some ⟨.ex 0, e, h⟩)) fun e h =>
 blk 1 (sq (bd (binK 0 .add (e.s k66 6) (.int .i64 1)) fun t24 =>
 some ⟨.nm, (ux66 e 6 t24).st 4 t24, h⟩) fun e h =>
 sq (bd (binK 0 .gtr (e.s k66 6) (.int .i64 20)) fun t26 =>
 some ⟨.nm, ux66 e 26 t26, h⟩) fun e h =>
 br (e.s k66 26) (bd (bl [(.int .i64 0)] [(some (0, 1), (.int .i64 4))]) fun t27 =>
 bd (some (.iface 88 t27)) fun t28 =>
 bc k66 [27, 28] e (panV t28 h) fun _ h1 =>
 some ⟨.nm, ux66 e 0 (e.s k66 0), h1⟩)
 (some ⟨.nm, e, h⟩))
noncomputable def s66 (K : Oracle) (L : Looper) (e : E) (h : H) : Out :=
 sq (some ⟨.nm, (ux66 e 4 (.int .i64 0)).st 2 (.int .i64 0), h⟩) fun e h =>
 sq (bd (maxV [(e.s k66 1), (.int .i64 0)]) fun t10 =>
 bd (binK 0 .add t10 (.int .i64 1)) fun t11 =>
 some ⟨.nm, (ux66 e 5 t11).st 3 t11, h⟩) fun e h =>
 sq (bd (cv .u64 (e.s k66 5)) fun t13 =>
 bc k66 [12, 13, 14, 15, 6, 7] e (K 63 [t13] h) fun t14 h1 =>
 bd (binK 0 .sub t14 (.int .i64 1)) fun t15 =>
 some ⟨.nm, ((ux66 e 7 t15).st 4 (.int .i64 0)).st 5 t15, h1⟩) fun e h =>
 sq (blk 0 (L (l66_0 K L) e h)) fun e h =>
 sq (some ⟨.nm, (ux66 e 8 (.int .i64 0)).st 6 (.int .i64 0), h⟩) fun e h =>
 sq (sq (bd (nilC (e.s k66 0)) fun t30 =>
 bd (fa 0 t30) fun t31 =>
 bd (ld h t31) fun t32 =>
 bc k66 [29, 30, 31, 32, 33] e (K 26 [t32] h) fun t33 h1 =>
 some ⟨.nm, ux66 e 33 t33, h1⟩) fun e h =>
 br (e.s k66 33) (bd (binK 0 .shl (.int .i64 1) (e.s k66 6)) fun t36 =>
 bd (binK 0 .sub (e.s k66 5) t36) fun t37 =>
 some ⟨.nm, (ux66 e 8 t37).st 6 t37, h⟩)
 (some ⟨.nm, e, h⟩)) fun e h =>
 sq (bd (some (e.s k66 0)) fun t40 =>
 bd (some (e.s k66 6)) fun t41 =>
 bd (some (e.s k66 8)) fun t42 =>
 bk (K 54 [t40, t41, t42] h) (fun tp hp =>
 bd (some (e.s k66 6)) fun t38 =>
 bd (binK 0 .shl (.int .i64 1) t38) fun t39 =>
 some ⟨.pn tp, fgE k66 [38, 39, 40, 41, 42, 43, 44, 45, 4] e, hp⟩) fun _ _ =>
 bn (K 54 [(e.s k66 0), (e.s k66 6), (e.s k66 8)] h) fun t43 h1 =>
 bd (binK 0 .shl (.int .i64 1) (e.s k66 6)) fun t39 =>
 bd (binK 0 .add t39 t43) fun t44 =>
 bd (binK 0 .sub t44 (.int .i64 1)) fun t45 =>
 some ⟨.nm, (ux66 e 4 t45).st 2 t45, h1⟩) fun e h =>
 some ⟨.rt, e, h⟩
noncomputable def f66 (K : Oracle) (L : Looper) (p0 p1 : V) (h : H) : Option (Rv × H) := fin Try.prog k66 [.tmp 4] (s66 K L ⟨[p0, p1, V.und, V.und, V.und, V.und, V.und], 0, p0⟩ h)
theorem r66 : (fun K L p0 p1 h => runFF Try.prog kp K L 66 [p0, p1] h) = f66 := by kernel_rfl

/-- cmp.isNaN[uint16] -/
@[simp] def k67 : List Nat := [0, 2]
@[simp] noncomputable def ux67 (e : E) (t : Nat) (v : V) : E := ⟨[(e.s k67 0), (e.s k67 2)], t, v⟩
noncomputable def s67 (K : Oracle) (L : Looper) (e : E) (h : H) : Out :=
 sq (some ⟨.nm, (ux67 e 2 (.bool false)).st 1 (.bool false), h⟩) fun e h =>
 sq (bd (binK 0 .neq (e.s k67 0) (e.s k67 0)) fun t5 =>
 some ⟨.nm, (ux67 e 2 t5).st 1 t5, h⟩) fun e h =>
 some ⟨.rt, e, h⟩
noncomputable def f67 (K : Oracle) (L : Looper) (p0 : V) (h : H) : Option (Rv × H) := fin Try.prog k67 [.tmp 2] (s67 K L ⟨[p0, V.und], 0, p0⟩ h)
theorem r67 : (fun K L p0 h => runFF Try.prog kp K L 67 [p0] h) = f67 := by kernel_rfl

/-- zoetrope/syms.Shape -/
@[simp] def k68 : List Nat := [0, 2, 3, 4, 5]
@[simp] noncomputable def ux68 (e : E) (t : Nat) (v : V) : E := ⟨[(e.s k68 0), (e.s k68 2), (e.s k68 3), (e.s k68 4), (e.s k68 5)], t, v⟩
noncomputable def s68 (K : Oracle) (L : Looper) (e : E) (h : H) : Out :=
 sq (some ⟨.nm, (((ux68 e 4 (.int .i64 0)).st 1 (.int .i64 0)).st 2 (.int .i64 0)).st 3 (.int .i64 0), h⟩) fun e h =>
 sq (sq (bd (binK 0 .lss (e.s k68 0) (.int .i64 0)) fun t7 =>
 bd (gl t7 false (some (e.s k68 0))) fun t9 =>
 bd (gl t7 false (binK 0 .geq t9 (.int .i64 32))) fun t10 =>
 bd (pk t7 (.bool true) t10) fun t11 =>
 some ⟨.nm, ux68 e 11 t11, h⟩) fun e h =>
 br (e.s k68 11) (sq (some ⟨.nm, (((ux68 e 4 (.int .i64 41)).st 1 (.int .i64 0)).st 2 (.int .i64 0)).st 3 (.int .i64 41), h⟩) fun e h =>
 some ⟨.rt, e, h⟩)
 (some ⟨.nm, e, h⟩)) fun e h =>
 sq (bc k68 [12, 13, 14, 5] e (K 20 [] h) fun t12 h1 =>
 bd (ixN 32 3 t12 (e.s k68 0)) fun t14 =>
 bf (nw h1 57 [(.int .i64 0), (.int .i64 0), (.bool false)]) fun t5 h2 =>
 bf (stZ 3 h2 t5 t14) fun _ h3 =>
 some ⟨.nm, (ux68 e 0 (e.s k68 0)).st 4 t5, h3⟩) fun e h =>
 sq (bd (fa 0 (e.s k68 5)) fun t15 =>
 bd (ld h t15) fun t16 =>
 bd (fa 1 (e.s k68 5)) fun t17 =>
 bd (ld h t17) fun t18 =>
 ck (ld h t15) t16 (ck (ld h t17) t18 (some ⟨.nm, (((ux68 e 4 (.int .i64 0)).st 1 t16).st 2 t18).st 3 (.int .i64 0), h⟩))) fun e h =>
 some ⟨.rt, e, h⟩
noncomputable def f68 (K : Oracle) (L : Looper) (p0 : V) (h : H) : Option (Rv × H) := fin Try.prog k68 [.tmp 2, .tmp 3, .tmp 4] (s68 K L ⟨[p0, V.und, V.und, V.und, V.und], 0, p0⟩ h)
theorem r68 : (fun K L p0 h => runFF Try.prog kp K L 68 [p0] h) = f68 := by kernel_rfl

/-- (*zoetrope/syms.Coder).value -/
@[simp] def k69 : List Nat := [0, 1, 2, 4, 6, 7, 8, 9, 10, 11, 12]
@[simp] noncomputable def ux69 (e : E) (t : Nat) (v : V) : E := ⟨[(e.s k69 0), (e.s k69 1), (e.s k69 2), (e.s k69 4), (e.s k69 6), (e.s k69 7), (e.s k69 8), (e.s k69 9), (e.s k69 10), (e.s k69 11), (e.s k69 12)], t, v⟩
noncomputable def s69 (K : Oracle) (L : Looper) (e : E) (h : H) : Out :=
 sq (bf (bx h 64 (e.s k69 1)) fun t4 h1 =>
 some ⟨.nm, (((ux69 e 7 (.int .i64 0)).st 3 t4).st 4 (.int .i64 0)).st 5 (.int .i64 0), h1⟩) fun e h =>
 sq (sq (bc k69 [13, 14, 15] e (K 26 [(e.s k69 0)] h) fun t14 h1 =>
 bd (unV .not t14) fun t15 =>
 some ⟨.nm, ux69 e 15 t15, h1⟩) fun e h =>
 br (e.s k69 15) (sq (bd (nilC (e.s k69 0)) fun t18 =>
 bd (fa 1 t18) fun t19 =>
 bd (ld h t19) fun t20 =>
 bc k69 [17, 18, 19, 20, 21, 16, 22, 23, 8, 9] e (K 47 [t20] h) fun t21 h1 =>
 bd (exV t21 0) fun t22 =>
 bd (exV t21 1) fun t23 =>
 some ⟨.nm, ((ux69 e 9 t23).st 6 t22).st 7 t23, h1⟩) fun e h =>
 sq (sq (bd (binK 0 .neq (e.s k69 9) (.int .i64 0)) fun t25 =>
 some ⟨.nm, ux69 e 25 t25, h⟩) fun e h =>
 br (e.s k69 25) (sq (some ⟨.nm, ((ux69 e 7 (e.s k69 9)).st 4 (.int .i64 0)).st 5 (e.s k69 9), h⟩) fun e h =>
 some ⟨.rt, e, h⟩)
 (some ⟨.nm, e, h⟩)) fun e h =>
 sq (bd (ldn 2 h (e.s k69 4)) fun t28 =>
 bc k69 [28, 29, 30, 27, 31, 32, 2, 9] e (K 73 [t28, (e.s k69 8)] h) fun t30 h1 =>
 bd (exV t30 0) fun t31 =>
 bd (exV t30 1) fun t32 =>
 some ⟨.nm, ((ux69 e 9 t32).st 2 t31).st 7 t32, h1⟩) fun e h =>
 sq (bd (binK 0 .neq (e.s k69 9) (.int .i64 0)) fun t34 =>
 some ⟨.nm, ux69 e 34 t34, h⟩) fun e h =>
 br (e.s k69 34) (sq (some ⟨.nm, ((ux69 e 7 (e.s k69 9)).st 4 (.int .i64 0)).st 5 (e.s k69 9), h⟩) fun e h =>
 some ⟨.rt, e, h⟩)
 (some ⟨.nm, e, h⟩))
 (some ⟨.nm, e, h⟩)) fun e h =>
 sq (bd (ldn 2 h (e.s k69 4)) fun t37 =>
 bc k69 [37, 38, 39, 36, 40, 41, 42, 10, 11, 12] e (K 74 [t37, (e.s k69 2)] h) fun t39 h1 =>
 bd (exV t39 0) fun t40 =>
 bd (exV t39 1) fun t41 =>
 bd (exV t39 2) fun t42 =>
 some ⟨.nm, (((ux69 e 12 t42).st 8 t40).st 9 t41).st 10 t42, h1⟩) fun e h =>
 sq (sq (bd (binK 0 .neq (e.s k69 12) (.int .i64 0)) fun t44 =>
 some ⟨.nm, ux69 e 44 t44, h⟩) fun e h =>
 br (e.s k69 44) (sq (some ⟨.nm, ((ux69 e 7 (e.s k69 12)).st 4 (.int .i64 0)).st 5 (e.s k69 12), h⟩) fun e h =>
 some ⟨.rt, e, h⟩)
 (some ⟨.nm, e, h⟩)) fun e h =>
 sq (sq (bc k69 [46, 47] e (K 26 [(e.s k69 0)] h) fun t47 h1 =>
 some ⟨.nm, ux69 e 47 t47, h1⟩) fun e h =>
 br (e.s k69 47) (sq (bd (nilC (e.s k69 0)) fun t50 =>
 bd (fa 0 t50) fun t51 =>
 bd (ld h t51) fun t52 =>
 bc k69 [48, 49, 50, 51, 52, 53, 54, 55, 6, 7] e (K 48 [t52, (e.s k69 10), (e.s k69 11)] h) fun t55 h1 =>
 some ⟨.nm, ((ux69 e 7 t55).st 4 (e.s k69 2)).st 5 t55, h1⟩) fun e h =>
 some ⟨.rt, e, h⟩)
 (some ⟨.nm, e, h⟩)) fun e h =>
 sq (bd (nilC (e.s k69 0)) fun t58 =>
 bd (fa 1 t58) fun t59 =>
 bd (ld h t59) fun t60 =>
 bc k69 [56, 57, 58, 59, 60, 61, 62, 63, 6, 7] e (K 49 [t60, (e.s k69 10), (e.s k69 11)] h) fun t63 h1 =>
 some ⟨.nm, ((ux69 e 7 t63).st 4 (e.s k69 2)).st 5 t63, h1⟩) fun e h =>
 some ⟨.rt, e, h⟩
noncomputable def f69 (K : Oracle) (L : Looper) (p0 p1 p2 : V) (h : H) : Option (Rv × H) := fin Try.prog k69 [.tmp 6, .tmp 7] (s69 K L ⟨[p0, p1, p2, V.und, V.und, V.und, V.und, V.und, V.und, V.und, V.und], 0, p0⟩ h)
theorem r69 : (fun K L p0 p1 p2 h => runFF Try.prog kp K L 69 [p0, p1, p2] h) = f69 := by kernel_rfl

/-- zoetrope/cdf.Adapt -/
@[simp] def k70 : List Nat := [0, 1, 2, 4, 5, 6, 7, 8, 9, 31, 32, 33]
@[simp] noncomputable def ux70 (e : E) (t : Nat) (v : V) : E := ⟨[(e.s k70 0), (e.s k70 1), (e.s k70 2), (e.s k70 4), (e.s k70 5), (e.s k70 6), (e.s k70 7), (e.s k70 8), (e.s k70 9), (e.s k70 31), (e.s k70 32), (e.s k70 33)], t, v⟩
noncomputable def l70_0 (K : Oracle) (L : Looper) (e : E) (h : H) : Out :=
 sq (bd (binK 0 .lss (e.s k70 33) (e.s k70 32)) fun t34 =>
 some ⟨.nm, ux70 e 34 t34, h⟩) fun e h =>
 sq (br (e.s k70 34) (some ⟨.nm, e, h⟩)
 (some ⟨.ex 0, e, h⟩)) fun e h =>
 sq (blk 1 (sq (bd (iaS 1 (e.s k70 31) (e.s k70 33)) fun t36 =>
 bd (ld h t36) fun t37 =>
 some ⟨.nm, ((ux70 e 9 t37).st 7 (e.s k70 33)).st 8 t37, h⟩) fun e h =>
 sq (bd (binK 0 .lss (e.s k70 8) (e.s k70 1)) fun t40 =>
 some ⟨.nm, ux70 e 40 t40, h⟩) fun e h =>
 br (e.s k70 40) (bd (fa 0 (e.s k70 7)) fun t41 =>
 bd (ld h t41) fun t42 =>
 bd (iaS 1 t42 (e.s k70 8)) fun t44 =>
 bd (ld h t44) fun t45 =>
 bd (binK 0 .shr (e.s k70 9) (e.s k70 6)) fun t48 =>
 bd (binK 0 .sub t45 t48) fun t49 =>
 bd (iaS 1 t42 (e.s k70 8)) fun t50 =>
 bf (stZ 1 h t50 t49) fun _ h1 =>
 ck (ld h t41) t42 (ck (ld h t44) t45 (some ⟨.nm, ux70 e 0 (e.s k70 0), h1⟩)))
 (bd (fa 0 (e.s k70 7)) fun t51 =>
 bd (ld h t51) fun t52 =>
 bd (iaS 1 t52 (e.s k70 8)) fun t54 =>
 bd (ld h t54) fun t55 =>
 bd (binK 0 .sub (.int .u16 32768) (e.s k70 9)) fun t57 =>
 bd (binK 0 .shr t57 (e.s k70 6)) fun t59 =>
 bd (binK 0 .add t55 t59) fun t60 =>
 bd (iaS 1 t52 (e.s k70 8)) fun t61 =>
 bf (stZ 1 h t61 t60) fun _ h1 =>
 ck (ld h t51) t52 (ck (ld h t54) t55 (some ⟨.nm, ux70 e 0 (e.s k70 0), h1⟩))))) fun e h =>
 bd (binK 0 .add (e.s k70 33) (.int .i64 1)) fun t62 =>
 some ⟨.nm, (ux70 e 33 t62).st 11 t62, h⟩
noncomputable def s70 (K : Oracle) (L : Looper) (e : E) (h : H) : Out :=
 sq (bf (bx h 64 (e.s k70 0)) fun t2 h1 =>
 bf (nw h1 64 [.nils, (.int .i64 0)]) fun t4 h2 =>
 some ⟨.nm, (((ux70 e 5 (.int .i64 0)).st 2 t2).st 3 t4).st 4 (.int .i64 0), h2⟩) fun e h =>
 sq (sq (bd (ldn 2 h (e.s k70 2)) fun t10 =>
 bc k70 [10, 11, 12, 13] e (K 75 [t10, (e.s k70 1)] h) fun t12 h1 =>
 bd (unV .not t12) fun t13 =>
 some ⟨.nm, ux70 e 13 t13, h1⟩) fun e h =>
 br (e.s k70 13) (sq (bd (bl [.nils, (.int .i64 0)] []) fun t14 =>
 bf (stZ 2 h (e.s k70 4) t14) fun _ h1 =>
 some ⟨.nm, (ux70 e 5 (.int .i64 2)).st 4 (.int .i64 2), h1⟩) fun e h =>
 some ⟨.rt, e, h⟩)
 (some ⟨.nm, e, h⟩)) fun e h =>
 sq (bd (ldn 2 h (e.s k70 2)) fun t15 =>
 bc k70 [15, 16, 6] e (K 76 [t15] h) fun t16 h1 =>
 some ⟨.nm, (ux70 e 6 t16).st 5 t16, h1⟩) fun e h =>
 sq (bd (fa 0 (e.s k70 2)) fun t17 =>
 bd (ld h t17) fun t18 =>
 bn (K 35 [t18] h) fun t19 h1 =>
 bd (fa 1 (e.s k70 2)) fun t20 =>
 bd (ld h1 t20) fun t21 =>
 bd (binK 0 .add t21 (.int .i64 1)) fun t22 =>
 bd (minV [t22, (.int .i64 32)]) fun t23 =>
 bd (bl [.nils, (.int .i64 0)] [(some (0, 1), t19), (some (1, 1), t23)]) fun t24 =>
 bf (nw h1 64 [.nils, (.int .i64 0)]) fun t7 h2 =>
 bf (stZ 2 h2 t7 t24) fun _ h3 =>
 ck (ld h t17) t18 (ck (ld h t20) t21 (ck (ld h1 t20) t21 (some ⟨.nm, (ux70 e 0 (e.s k70 0)).st 6 t7, h3⟩)))) fun e h =>
 sq (sq (bd (fa 0 (e.s k70 7)) fun t25 =>
 bd (ld h t25) fun t26 =>
 bd (fa 0 (e.s k70 2)) fun t27 =>
 bd (ld h t27) fun t28 =>
 bd (lnS t28) fun t29 =>
 bd (binK 0 .sub t29 (.int .i64 1)) fun t30 =>
 bd (slS 1 t26 none (some t30) none) fun t31 =>
 bd (lnS t31) fun t32 =>
 some ⟨.nm, (((ux70 e 33 (.int .i64 0)).st 9 t31).st 10 t32).st 11 (.int .i64 0), h⟩) fun e h =>
 blk 0 (L (l70_0 K L) e h)) fun e h =>
 sq (bd (ldn 2 h (e.s k70 7)) fun t63 =>
 bf (stZ 2 h (e.s k70 4) t63) fun _ h1 =>
 some ⟨.nm, (ux70 e 5 (.int .i64 0)).st 4 (.int .i64 0), h1⟩) fun e h =>
 some ⟨.rt, e, h⟩
noncomputable def f70 (K : Oracle) (L : Looper) (p0 p1 : V) (h : H) : Option (Rv × H) := fin Try.prog k70 [.cell 4 64, .tmp 5] (s70 K L ⟨[p0, p1, V.und, V.und, V.und, V.und, V.und, V.und, V.und, V.und, V.und, V.und], 0, p0⟩ h)
theorem r70 : (fun K L p0 p1 h => runFF Try.prog kp K L 70 [p0, p1] h) = f70 := by kernel_rfl

/-- math/bits.Len32 -/
@[simp] def k71 : List Nat := [0, 2]
@[simp] noncomputable def ux71 (e : E) (t : Nat) (v : V) : E := ⟨[(e.s k71 0), (e.s k71 2)], t, v⟩
noncomputable def s71 (K : Oracle) (L : Looper) (e : E) (h : H) : Out :=
 sq (some ⟨.nm, (ux71 e 2 (.int .i64 0)).st 1 (.int .i64 0), h⟩) fun e h =>
 sq (sq (bd (binK 0 .geq (e.s k71 0) (.int .u32 65536)) fun t4 =>
 some ⟨.nm, ux71 e 4 t4, h⟩) fun e h =>
 br (e.s k71 4) (sq (bd (binK 0 .shr (e.s k71 0) (.int .u64 16)) fun t6 =>
 some ⟨.nm, (ux71 e 0 t6).st 0 t6, h⟩) fun e h =>
 some ⟨.nm, (ux71 e 2 (.int .i64 16)).st 1 (.int .i64 16), h⟩)
 (some ⟨.nm, e, h⟩)) fun e h =>
 sq (sq (bd (binK 0 .geq (e.s k71 0) (.int .u32 256)) fun t8 =>
 some ⟨.nm, ux71 e 8 t8, h⟩) fun e h =>
 br (e.s k71 8) (sq (bd (binK 0 .shr (e.s k71 0) (.int .u64 8)) fun t10 =>
 some ⟨.nm, (ux71 e 0 t10).st 0 t10, h⟩) fun e h =>
 bd (binK 0 .add (e.s k71 2) (.int .i64 8)) fun t12 =>
 some ⟨.nm, (ux71 e 2 t12).st 1 t12, h⟩)
 (some ⟨.nm, e, h⟩)) fun e h =>
 sq (bd (cv .u8 (e.s k71 0)) fun t15 =>
 bd (ixS (.str [0, 1, 2, 2, 3, 3, 3, 3, 4, 4, 4, 4, 4, 4, 4, 4, 5, 5, 5, 5, 5, 5, 5, 5, 5, 5, 5, 5, 5, 5, 5, 5, 6, 6, 6, 6, 6, 6, 6, 6, 6, 6, 6, 6, 6, 6, 6, 6, 6, 6, 6, 6, 6, 6, 6, 6, 6, 6, 6, 6, 6, 6, 6, 6, 7, 7, 7, 7, 7, 7, 7, 7, 7, 7, 7, 7, 7, 7, 7, 7, 7, 7, 7, 7, 7, 7, 7, 7, 7, 7, 7, 7, 7, 7, 7, 7, 7, 7, 7, 7, 7, 7, 7, 7, 7, 7, 7, 7, 7, 7, 7, 7, 7, 7, 7, 7, 7, 7, 7, 7, 7, 7, 7, 7, 7, 7, 7, 7, 8, 8, 8, 8, 8, 8, 8, 8, 8, 8, 8, 8, 8, 8, 8, 8, 8, 8, 8, 8, 8, 8, 8, 8, 8, 8, 8, 8, 8, 8, 8, 8, 8, 8, 8, 8, 8, 8, 8, 8, 8, 8, 8, 8, 8, 8, 8, 8, 8, 8, 8, 8, 8, 8, 8, 8, 8, 8, 8, 8, 8, 8, 8, 8, 8, 8, 8, 8, 8, 8, 8, 8, 8, 8, 8, 8, 8, 8, 8, 8, 8, 8, 8, 8, 8, 8, 8, 8, 8, 8, 8, 8, 8, 8, 8, 8, 8, 8, 8, 8, 8, 8, 8, 8, 8, 8, 8, 8, 8, 8, 8, 8, 8, 8, 8, 8, 8, 8, 8, 8, 8, 8, 8, 8, 8, 8, 8, 8]) t15) fun t16 =>
 bd (cv .i64 t16) fun t17 =>
 bd (binK 0 .add (e.s k71 2) t17) fun t18 =>
 some ⟨.nm, (ux71 e 2 t18).st 1 t18, h⟩) fun e h =>
 some ⟨.rt, e, h⟩
noncomputable def f71 (K : Oracle) (L : Looper) (p0 : V) (h : H) : Option (Rv × H) := fin Try.prog k71 [.tmp 2] (s71 K L ⟨[p0, V.und], 0, p0⟩ h)
theorem r71 : (fun K L p0 h => runFF Try.prog kp K L 71 [p0] h) = f71 := by kernel_rfl

/-- math/bits.Len64 -/
@[simp] def k72 : List Nat := [0, 2]
@[simp] noncomputable def ux72 (e : E) (t : Nat) (v : V) : E := ⟨[(e.s k72 0), (e.s k72 2)], t, v⟩
noncomputable def s72 (K : Oracle) (L : Looper) (e : E) (h : H) : Out :=
 sq (some ⟨.nm, (ux72 e 2 (.int .i64 0)).st 1 (.int .i64 0), h⟩) fun e h =>
 sq (sq (bd (binK 0 .geq (e.s k72 0) (.int .u64 4294967296)) fun t4 =>
 some ⟨.nm, ux72 e 4 t4, h⟩) fun e h =>
 br (e.s k72 4) (sq (bd (binK 0 .shr (e.s k72 0) (.int .u64 32)) fun t6 =>
 some ⟨.nm, (ux72 e 0 t6).st 0 t6, h⟩) fun e h =>
 some ⟨.nm, (ux72 e 2 (.int .i64 32)).st 1 (.int .i64 32), h⟩)
 (some ⟨.nm, e, h⟩)) fun e h =>
 sq (sq (bd (binK 0 .geq (e.s k72 0) (.int .u64 65536)) fun t8 =>
 some ⟨.nm, ux72 e 8 t8, h⟩) fun e h =>
 br (e.s k72 8) (sq (bd (binK 0 .shr (e.s k72 0) (.int .u64 16)) fun t10 =>
 some ⟨.nm, (ux72 e 0 t10).st 0 t10, h⟩) fun e h =>
 bd (binK 0 .add (e.s k72 2) (.int .i64 16)) fun t12 =>
 some ⟨.nm, (ux72 e 2 t12).st 1 t12, h⟩)
 (some ⟨.nm, e, h⟩)) fun e h =>
 sq (sq (bd (binK 0 .geq (e.s k72 0) (.int .u64 256)) fun t14 =>
 some ⟨.nm, ux72 e 14 t14, h⟩) fun e h =>
 br (e.s k72 14) (sq (bd (binK 0 .shr (e.s k72 0) (.int .u64 8)) fun t16 =>
 some ⟨.nm, (ux72 e 0 t16).st 0 t16, h⟩) fun e h =>
 bd (binK 0 .add (e.s k72 2) (.int .i64 8)) fun t18 =>
 some ⟨.nm, (ux72 e 2 t18).st 1 t18, h⟩)
 (some ⟨.nm, e, h⟩)) fun e h =>
 sq (bd (cv .u8 (e.s k72 0)) fun t21 =>
 bd (ixS (.str [0, 1, 2, 2, 3, 3, 3, 3, 4, 4, 4, 4, 4, 4, 4, 4, 5, 5, 5, 5, 5, 5, 5, 5, 5, 5, 5, 5, 5, 5, 5, 5, 6, 6, 6, 6, 6, 6, 6, 6, 6, 6, 6, 6, 6, 6, 6, 6, 6, 6, 6, 6, 6, 6, 6, 6, 6, 6, 6, 6, 6, 6, 6, 6, 7, 7, 7, 7, 7, 7, 7, 7, 7, 7, 7, 7, 7, 7, 7, 7, 7, 7, 7, 7, 7, 7, 7, 7, 7, 7, 7, 7, 7, 7, 7, 7, 7, 7, 7, 7, 7, 7, 7, 7, 7, 7, 7, 7, 7, 7, 7, 7, 7, 7, 7, 7, 7, 7, 7, 7, 7, 7, 7, 7, 7, 7, 7, 7, 8, 8, 8, 8, 8, 8, 8, 8, 8, 8, 8, 8, 8, 8, 8, 8, 8, 8, 8, 8, 8, 8, 8, 8, 8, 8, 8, 8, 8, 8, 8, 8, 8, 8, 8, 8, 8, 8, 8, 8, 8, 8, 8, 8, 8, 8, 8, 8, 8, 8, 8, 8, 8, 8, 8, 8, 8, 8, 8, 8, 8, 8, 8, 8, 8, 8, 8, 8, 8, 8, 8, 8, 8, 8, 8, 8, 8, 8, 8, 8, 8, 8, 8, 8, 8, 8, 8, 8, 8, 8, 8, 8, 8, 8, 8, 8, 8, 8, 8, 8, 8, 8, 8, 8, 8, 8, 8, 8, 8, 8, 8, 8, 8, 8, 8, 8, 8, 8, 8, 8, 8, 8, 8, 8, 8, 8, 8, 8]) t21) fun t22 =>
 bd (cv .i64 t22) fun t23 =>
 bd (binK 0 .add (e.s k72 2) t23) fun t24 =>
 some ⟨.nm, (ux72 e 2 t24).st 1 t24, h⟩) fun e h =>
 some ⟨.rt, e, h⟩
noncomputable def f72 (K : Oracle) (L : Looper) (p0 : V) (h : H) : Option (Rv × H) := fin Try.prog k72 [.tmp 2] (s72 K L ⟨[p0, V.und], 0, p0⟩ h)
theorem r72 : (fun K L p0 h => runFF Try.prog kp K L 72 [p0] h) = f72 := by kernel_rfl

/-- zoetrope/cdf.Find -/
@[simp] def k73 : List Nat := [0, 1, 2, 4, 5, 6]
@[simp] noncomputable def ux73 (e : E) (t : Nat) (v : V) : E := ⟨[(e.s k73 0), (e.s k73 1), (e.s k73 2), (e.s k73 4), (e.s k73 5), (e.s k73 6)], t, v⟩
noncomputable def l73_0 (K : Oracle) (L : Looper) (e : E) (h : H) : Out :=
 sq (sq (bd (ldn 2 h (e.s k73 2)) fun t14 =>
 bc k73 [14, 15, 16, 17, 18] e (K 77 [t14, (e.s k73 6)] h) fun t16 h1 =>
 bd (binK 0 .leq t16 (e.s k73 1)) fun t18 =>
 some ⟨.nm, ux73 e 18 t18, h1⟩) fun e h =>
 br (e.s k73 18) (some ⟨.nm, e, h⟩)
 (some ⟨.ex 0, e, h⟩)) fun e h =>
 blk 1 (bd (binK 0 .add (e.s k73 6) (.int .i64 1)) fun t20 =>
 some ⟨.nm, (ux73 e 6 t20).st 5 t20, h⟩)
noncomputable def s73 (K : Oracle) (L : Looper) (e : E) (h : H) : Out :=
 sq (bf (bx h 64 (e.s k73 0)) fun t2 h1 =>
 some ⟨.nm, (((ux73 e 5 (.int .i64 0)).st 2 t2).st 3 (.int .i64 0)).st 4 (.int .i64 0), h1⟩) fun e h =>
 sq (sq (bd (ldn 2 h (e.s k73 2)) fun t7 =>
 bc k73 [7, 8, 9, 10, 11, 12, 13] e (K 33 [t7] h) fun t8 h1 =>
 bd (binK 0 .neq t8 (.int .i64 0)) fun t9 =>
 bd (gl t9 false (some (e.s k73 1))) fun t11 =>
 bd (gl t9 false (binK 0 .geq t11 (.int .u32 32768))) fun t12 =>
 bd (pk t9 (.bool true) t12) fun t13 =>
 some ⟨.nm, ux73 e 13 t13, h1⟩) fun e h =>
 br (e.s k73 13) (sq (some ⟨.nm, ((ux73 e 5 (.int .i64 2)).st 3 (.int .i64 0)).st 4 (.int .i64 2), h⟩) fun e h =>
 some ⟨.rt, e, h⟩)
 (some ⟨.nm, e, h⟩)) fun e h =>
 sq (some ⟨.nm, (ux73 e 6 (.int .i64 0)).st 5 (.int .i64 0), h⟩) fun e h =>
 sq (blk 0 (L (l73_0 K L) e h)) fun e h =>
 sq (some ⟨.nm, ((ux73 e 5 (.int .i64 0)).st 3 (e.s k73 6)).st 4 (.int .i64 0), h⟩) fun e h =>
 some ⟨.rt, e, h⟩
noncomputable def f73 (K : Oracle) (L : Looper) (p0 p1 : V) (h : H) : Option (Rv × H) := fin Try.prog k73 [.tmp 4, .tmp 5] (s73 K L ⟨[p0, p1, V.und, V.und, V.und, V.und], 0, p0⟩ h)
theorem r73 : (fun K L p0 p1 h => runFF Try.prog kp K L 73 [p0, p1] h) = f73 := by kernel_rfl

/-- zoetrope/cdf.Bounds -/
@[simp] def k74 : List Nat := [0, 1, 2, 4, 5, 6]
@[simp] noncomputable def ux74 (e : E) (t : Nat) (v : V) : E := ⟨[(e.s k74 0), (e.s k74 1), (e.s k74 2), (e.s k74 4), (e.s k74 5), (e.s k74 6)], t, v⟩
noncomputable def s74 (K : Oracle) (L : Looper) (e : E) (h : H) : Out :=
 sq (bf (bx h 64 (e.s k74 0)) fun t2 h1 =>
 some ⟨.nm, ((((ux74 e 6 (.int .i64 0)).st 2 t2).st 3 (.int .u32 0)).st 4 (.int .u32 0)).st 5 (.int .i64 0), h1⟩) fun e h =>
 sq (sq (bd (ldn 2 h (e.s k74 2)) fun t7 =>
 bc k74 [7, 8, 9, 10] e (K 75 [t7, (e.s k74 1)] h) fun t9 h1 =>
 bd (unV .not t9) fun t10 =>
 some ⟨.nm, ux74 e 10 t10, h1⟩) fun e h =>
 br (e.s k74 10) (sq (some ⟨.nm, (((ux74 e 6 (.int .i64 2)).st 3 (.int .u32 0)).st 4 (.int .u32 0)).st 5 (.int .i64 2), h⟩) fun e h =>
 some ⟨.rt, e, h⟩)
 (some ⟨.nm, e, h⟩)) fun e h =>
 sq (bd (ldn 2 h (e.s k74 2)) fun t11 =>
 bd (some (e.s k74 1)) fun t12 =>
 bd (binK 0 .sub t12 (.int .i64 1)) fun t13 =>
 bk (K 77 [t11, t13] h) (fun tp hp =>
 bd (ldn 2 h (e.s k74 2)) fun t15 =>
 bd (some (e.s k74 1)) fun t16 =>
 some ⟨.pn tp, fgE k74 [11, 12, 13, 14, 15, 16, 17, 4, 5, 6] e, hp⟩) fun _ _ =>
 bd (ldn 2 h (e.s k74 2)) fun t11 =>
 bd (binK 0 .sub (e.s k74 1) (.int .i64 1)) fun t13 =>
 bn (K 77 [t11, t13] h) fun t14 h1 =>
 bd (ldn 2 h1 (e.s k74 2)) fun t15 =>
 bn (K 77 [t15, (e.s k74 1)] h1) fun t17 h2 =>
 ck (ldn 2 h (e.s k74 2)) t11 (ck (ldn 2 h (e.s k74 2)) t15 (ck (ldn 2 h1 (e.s k74 2)) t15 (some ⟨.nm, (((ux74 e 6 (.int .i64 0)).st 3 t14).st 4 t17).st 5 (.int .i64 0), h2⟩)))) fun e h =>
 some ⟨.rt, e, h⟩
noncomputable def f74 (K : Oracle) (L : Looper) (p0 p1 : V) (h : H) : Option (Rv × H) := fin Try.prog k74 [.tmp 4, .tmp 5, .tmp 6] (s74 K L ⟨[p0, p1, V.und, V.und, V.und, V.und], 0, p0⟩ h)
theorem r74 : (fun K L p0 p1 h => runFF Try.prog kp K L 74 [p0, p1] h) = f74 := by kernel_rfl

/-- zoetrope/cdf.asked -/
@[simp] def k75 : List Nat := [0, 1, 2, 4]
@[simp] noncomputable def ux75 (e : E) (t : Nat) (v : V) : E := ⟨[(e.s k75 0), (e.s k75 1), (e.s k75 2), (e.s k75 4)], t, v⟩
noncomputable def s75 (K : Oracle) (L : Looper) (e : E) (h : H) : Out :=
 sq (bf (bx h 64 (e.s k75 0)) fun t2 h1 =>
 some ⟨.nm, ((ux75 e 4 (.bool false)).st 2 t2).st 3 (.bool false), h1⟩) fun e h =>
 sq (bd (ldn 2 h (e.s k75 2)) fun t5 =>
 bc k75 [5, 6, 7, 8, 9, 10, 11, 12, 13, 14, 15, 16, 17, 18, 4] e (K 33 [t5] h) fun t6 h1 =>
 bd (binK 0 .eql t6 (.int .i64 0)) fun t7 =>
 bd (gl t7 true (some (e.s k75 1))) fun t9 =>
 bd (gl t7 true (binK 0 .geq t9 (.int .i64 0))) fun t10 =>
 bd (pk t7 t10 (.bool false)) fun t11 =>
 bd (gl t11 true (some (e.s k75 1))) fun t13 =>
 bd (gl t11 true (fa 0 (e.s k75 2))) fun t14 =>
 bd (gl t11 true (ld h1 t14)) fun t15 =>
 bd (gl t11 true (lnS t15)) fun t16 =>
 bd (gl t11 true (binK 0 .lss t13 t16)) fun t17 =>
 bd (pk t11 t17 (.bool false)) fun t18 =>
 some ⟨.nm, (ux75 e 4 t18).st 3 t18, h1⟩) fun e h =>
 some ⟨.rt, e, h⟩
noncomputable def f75 (K : Oracle) (L : Looper) (p0 p1 : V) (h : H) : Option (Rv × H) := fin Try.prog k75 [.tmp 4] (s75 K L ⟨[p0, p1, V.und, V.und], 0, p0⟩ h)
theorem r75 : (fun K L p0 p1 h => runFF Try.prog kp K L 75 [p0, p1] h) = f75 := by kernel_rfl

/-- zoetrope/cdf.rate -/
@[simp] def k76 : List Nat := [0, 1, 2, 3]
@[simp] noncomputable def ux76 (e : E) (t : Nat) (v : V) : E := ⟨[(e.s k76 0), (e.s k76 1), (e.s k76 2), (e.s k76 3)], t, v⟩
noncomputable def s76 (K : Oracle) (L : Looper) (e : E) (h : H) : Out :=
 sq (bf (bx h 64 (e.s k76 0)) fun t1 h1 =>
 some ⟨.nm, ((ux76 e 2 (.int .i64 0)).st 1 t1).st 2 (.int .i64 0), h1⟩) fun e h =>
 sq (bd (fa 0 (e.s k76 1)) fun t4 =>
 bd (ld h t4) fun t5 =>
 bd (lnS t5) fun t6 =>
 bd (cv .u64 t6) fun t7 =>
 bc k76 [4, 5, 6, 7, 8, 9, 10, 11, 3] e (K 63 [t7] h) fun t8 h1 =>
 bd (binK 0 .sub t8 (.int .i64 1)) fun t9 =>
 bd (minV [t9, (.int .i64 2)]) fun t10 =>
 bd (binK 0 .add (.int .i64 3) t10) fun t11 =>
 some ⟨.nm, (ux76 e 3 t11).st 3 t11, h1⟩) fun e h =>
 sq (sq (bd (fa 1 (e.s k76 1)) fun t12 =>
 bd (ld h t12) fun t13 =>
 bd (binK 0 .gtr t13 (.int .i64 15)) fun t14 =>
 some ⟨.nm, ux76 e 14 t14, h⟩) fun e h =>
 br (e.s k76 14) (bd (binK 0 .add (e.s k76 3) (.int .i64 1)) fun t16 =>
 some ⟨.nm, (ux76 e 3 t16).st 3 t16, h⟩)
 (some ⟨.nm, e, h⟩)) fun e h =>
 sq (sq (bd (fa 1 (e.s k76 1)) fun t17 =>
 bd (ld h t17) fun t18 =>
 bd (binK 0 .gtr t18 (.int .i64 31)) fun t19 =>
 some ⟨.nm, ux76 e 19 t19, h⟩) fun e h =>
 br (e.s k76 19) (bd (binK 0 .add (e.s k76 3) (.int .i64 1)) fun t21 =>
 some ⟨.nm, (ux76 e 3 t21).st 3 t21, h⟩)
 (some ⟨.nm, e, h⟩)) fun e h =>
 sq (some ⟨.nm, (ux76 e 2 (e.s k76 3)).st 2 (e.s k76 3), h⟩) fun e h =>
 some ⟨.rt, e, h⟩
noncomputable def f76 (K : Oracle) (L : Looper) (p0 : V) (h : H) : Option (Rv × H) := fin Try.prog k76 [.tmp 2] (s76 K L ⟨[p0, V.und, V.und, V.und], 0, p0⟩ h)
theorem r76 : (fun K L p0 h => runFF Try.prog kp K L 76 [p0] h) = f76 := by kernel_rfl

/-- zoetrope/cdf.end -/
@[simp] def k77 : List Nat := [0, 1, 2, 4]
@[simp] noncomputable def ux77 (e : E) (t : Nat) (v : V) : E := ⟨[(e.s k77 0), (e.s k77 1), (e.s k77 2), (e.s k77 4)], t, v⟩
noncomputable def s77 (K : Oracle) (L : Looper) (e : E) (h : H) : Out :=
 sq (bf (bx h 64 (e.s k77 0)) fun t2 h1 =>
 some ⟨.nm, ((ux77 e 4 (.int .u32 0)).st 2 t2).st 3 (.int .u32 0), h1⟩) fun e h =>
 sq (sq (bd (binK 0 .lss (e.s k77 1) (.int .i64 0)) fun t6 =>
 some ⟨.nm, ux77 e 6 t6, h⟩) fun e h =>
 br (e.s k77 6) (sq (some ⟨.nm, (ux77 e 4 (.int .u32 0)).st 3 (.int .u32 0), h⟩) fun e h =>
 some ⟨.rt, e, h⟩)
 (some ⟨.nm, e, h⟩)) fun e h =>
 sq (bd (fa 0 (e.s k77 2)) fun t7 =>
 bd (ld h t7) fun t8 =>
 bd (iaS 1 t8 (e.s k77 1)) fun t10 =>
 bd (ld h t10) fun t11 =>
 bd (cv .u32 t11) fun t12 =>
 bd (fa 0 (e.s k77 2)) fun t13 =>
 bd (ld h t13) fun t14 =>
 bd (lnS t14) fun t15 =>
 bd (binK 0 .mul (.int .i64 4) t15) fun t16 =>
 bd (binK 0 .sub (.int .i64 32768) t16) fun t17 =>
 bd (cv .u32 t17) fun t18 =>
 bd (binK 0 .mul t12 t18) fun t19 =>
 bd (binK 0 .shr t19 (.int .u64 15)) fun t20 =>
 bd (binK 0 .add (e.s k77 1) (.int .i64 1)) fun t22 =>
 bd (binK 0 .mul (.int .i64 4) t22) fun t23 =>
 bd (cv .u32 t23) fun t24 =>
 bd (binK 0 .add t20 t24) fun t25 =>
 ck (ld h t7) t8 (ck (ld h t10) t11 (ck (ld h t13) t14 (some ⟨.nm, (ux77 e 4 t25).st 3 t25, h⟩)))) fun e h =>
 some ⟨.rt, e, h⟩
noncomputable def f77 (K : Oracle) (L : Looper) (p0 p1 : V) (h : H) : Option (Rv × H) := fin Try.prog k77 [.tmp 4] (s77 K L ⟨[p0, p1, V.und, V.und], 0, p0⟩ h)
theorem r77 : (fun K L p0 p1 h => runFF Try.prog kp K L 77 [p0, p1] h) = f77 := by kernel_rfl


end Go.Proofs.Ytbajipmhnoakeaa
