/- SymsSets: its code in two parts, behind one another. -/
import Derived.Test.YtfjghgjkpenanaaSch
set_option linter.unusedVariables false
set_option linter.unusedSimpArgs false
set_option maxRecDepth 20000
namespace Go.Proofs.Ytfjghgjkpenanaa
open Go Go.Zf

noncomputable def rest8 (K : Oracle) (L : Looper) (e : E) (h : H) : Out :=
 sq (bd (ldn 1 h (e.s k8 8)) fun t106 =>
 bc k8 [106, 107, 11] e (K 11 [t106] h) fun t107 h1 =>
 bf (nw h1 25 [.nils]) fun t11 h2 =>
 bf (stZ 1 h2 t11 t107) fun _ h3 =>
 some ⟨.nm, ⟨[(e.s k8 0), (e.s k8 1), (e.s k8 2), (e.s k8 5), (e.s k8 6), (e.s k8 7), (e.s k8 8), (e.s k8 9), (e.s k8 10), t11, (e.s k8 12), (e.s k8 13), (e.s k8 14), (e.s k8 15), (e.s k8 17), (e.s k8 19), (e.s k8 45)], 0, (e.s k8 0)⟩, h3⟩) fun e h =>
 sq (sq (bd (ldn 1 h (e.s k8 11)) fun t108 =>
 bn (K 34 [t108] h) fun t109 h1 =>
 bd (ldn 1 h1 (e.s k8 8)) fun t110 =>
 bn (K 37 [t110] h1) fun t111 h2 =>
 bd (binK 0 .neq t109 t111) fun t112 =>
 bd (gl t112 false (ldn 1 h2 (e.s k8 7))) fun t114 =>
 bn (gk t112 false h2 (K 34 [t114] h2)) fun t115 h3 =>
 bd (gl t112 false (binK 0 .neq t115 (.int .i64 0))) fun t116 =>
 bd (pk t112 (.bool true) t116) fun t117 =>
 bd (gl t117 false (ldn 1 h3 (e.s k8 11))) fun t119 =>
 bn (gk t117 false h3 (K 38 [t119] h3)) fun t120 h4 =>
 bd (gl t117 false (ldn 1 h4 (e.s k8 8))) fun t121 =>
 bn (gk t117 false h4 (K 15 [t120, t121] h4)) fun t122 h5 =>
 bd (gl t117 false (unV .not t122)) fun t123 =>
 bd (pk t117 (.bool true) t123) fun t124 =>
 ck (ldn 1 h (e.s k8 11)) t108 (ck (ldn 1 h (e.s k8 8)) t110 (ck (ldn 1 h1 (e.s k8 8)) t110 (ck (gl t112 false (ldn 1 h2 (e.s k8 7))) t114 (ck (gl t117 false (ldn 1 h3 (e.s k8 11))) t119 (ck (gl t117 false (ldn 1 h3 (e.s k8 8))) t121 (ck (gl t117 false (ldn 1 h4 (e.s k8 8))) t121 (some ⟨.nm, ⟨[(e.s k8 0), (e.s k8 1), (e.s k8 2), (e.s k8 5), (e.s k8 6), (e.s k8 7), (e.s k8 8), (e.s k8 9), (e.s k8 10), (e.s k8 11), (e.s k8 12), (e.s k8 13), (e.s k8 14), (e.s k8 15), (e.s k8 17), (e.s k8 19), (e.s k8 45)], 124, t124⟩, h5⟩)))))))) fun e h =>
 br (e.s k8 124) (sq (some ⟨.nm, ⟨[(e.s k8 0), (e.s k8 1), (e.s k8 2), (e.s k8 5), (.bool false), (e.s k8 7), (e.s k8 8), (e.s k8 9), (e.s k8 10), (e.s k8 11), (e.s k8 12), (e.s k8 13), (e.s k8 14), (e.s k8 15), (e.s k8 17), (e.s k8 19), (e.s k8 45)], 6, (.bool false)⟩, h⟩) fun e h =>
 some ⟨.rt, e, h⟩)
 (some ⟨.nm, e, h⟩)) fun e h =>
 sq (bd (ldn 1 h (e.s k8 7)) fun t126 =>
 bd (ldn 1 h (e.s k8 11)) fun t127 =>
 bd (ldn 1 h (e.s k8 7)) fun t128 =>
 bf (bs h 25 3 [.nils, .nils, .nils] [(some (0, 1), t126), (some (1, 1), t127), (some (2, 1), t128)]) fun t129 h1 =>
 bc k8 [126, 127, 128, 129, 130, 125, 131, 132, 12, 13] e (K 39 [t129] h1) fun t130 h2 =>
 bd (exV t130 0) fun t131 =>
 bd (exV t130 1) fun t132 =>
 bf (nw h2 25 [.nils]) fun t12 h3 =>
 bf (stZ 1 h3 t12 t131) fun _ h4 =>
 some ⟨.nm, ⟨[(e.s k8 0), (e.s k8 1), (e.s k8 2), (e.s k8 5), (e.s k8 6), (e.s k8 7), (e.s k8 8), (e.s k8 9), (e.s k8 10), (e.s k8 11), t12, t132, (e.s k8 14), (e.s k8 15), (e.s k8 17), (e.s k8 19), (e.s k8 45)], 13, t132⟩, h4⟩) fun e h =>
 sq (bd (ldn 1 h (e.s k8 7)) fun t134 =>
 bd (ldn 1 h (e.s k8 8)) fun t135 =>
 bd (ldn 1 h (e.s k8 7)) fun t136 =>
 bf (bs h 25 3 [.nils, .nils, .nils] [(some (0, 1), t134), (some (1, 1), t135), (some (2, 1), t136)]) fun t137 h1 =>
 bc k8 [134, 135, 136, 137, 138, 133, 139, 140, 14, 15] e (K 40 [t137] h1) fun t138 h2 =>
 bd (exV t138 0) fun t139 =>
 bd (exV t138 1) fun t140 =>
 bf (nw h2 25 [.nils]) fun t14 h3 =>
 bf (stZ 1 h3 t14 t139) fun _ h4 =>
 some ⟨.nm, ⟨[(e.s k8 0), (e.s k8 1), (e.s k8 2), (e.s k8 5), (e.s k8 6), (e.s k8 7), (e.s k8 8), (e.s k8 9), (e.s k8 10), (e.s k8 11), (e.s k8 12), (e.s k8 13), t14, t140, (e.s k8 17), (e.s k8 19), (e.s k8 45)], 15, t140⟩, h4⟩) fun e h =>
 sq (bd (ldn 1 h (e.s k8 11)) fun t142 =>
 bc k8 [142, 143, 141, 144, 145, 16, 17] e (K 12 [t142, (.bool true)] h) fun t143 h1 =>
 bd (exV t143 0) fun t144 =>
 bd (exV t143 1) fun t145 =>
 some ⟨.nm, ⟨[(e.s k8 0), (e.s k8 1), (e.s k8 2), (e.s k8 5), (e.s k8 6), (e.s k8 7), (e.s k8 8), (e.s k8 9), (e.s k8 10), (e.s k8 11), (e.s k8 12), (e.s k8 13), (e.s k8 14), (e.s k8 15), t145, (e.s k8 19), (e.s k8 45)], 17, t145⟩, h1⟩) fun e h =>
 sq (bd (ldn 1 h (e.s k8 8)) fun t147 =>
 bc k8 [147, 148, 146, 149, 150, 18, 19] e (K 13 [t147, (.bool true)] h) fun t148 h1 =>
 bd (exV t148 0) fun t149 =>
 bd (exV t148 1) fun t150 =>
 some ⟨.nm, ⟨[(e.s k8 0), (e.s k8 1), (e.s k8 2), (e.s k8 5), (e.s k8 6), (e.s k8 7), (e.s k8 8), (e.s k8 9), (e.s k8 10), (e.s k8 11), (e.s k8 12), (e.s k8 13), (e.s k8 14), (e.s k8 15), (e.s k8 17), t150, (e.s k8 45)], 19, t150⟩, h1⟩) fun e h =>
 sq (bd (binK 0 .eql (e.s k8 13) (e.s k8 15)) fun t153 =>
 bd (gl t153 true (some (e.s k8 17))) fun t155 =>
 bd (gl t153 true (some (e.s k8 19))) fun t156 =>
 bd (gl t153 true (binK 0 .eql t155 t156)) fun t157 =>
 bd (pk t153 t157 (.bool false)) fun t158 =>
 bd (gl t158 true (ldn 1 h (e.s k8 12))) fun t160 =>
 bd (gl t158 true (ldn 1 h (e.s k8 14))) fun t161 =>
 bc k8 [151, 152, 153, 154, 155, 156, 157, 158, 159, 160, 161, 162, 163, 164, 165, 166, 167, 168, 169, 170, 171, 6] e (gk t158 true h (K 15 [t160, t161] h)) fun t162 h1 =>
 bd (pk t158 t162 (.bool false)) fun t163 =>
 bd (gl t163 true (ldn 1 h1 (e.s k8 11))) fun t165 =>
 bd (gl t163 true (ldn 1 h1 (e.s k8 8))) fun t166 =>
 bc k8 [151, 152, 153, 154, 155, 156, 157, 158, 159, 160, 161, 162, 163, 164, 165, 166, 167, 168, 169, 170, 171, 6] e (gk t163 true h1 (K 15 [t165, t166] h1)) fun t167 h2 =>
 bd (pk t163 t167 (.bool false)) fun t168 =>
 bc k8 [151, 152, 153, 154, 155, 156, 157, 158, 159, 160, 161, 162, 163, 164, 165, 166, 167, 168, 169, 170, 171, 6] e (gk t168 true h2 (K 22 [] h2)) fun t170 h3 =>
 bd (pk t168 t170 (.bool false)) fun t171 =>
 some ⟨.nm, ⟨[(e.s k8 0), (e.s k8 1), (e.s k8 2), (e.s k8 5), t171, (e.s k8 7), (e.s k8 8), (e.s k8 9), (e.s k8 10), (e.s k8 11), (e.s k8 12), (e.s k8 13), (e.s k8 14), (e.s k8 15), (e.s k8 17), (e.s k8 19), (e.s k8 45)], 6, t171⟩, h3⟩) fun e h =>
 some ⟨.rt, e, h⟩
noncomputable def s8a (K : Oracle) (L : Looper) (e : E) (h : H) : Out :=
 sq (bf (bx h 77 (e.s k8 2)) fun t5 h1 =>
 some ⟨.nm, ⟨[(e.s k8 0), (e.s k8 1), (e.s k8 2), t5, (.bool false), (e.s k8 7), (e.s k8 8), (e.s k8 9), (e.s k8 10), (e.s k8 11), (e.s k8 12), (e.s k8 13), (e.s k8 14), (e.s k8 15), (e.s k8 17), (e.s k8 19), (e.s k8 45)], 6, (.bool false)⟩, h1⟩) fun e h =>
 sq (bc k8 [20, 21, 22, 23, 7, 8] e (K 10 [(e.s k8 0)] h) fun t21 h1 =>
 bc k8 [20, 21, 22, 23, 7, 8] e (K 10 [(e.s k8 1)] h1) fun t23 h2 =>
 bf (nw h2 25 [.nils]) fun t7 h3 =>
 bf (nw h3 25 [.nils]) fun t8 h4 =>
 bf (stZ 1 h4 t7 t21) fun _ h5 =>
 bf (stZ 1 h5 t8 t23) fun _ h6 =>
 some ⟨.nm, ⟨[(e.s k8 0), (e.s k8 1), (e.s k8 2), (e.s k8 5), (e.s k8 6), t7, t8, (e.s k8 9), (e.s k8 10), (e.s k8 11), (e.s k8 12), (e.s k8 13), (e.s k8 14), (e.s k8 15), (e.s k8 17), (e.s k8 19), (e.s k8 45)], 0, (e.s k8 0)⟩, h6⟩) fun e h =>
 sq (sq (bd (iaA 4 1 (e.s k8 5) (.int .i64 0)) fun t24 =>
 bd (ld h t24) fun t25 =>
 bc k8 [24, 25, 26, 27] e (K 36 [t25, (.int .i64 4)] h) fun t26 h1 =>
 bd (binK 0 .eql t26 (.int .i64 0)) fun t27 =>
 some ⟨.nm, ⟨[(e.s k8 0), (e.s k8 1), (e.s k8 2), (e.s k8 5), (e.s k8 6), (e.s k8 7), (e.s k8 8), (e.s k8 9), (e.s k8 10), (e.s k8 11), (e.s k8 12), (e.s k8 13), (e.s k8 14), (e.s k8 15), (e.s k8 17), (e.s k8 19), (e.s k8 45)], 27, t27⟩, h1⟩) fun e h =>
 br (e.s k8 27) (sq (bd (iaA 4 1 (e.s k8 5) (.int .i64 1)) fun t28 =>
 bd (ld h t28) fun t29 =>
 bd (fa 0 (e.s k8 8)) fun t30 =>
 bd (ld h t30) fun t31 =>
 bd (lnS t31) fun t32 =>
 bc k8 [28, 29, 30, 31, 32, 33, 9] e (K 36 [t29, t32] h) fun t33 h1 =>
 some ⟨.nm, ⟨[(e.s k8 0), (e.s k8 1), (e.s k8 2), (e.s k8 5), (e.s k8 6), (e.s k8 7), (e.s k8 8), t33, (e.s k8 10), (e.s k8 11), (e.s k8 12), (e.s k8 13), (e.s k8 14), (e.s k8 15), (e.s k8 17), (e.s k8 19), (e.s k8 45)], 9, t33⟩, h1⟩) fun e h =>
 sq (bd (iaA 4 1 (e.s k8 5) (.int .i64 2)) fun t34 =>
 bd (ld h t34) fun t35 =>
 bd (fa 0 (e.s k8 8)) fun t36 =>
 bd (ld h t36) fun t37 =>
 bd (iaS 1 t37 (e.s k8 9)) fun t39 =>
 bd (ld h t39) fun t40 =>
 bd (lnS t40) fun t41 =>
 bn (K 36 [t35, t41] h) fun t42 h1 =>
 ck (ld h t34) t35 (ck (ld h t36) t37 (ck (ld h t39) t40 (some ⟨.nm, ⟨[(e.s k8 0), (e.s k8 1), (e.s k8 2), (e.s k8 5), (e.s k8 6), (e.s k8 7), (e.s k8 8), (e.s k8 9), t42, (e.s k8 11), (e.s k8 12), (e.s k8 13), (e.s k8 14), (e.s k8 15), (e.s k8 17), (e.s k8 19), (e.s k8 45)], 10, t42⟩, h1⟩)))) fun e h =>
 sq (bd (iaA 4 1 (e.s k8 5) (.int .i64 3)) fun t43 =>
 bd (ld h t43) fun t44 =>
 bc k8 [43, 44, 45] e (K 36 [t44, (.int .i64 5)] h) fun t45 h1 =>
 some ⟨.nm, ⟨[(e.s k8 0), (e.s k8 1), (e.s k8 2), (e.s k8 5), (e.s k8 6), (e.s k8 7), (e.s k8 8), (e.s k8 9), (e.s k8 10), (e.s k8 11), (e.s k8 12), (e.s k8 13), (e.s k8 14), (e.s k8 15), (e.s k8 17), (e.s k8 19), t45], 45, t45⟩, h1⟩) fun e h =>
 blk 0 (sq (bd (binK 0 .eql (e.s k8 45) (.int .i64 0)) fun t52 =>
 some ⟨.nm, ⟨[(e.s k8 0), (e.s k8 1), (e.s k8 2), (e.s k8 5), (e.s k8 6), (e.s k8 7), (e.s k8 8), (e.s k8 9), (e.s k8 10), (e.s k8 11), (e.s k8 12), (e.s k8 13), (e.s k8 14), (e.s k8 15), (e.s k8 17), (e.s k8 19), (e.s k8 45)], 51, t52⟩, h⟩) fun e h =>
 br (e.s k8 51) (bd (fa 0 (e.s k8 8)) fun t53 =>
 bd (ld h t53) fun t54 =>
 bd (fa 0 (e.s k8 8)) fun t56 =>
 bd (ld h t56) fun t57 =>
 bd (iaS 1 t57 (e.s k8 9)) fun t59 =>
 bd (ld h t59) fun t60 =>
 bd (slS 2 t60 none (some (e.s k8 10)) none) fun t62 =>
 bd (iaS 1 t54 (e.s k8 9)) fun t63 =>
 bf (stZ 1 h t63 t62) fun _ h1 =>
 ck (ld h t53) t54 (ck (ld h t56) t57 (ck (ld h t59) t60 (some ⟨.nm, ⟨[(e.s k8 0), (e.s k8 1), (e.s k8 2), (e.s k8 5), (e.s k8 6), (e.s k8 7), (e.s k8 8), (e.s k8 9), (e.s k8 10), (e.s k8 11), (e.s k8 12), (e.s k8 13), (e.s k8 14), (e.s k8 15), (e.s k8 17), (e.s k8 19), (e.s k8 45)], 0, (e.s k8 0)⟩, h1⟩))))
 (sq (bd (binK 0 .eql (e.s k8 45) (.int .i64 1)) fun t65 =>
 some ⟨.nm, ⟨[(e.s k8 0), (e.s k8 1), (e.s k8 2), (e.s k8 5), (e.s k8 6), (e.s k8 7), (e.s k8 8), (e.s k8 9), (e.s k8 10), (e.s k8 11), (e.s k8 12), (e.s k8 13), (e.s k8 14), (e.s k8 15), (e.s k8 17), (e.s k8 19), (e.s k8 45)], 64, t65⟩, h⟩) fun e h =>
 br (e.s k8 64) (bd (fa 0 (e.s k8 8)) fun t66 =>
 bd (ld h t66) fun t67 =>
 bd (iaS 1 t67 (e.s k8 9)) fun t69 =>
 bd (ld h t69) fun t70 =>
 bd (fa 0 (e.s k8 8)) fun t72 =>
 bd (ld h t72) fun t73 =>
 bd (iaS 1 t73 (e.s k8 9)) fun t75 =>
 bd (ld h t75) fun t76 =>
 bd (iaS 2 t76 (e.s k8 10)) fun t78 =>
 bd (fa 0 t78) fun t79 =>
 bd (ld h t79) fun t80 =>
 bd (slS 1 t80 (some (.int .i64 1)) none none) fun t81 =>
 bd (iaS 2 t70 (e.s k8 10)) fun t82 =>
 bd (fa 0 t82) fun t83 =>
 bf (stZ 1 h t83 t81) fun _ h1 =>
 ck (ld h t66) t67 (ck (ld h t69) t70 (ck (ld h t72) t73 (ck (ld h t75) t76 (ck (ld h t79) t80 (some ⟨.nm, ⟨[(e.s k8 0), (e.s k8 1), (e.s k8 2), (e.s k8 5), (e.s k8 6), (e.s k8 7), (e.s k8 8), (e.s k8 9), (e.s k8 10), (e.s k8 11), (e.s k8 12), (e.s k8 13), (e.s k8 14), (e.s k8 15), (e.s k8 17), (e.s k8 19), (e.s k8 45)], 0, (e.s k8 0)⟩, h1⟩))))))
 (sq (bd (binK 0 .eql (e.s k8 45) (.int .i64 2)) fun t85 =>
 some ⟨.nm, ⟨[(e.s k8 0), (e.s k8 1), (e.s k8 2), (e.s k8 5), (e.s k8 6), (e.s k8 7), (e.s k8 8), (e.s k8 9), (e.s k8 10), (e.s k8 11), (e.s k8 12), (e.s k8 13), (e.s k8 14), (e.s k8 15), (e.s k8 17), (e.s k8 19), (e.s k8 45)], 84, t85⟩, h⟩) fun e h =>
 br (e.s k8 84) (bd (fa 0 (e.s k8 8)) fun t86 =>
 bd (ld h t86) fun t87 =>
 bd (iaS 1 t87 (e.s k8 9)) fun t89 =>
 bd (ld h t89) fun t90 =>
 bd (iaS 2 t90 (e.s k8 10)) fun t92 =>
 bd (fa 1 t92) fun t93 =>
 bf (stZ 1 h t93 (.int .i64 33)) fun _ h1 =>
 some ⟨.nm, ⟨[(e.s k8 0), (e.s k8 1), (e.s k8 2), (e.s k8 5), (e.s k8 6), (e.s k8 7), (e.s k8 8), (e.s k8 9), (e.s k8 10), (e.s k8 11), (e.s k8 12), (e.s k8 13), (e.s k8 14), (e.s k8 15), (e.s k8 17), (e.s k8 19), (e.s k8 45)], 0, (e.s k8 0)⟩, h1⟩)
 (sq (bd (binK 0 .eql (e.s k8 45) (.int .i64 3)) fun t95 =>
 some ⟨.nm, ⟨[(e.s k8 0), (e.s k8 1), (e.s k8 2), (e.s k8 5), (e.s k8 6), (e.s k8 7), (e.s k8 8), (e.s k8 9), (e.s k8 10), (e.s k8 11), (e.s k8 12), (e.s k8 13), (e.s k8 14), (e.s k8 15), (e.s k8 17), (e.s k8 19), (e.s k8 45)], 94, t95⟩, h⟩) fun e h =>
 br (e.s k8 94) (bd (fa 0 (e.s k8 8)) fun t96 =>
 bd (ld h t96) fun t97 =>
 bd (iaS 1 t97 (e.s k8 9)) fun t99 =>
 bd (ld h t99) fun t100 =>
 bd (iaS 2 t100 (e.s k8 10)) fun t102 =>
 bd (fa 0 t102) fun t103 =>
 bd (ld h t103) fun t104 =>
 bd (iaS 1 t104 (.int .i64 0)) fun t105 =>
 bf (stZ 1 h t105 (.int .u16 32769)) fun _ h1 =>
 some ⟨.nm, ⟨[(e.s k8 0), (e.s k8 1), (e.s k8 2), (e.s k8 5), (e.s k8 6), (e.s k8 7), (e.s k8 8), (e.s k8 9), (e.s k8 10), (e.s k8 11), (e.s k8 12), (e.s k8 13), (e.s k8 14), (e.s k8 15), (e.s k8 17), (e.s k8 19), (e.s k8 45)], 0, (e.s k8 0)⟩, h1⟩)
 (bd (fa 0 (e.s k8 8)) fun t46 =>
 bd (ld h t46) fun t47 =>
 bd (slS 1 t47 none (some (e.s k8 9)) none) fun t49 =>
 bd (fa 0 (e.s k8 8)) fun t50 =>
 bf (stZ 1 h t50 t49) fun _ h1 =>
 some ⟨.nm, ⟨[(e.s k8 0), (e.s k8 1), (e.s k8 2), (e.s k8 5), (e.s k8 6), (e.s k8 7), (e.s k8 8), (e.s k8 9), (e.s k8 10), (e.s k8 11), (e.s k8 12), (e.s k8 13), (e.s k8 14), (e.s k8 15), (e.s k8 17), (e.s k8 19), (e.s k8 45)], 0, (e.s k8 0)⟩, h1⟩))))))
 (some ⟨.nm, e, h⟩)) fun e h =>
 rest8 K L e h
theorem s8_eq : s8 = s8a := by kernel_rfl
end Go.Proofs.Ytfjghgjkpenanaa
