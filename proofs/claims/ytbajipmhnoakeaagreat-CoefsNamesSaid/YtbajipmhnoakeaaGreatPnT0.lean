import Derived.Test.YtbajipmhnoakeaaGreatPnKp
set_option linter.unusedVariables false
set_option linter.unusedSimpArgs false
namespace Go.Proofs.YtbajipmhnoakeaaGreat
open Go Go.Zf
noncomputable section
@[simp] def k2:List Nat:=[]
def s2 (K:Oracle) (L:Looper) (e:E) (h:H):Out :=
 bc k2 [0] e (K 1 [] h) fun t0 h1 =>
 some ⟨.nm,⟨[],0,t0⟩,h1⟩
def f2 (K:Oracle) (L:Looper) (h:H):Option (Rv × H):=fin Tryz.prog k2 [] (s2 K L ⟨[],0,V.und⟩ h)
theorem r2:(fun K L h=>runFF Tryz.prog kp K L 2 [] h)=f2:=by kernel_rfl
@[simp] def k3:List Nat:=[0,1,4,5,6,7,8,9,10,11,12,13,14,15,16,17,19,21]
@[simp] def ux3 (e:E) (t:Nat) (v:V):E:=⟨[e.s k3 0,e.s k3 1,e.s k3 4,e.s k3 5,e.s k3 6,e.s k3 7,e.s k3 8,e.s k3 9,e.s k3 10,e.s k3 11,e.s k3 12,e.s k3 13,e.s k3 14,e.s k3 15,e.s k3 16,e.s k3 17,e.s k3 19,e.s k3 21],t,v⟩
def l3_0 (K:Oracle) (L:Looper) (e:E) (h:H):Out :=
 sq (sq (bd (lnS (e.s k3 12)) fun t118 =>
 bd (binK 0 .lss (e.s k3 16) t118) fun t119 =>
 some ⟨.nm,ux3 e 119 t119,h⟩) fun e h =>
 br (e.s k3 119) (some ⟨.nm,e,h⟩)
 (some ⟨.ex 2,e,h⟩)) fun e h =>
 sq (blk 3 (bd (iaS 1 (e.s k3 12) (e.s k3 16)) fun t126 =>
 bd (ld h t126) fun t127 =>
 bd (binK 0 .add t127 (.int .i64 1)) fun t128 =>
 bd (iaS 1 (e.s k3 12) (e.s k3 16)) fun t129 =>
 bf (stZ 1 h t129 t128) fun _ h1 =>
 some ⟨.nm,ux3 e 0 (e.s k3 0),h1⟩)) fun e h =>
 bd (binK 0 .add (e.s k3 16) (.int .i64 1)) fun t121 =>
 some ⟨.nm,(ux3 e 16 t121).st 14 t121,h⟩
def l3_1 (K:Oracle) (L:Looper) (e:E) (h:H):Out :=
 sq (sq (bd (lnS (e.s k3 0)) fun t43 =>
 bd (binK 0 .lss (e.s k3 9) t43) fun t44 =>
 bd (gl t44 true (some (e.s k3 9))) fun t46 =>
 bd (gl t44 true (binK 0 .lss t46 (.int .i64 8))) fun t47 =>
 bd (pk t44 t47 (.bool false)) fun t48 =>
 some ⟨.nm,ux3 e 48 t48,h⟩) fun e h =>
 br (e.s k3 48) (some ⟨.nm,e,h⟩)
 (some ⟨.ex 0,e,h⟩)) fun e h =>
 sq (blk 1 (sq (bd (iaS 4 (e.s k3 0) (e.s k3 9)) fun t53 =>
 bd (ldn 4 h t53) fun t54 =>
 bf (nw h 36 [(.int .i64 0),(.int .i64 0),(.int .i64 0),.nils]) fun t10 h1 =>
 bf (stZ 4 h1 t10 t54) fun _ h2 =>
 some ⟨.nm,(ux3 e 0 (e.s k3 0)).st 8 t10,h2⟩) fun e h =>
 sq (bd (fa 3 (e.s k3 10)) fun t55 =>
 bd (ld h t55) fun t56 =>
 bc k3 [55,56,57,11] e (K 10 [t56] h) fun t57 h1 =>
 some ⟨.nm,(ux3 e 11 t57).st 9 t57,h1⟩) fun e h =>
 sq (bd (fa 0 (e.s k3 10)) fun t60 =>
 bd (ld h t60) fun t61 =>
 bd (fa 1 (e.s k3 10)) fun t62 =>
 bd (ld h t62) fun t63 =>
 bd (fa 2 (e.s k3 10)) fun t64 =>
 bd (ld h t64) fun t65 =>
 bc k3 [59,60,61,62,63,64,65,66,67,58,68,69,12,13] e (K 11 [e.s k3 5,t61,t63,t65,e.s k3 11] h) fun t67 h1 =>
 bd (exV t67 0) fun t68 =>
 bd (exV t67 1) fun t69 =>
 some ⟨.nm,((ux3 e 13 t69).st 10 t68).st 11 t69,h1⟩) fun e h =>
 sq (bd (fa 0 (e.s k3 10)) fun t72 =>
 bd (ld h t72) fun t73 =>
 bd (fa 1 (e.s k3 10)) fun t74 =>
 bd (ld h t74) fun t75 =>
 bd (fa 2 (e.s k3 10)) fun t76 =>
 bd (ld h t76) fun t77 =>
 bd (fa 3 (e.s k3 10)) fun t78 =>
 bd (ld h t78) fun t79 =>
 bc k3 [71,72,73,74,75,76,77,78,79,80,70,81,82,14,15] e (K 12 [e.s k3 7,t73,t75,t77,t79] h) fun t80 h1 =>
 bd (exV t80 0) fun t81 =>
 bd (exV t80 1) fun t82 =>
 some ⟨.nm,((ux3 e 15 t82).st 12 t81).st 13 t82,h1⟩) fun e h =>
 sq (sq (bd (binK 0 .neq (e.s k3 13) (e.s k3 15)) fun t85 =>
 bd (gl t85 false (some (e.s k3 12))) fun t87 =>
 bd (gl t85 false (some (e.s k3 14))) fun t88 =>
 bn (gk t85 false h (K 13 [t87,t88] h)) fun t89 h1 =>
 bd (gl t85 false (unV .not t89)) fun t90 =>
 bd (pk t85 (.bool true) t90) fun t91 =>
 bd (gl t91 false (some (e.s k3 11))) fun t93 =>
 bd (gl t91 false (fa 3 (e.s k3 10))) fun t94 =>
 bd (gl t91 false (ld h1 t94)) fun t95 =>
 bn (gk t91 false h1 (K 13 [t93,t95] h1)) fun t96 h2 =>
 bd (gl t91 false (unV .not t96)) fun t97 =>
 bd (pk t91 (.bool true) t97) fun t98 =>
 bd (gl t98 false (some (e.s k3 5))) fun t100 =>
 bn (gk t98 false h2 (K 14 [t100] h2)) fun t101 h3 =>
 bd (gl t98 false (some (e.s k3 7))) fun t102 =>
 bd (gl t98 false (nilC t102)) fun t103 =>
 bd (gl t98 false (fa 4 t103)) fun t104 =>
 bd (gl t98 false (ld h3 t104)) fun t105 =>
 bd (gl t98 false (binK 0 .neq t101 t105)) fun t106 =>
 bd (pk t98 (.bool true) t106) fun t107 =>
 bd (gl t107 false (some (e.s k3 11))) fun t109 =>
 bn (gk t107 false h3 (K 15 [t109] h3)) fun t110 h4 =>
 bd (gl t107 false (fa 3 (e.s k3 10))) fun t111 =>
 bd (gl t107 false (ld h4 t111)) fun t112 =>
 bn (gk t107 false h4 (K 16 [t112] h4)) fun t113 h5 =>
 bd (gl t107 false (binK 0 .neq t110 t113)) fun t114 =>
 bd (pk t107 (.bool true) t114) fun t115 =>
 ck (gl t91 false (ld h1 t94)) t95 (ck (gl t98 false (ld h2 t104)) t105 (ck (gl t98 false (ld h3 t104)) t105 (ck (gl t107 false (ld h3 t111)) t112 (ck (gl t107 false (ld h4 t111)) t112 (some ⟨.nm,ux3 e 115 t115,h5⟩)))))) fun e h =>
 br (e.s k3 115) (sq (some ⟨.nm,(ux3 e 4 (.bool false)).st 2 (.bool false),h⟩) fun e h =>
 some ⟨.rt,e,h⟩)
 (some ⟨.nm,e,h⟩)) fun e h =>
 sq (sq (some ⟨.nm,(ux3 e 16 (.int .i64 0)).st 14 (.int .i64 0),h⟩) fun e h =>
 blk 2 (L (l3_0 K L) e h)) fun e h =>
 sq (bd (fa 3 (e.s k3 10)) fun t131 =>
 bd (ld h t131) fun t132 =>
 bc k3 [130,131,132,133,134] e (K 13 [e.s k3 11,t132] h) fun t133 h1 =>
 bd (unV .not t133) fun t134 =>
 some ⟨.nm,ux3 e 134 t134,h1⟩) fun e h =>
 br (e.s k3 134) (sq (some ⟨.nm,(ux3 e 4 (.bool false)).st 2 (.bool false),h⟩) fun e h =>
 some ⟨.rt,e,h⟩)
 (some ⟨.nm,e,h⟩))) fun e h =>
 bd (binK 0 .add (e.s k3 9) (.int .i64 1)) fun t50 =>
 some ⟨.nm,(ux3 e 9 t50).st 7 t50,h⟩
def s3 (K:Oracle) (L:Looper) (e:E) (h:H):Out :=
 sq (some ⟨.nm,(ux3 e 4 (.bool false)).st 2 (.bool false),h⟩) fun e h =>
 sq (bc k3 [24,25,26,23,27,28,5,6] e (K 7 [] h) fun t24 h1 =>
 bc k3 [24,25,26,23,27,28,5,6] e (K 6 [t24,e.s k3 1] h1) fun t26 h2 =>
 bd (exV t26 0) fun t27 =>
 bd (exV t26 1) fun t28 =>
 some ⟨.nm,((ux3 e 6 t28).st 3 t27).st 4 t28,h2⟩) fun e h =>
 sq (bc k3 [30,31,32,29,33,34,7,8] e (K 9 [] h) fun t30 h1 =>
 bc k3 [30,31,32,29,33,34,7,8] e (K 8 [t30,e.s k3 1] h1) fun t32 h2 =>
 bd (exV t32 0) fun t33 =>
 bd (exV t32 1) fun t34 =>
 some ⟨.nm,((ux3 e 8 t34).st 5 t33).st 6 t34,h2⟩) fun e h =>
 sq (sq (bd (binK 0 .neq (e.s k3 6) (.int .i64 0)) fun t36 =>
 bd (gl t36 false (some (e.s k3 8))) fun t38 =>
 bd (gl t36 false (binK 0 .neq t38 (.int .i64 0))) fun t39 =>
 bd (pk t36 (.bool true) t39) fun t40 =>
 some ⟨.nm,ux3 e 40 t40,h⟩) fun e h =>
 br (e.s k3 40) (sq (some ⟨.nm,(ux3 e 4 (.bool false)).st 2 (.bool false),h⟩) fun e h =>
 some ⟨.rt,e,h⟩)
 (some ⟨.nm,e,h⟩)) fun e h =>
 sq (sq (some ⟨.nm,(ux3 e 9 (.int .i64 0)).st 7 (.int .i64 0),h⟩) fun e h =>
 blk 0 (L (l3_1 K L) e h)) fun e h =>
 sq (bc k3 [136,137,135,138,139,17,18] e (K 17 [e.s k3 5] h) fun t137 h1 =>
 bd (exV t137 0) fun t138 =>
 bd (exV t137 1) fun t139 =>
 some ⟨.nm,(ux3 e 18 t139).st 15 t138,h1⟩) fun e h =>
 sq (bc k3 [141,142,140,143,144,19,20] e (K 18 [e.s k3 7] h) fun t142 h1 =>
 bd (exV t142 0) fun t143 =>
 bd (exV t142 1) fun t144 =>
 some ⟨.nm,(ux3 e 20 t144).st 16 t143,h1⟩) fun e h =>
 sq (bc k3 [146,147,145,148,149,21,22] e (K 19 [e.s k3 5] h) fun t147 h1 =>
 bd (exV t147 0) fun t148 =>
 bd (exV t147 1) fun t149 =>
 bf (nw h1 29 [.nils]) fun t21 h2 =>
 bf (stZ 1 h2 t21 t148) fun _ h3 =>
 some ⟨.nm,(ux3 e 22 t149).st 17 t21,h3⟩) fun e h =>
 sq (bd (some (e.s k3 17)) fun t150 =>
 bd (some (e.s k3 19)) fun t151 =>
 bk (K 20 [t150,t151] h) (fun tp hp =>
 some ⟨.pn tp,fgE k3 [150,151,152,153,154,155,156,157,158,159,160,161,162,163,4] e,hp⟩) fun _ _ =>
 bn (K 20 [e.s k3 17,e.s k3 19] h) fun t152 h1 =>
 bd (gl t152 true (ldn 1 h1 (e.s k3 21))) fun t154 =>
 bd (gl t152 true (some (e.s k3 7))) fun t155 =>
 bd (gl t152 true (nilC t155)) fun t156 =>
 bd (gl t152 true (fa 2 t156)) fun t157 =>
 bd (gl t152 true (ldn 1 h1 t157)) fun t158 =>
 bn (gk t152 true h1 (K 21 [t154,t158] h1)) fun t159 h2 =>
 bd (pk t152 t159 (.bool false)) fun t160 =>
 bn (gk t160 true h2 (K 22 [] h2)) fun t162 h3 =>
 bd (pk t160 t162 (.bool false)) fun t163 =>
 ck (gl t152 true (ldn 1 h1 (e.s k3 21))) t154 (ck (gl t152 true (ldn 1 h1 t157)) t158 (some ⟨.nm,(ux3 e 4 t163).st 2 t163,h3⟩))) fun e h =>
 some ⟨.rt,e,h⟩
def f3 (K:Oracle) (L:Looper) (p0 p1:V) (h:H):Option (Rv × H):=fin Tryz.prog k3 [.tmp 4] (s3 K L ⟨[p0,p1,V.und,V.und,V.und,V.und,V.und,V.und,V.und,V.und,V.und,V.und,V.und,V.und,V.und,V.und,V.und,V.und],0,p0⟩ h)
theorem r3:(fun K L p0 p1 h=>runFF Tryz.prog kp K L 3 [p0,p1] h)=f3:=by kernel_rfl
@[simp] def k4:List Nat:=[0,1,4,5,6,7,8,9,10,11,12,13,14,15]
@[simp] def ux4 (e:E) (t:Nat) (v:V):E:=⟨[e.s k4 0,e.s k4 1,e.s k4 4,e.s k4 5,e.s k4 6,e.s k4 7,e.s k4 8,e.s k4 9,e.s k4 10,e.s k4 11,e.s k4 12,e.s k4 13,e.s k4 14,e.s k4 15],t,v⟩
def l4_0 (K:Oracle) (L:Looper) (e:E) (h:H):Out :=
 sq (sq (bd (lnS (e.s k4 1)) fun t37 =>
 bd (binK 0 .lss (e.s k4 9) t37) fun t38 =>
 bd (gl t38 true (some (e.s k4 9))) fun t40 =>
 bd (gl t38 true (binK 0 .lss t40 (.int .i64 8))) fun t41 =>
 bd (pk t38 t41 (.bool false)) fun t42 =>
 some ⟨.nm,ux4 e 42 t42,h⟩) fun e h =>
 br (e.s k4 42) (some ⟨.nm,e,h⟩)
 (some ⟨.ex 0,e,h⟩)) fun e h =>
 sq (blk 1 (sq (bd (iaS 4 (e.s k4 1) (e.s k4 9)) fun t47 =>
 bd (ldn 4 h t47) fun t48 =>
 bf (nw h 36 [(.int .i64 0),(.int .i64 0),(.int .i64 0),.nils]) fun t10 h1 =>
 bf (stZ 4 h1 t10 t48) fun _ h2 =>
 some ⟨.nm,(ux4 e 0 (e.s k4 0)).st 8 t10,h2⟩) fun e h =>
 sq (bd (fa 0 (e.s k4 10)) fun t51 =>
 bd (ld h t51) fun t52 =>
 bd (fa 1 (e.s k4 10)) fun t53 =>
 bd (ld h t53) fun t54 =>
 bd (fa 2 (e.s k4 10)) fun t55 =>
 bd (ld h t55) fun t56 =>
 bd (fa 3 (e.s k4 10)) fun t57 =>
 bd (ld h t57) fun t58 =>
 bc k4 [50,51,52,53,54,55,56,57,58,59,49,60,61,11,12] e (K 11 [e.s k4 5,t52,t54,t56,t58] h) fun t59 h1 =>
 bd (exV t59 0) fun t60 =>
 bd (exV t59 1) fun t61 =>
 some ⟨.nm,((ux4 e 12 t61).st 9 t60).st 10 t61,h1⟩) fun e h =>
 sq (bd (fa 0 (e.s k4 10)) fun t64 =>
 bd (ld h t64) fun t65 =>
 bd (fa 1 (e.s k4 10)) fun t66 =>
 bd (ld h t66) fun t67 =>
 bd (fa 2 (e.s k4 10)) fun t68 =>
 bd (ld h t68) fun t69 =>
 bc k4 [63,64,65,66,67,68,69,70,62,71,72,13,14] e (K 12 [e.s k4 7,t65,t67,t69,.nils] h) fun t70 h1 =>
 bd (exV t70 0) fun t71 =>
 bd (exV t70 1) fun t72 =>
 some ⟨.nm,((ux4 e 14 t72).st 11 t71).st 12 t72,h1⟩) fun e h =>
 sq (sq (bd (binK 0 .neq (e.s k4 12) (e.s k4 14)) fun t75 =>
 bd (gl t75 false (some (e.s k4 11))) fun t77 =>
 bd (gl t75 false (some (e.s k4 13))) fun t78 =>
 bn (gk t75 false h (K 13 [t77,t78] h)) fun t79 h1 =>
 bd (gl t75 false (unV .not t79)) fun t80 =>
 bd (pk t75 (.bool true) t80) fun t81 =>
 bd (gl t81 false (some (e.s k4 5))) fun t83 =>
 bn (gk t81 false h1 (K 14 [t83] h1)) fun t84 h2 =>
 bd (gl t81 false (some (e.s k4 7))) fun t85 =>
 bd (gl t81 false (nilC t85)) fun t86 =>
 bd (gl t81 false (fa 4 t86)) fun t87 =>
 bd (gl t81 false (ld h2 t87)) fun t88 =>
 bd (gl t81 false (binK 0 .neq t84 t88)) fun t89 =>
 bd (pk t81 (.bool true) t89) fun t90 =>
 ck (gl t81 false (ld h1 t87)) t88 (ck (gl t81 false (ld h2 t87)) t88 (some ⟨.nm,ux4 e 90 t90,h2⟩))) fun e h =>
 br (e.s k4 90) (sq (some ⟨.nm,(ux4 e 4 (.bool false)).st 2 (.bool false),h⟩) fun e h =>
 some ⟨.rt,e,h⟩)
 (some ⟨.nm,e,h⟩)) fun e h =>
 sq (bd (binK 0 .eql (e.s k4 12) (.int .i64 4)) fun t92 =>
 some ⟨.nm,ux4 e 92 t92,h⟩) fun e h =>
 br (e.s k4 92) (some ⟨.ex 0,e,h⟩)
 (some ⟨.nm,e,h⟩))) fun e h =>
 bd (binK 0 .add (e.s k4 9) (.int .i64 1)) fun t44 =>
 some ⟨.nm,(ux4 e 9 t44).st 7 t44,h⟩
def s4 (K:Oracle) (L:Looper) (e:E) (h:H):Out :=
 sq (some ⟨.nm,(ux4 e 4 (.bool false)).st 2 (.bool false),h⟩) fun e h =>
 sq (bc k4 [18,19,20,17,21,22,5,6] e (K 7 [] h) fun t19 h1 =>
 bc k4 [18,19,20,17,21,22,5,6] e (K 23 [e.s k4 0,t19,(.bool true)] h1) fun t20 h2 =>
 bd (exV t20 0) fun t21 =>
 bd (exV t20 1) fun t22 =>
 some ⟨.nm,((ux4 e 6 t22).st 3 t21).st 4 t22,h2⟩) fun e h =>
 sq (bc k4 [24,25,26,23,27,28,7,8] e (K 9 [] h) fun t25 h1 =>
 bc k4 [24,25,26,23,27,28,7,8] e (K 24 [e.s k4 0,t25,(.bool true)] h1) fun t26 h2 =>
 bd (exV t26 0) fun t27 =>
 bd (exV t26 1) fun t28 =>
 some ⟨.nm,((ux4 e 8 t28).st 5 t27).st 6 t28,h2⟩) fun e h =>
 sq (sq (bd (binK 0 .neq (e.s k4 6) (.int .i64 0)) fun t30 =>
 bd (gl t30 false (some (e.s k4 8))) fun t32 =>
 bd (gl t30 false (binK 0 .neq t32 (.int .i64 0))) fun t33 =>
 bd (pk t30 (.bool true) t33) fun t34 =>
 some ⟨.nm,ux4 e 34 t34,h⟩) fun e h =>
 br (e.s k4 34) (sq (some ⟨.nm,(ux4 e 4 (.bool false)).st 2 (.bool false),h⟩) fun e h =>
 some ⟨.rt,e,h⟩)
 (some ⟨.nm,e,h⟩)) fun e h =>
 sq (sq (some ⟨.nm,(ux4 e 9 (.int .i64 0)).st 7 (.int .i64 0),h⟩) fun e h =>
 blk 0 (L (l4_0 K L) e h)) fun e h =>
 sq (bc k4 [94,95,93,96,97,15,16] e (K 19 [e.s k4 5] h) fun t95 h1 =>
 bd (exV t95 0) fun t96 =>
 bd (exV t95 1) fun t97 =>
 bf (nw h1 29 [.nils]) fun t15 h2 =>
 bf (stZ 1 h2 t15 t96) fun _ h3 =>
 some ⟨.nm,(ux4 e 16 t97).st 13 t15,h3⟩) fun e h =>
 sq (bd (ldn 1 h (e.s k4 15)) fun t98 =>
 bd (some (e.s k4 7)) fun t99 =>
 bd (nilC t99) fun t100 =>
 bd (fa 2 t100) fun t101 =>
 bd (ldn 1 h t101) fun t102 =>
 bk (K 21 [t98,t102] h) (fun tp hp =>
 some ⟨.pn tp,fgE k4 [98,99,100,101,102,103,104,105,106,4] e,hp⟩) fun _ _ =>
 bd (ldn 1 h (e.s k4 15)) fun t98 =>
 bd (nilC (e.s k4 7)) fun t100 =>
 bd (fa 2 t100) fun t101 =>
 bd (ldn 1 h t101) fun t102 =>
 bn (K 21 [t98,t102] h) fun t103 h1 =>
 bn (gk t103 true h1 (K 22 [] h1)) fun t105 h2 =>
 bd (pk t103 t105 (.bool false)) fun t106 =>
 ck (ldn 1 h (e.s k4 15)) t98 (ck (ldn 1 h t101) t102 (some ⟨.nm,(ux4 e 4 t106).st 2 t106,h2⟩))) fun e h =>
 some ⟨.rt,e,h⟩
def f4 (K:Oracle) (L:Looper) (p0 p1:V) (h:H):Option (Rv × H):=fin Tryz.prog k4 [.tmp 4] (s4 K L ⟨[p0,p1,V.und,V.und,V.und,V.und,V.und,V.und,V.und,V.und,V.und,V.und,V.und,V.und],0,p0⟩ h)
theorem r4:(fun K L p0 p1 h=>runFF Tryz.prog kp K L 4 [p0,p1] h)=f4:=by kernel_rfl
@[simp] def k5:List Nat:=[0,1,3,4,5,6,7,8,9,10,11,12,13,14,15,16]
@[simp] def ux5 (e:E) (t:Nat) (v:V):E:=⟨[e.s k5 0,e.s k5 1,e.s k5 3,e.s k5 4,e.s k5 5,e.s k5 6,e.s k5 7,e.s k5 8,e.s k5 9,e.s k5 10,e.s k5 11,e.s k5 12,e.s k5 13,e.s k5 14,e.s k5 15,e.s k5 16],t,v⟩
def l5_0 (K:Oracle) (L:Looper) (e:E) (h:H):Out :=
 sq (sq (bd (binK 0 .lss (e.s k5 13) (.int .i64 23)) fun t113 =>
 some ⟨.nm,ux5 e 113 t113,h⟩) fun e h =>
 br (e.s k5 113) (some ⟨.nm,e,h⟩)
 (some ⟨.ex 0,e,h⟩)) fun e h =>
 sq (blk 1 (sq (bc k5 [116,117,118] e (K 25 [e.s k5 13] h) fun t117 h1 =>
 bd (unV .not t117) fun t118 =>
 some ⟨.nm,ux5 e 118 t118,h1⟩) fun e h =>
 br (e.s k5 118) (sq (some ⟨.nm,(ux5 e 0 (.bool false)).st 0 (.bool false),h⟩) fun e h =>
 some ⟨.rt,e,h⟩)
 (some ⟨.nm,e,h⟩))) fun e h =>
 bd (binK 0 .add (e.s k5 13) (.int .i64 1)) fun t115 =>
 some ⟨.nm,(ux5 e 13 t115).st 12 t115,h⟩
def s5 (K:Oracle) (L:Looper) (e:E) (h:H):Out :=
 sq (some ⟨.nm,(ux5 e 0 (.bool false)).st 0 (.bool false),h⟩) fun e h =>
 sq (bc k5 [18,19,17,20,21,1,2] e (K 7 [] h) fun t18 h1 =>
 bc k5 [18,19,17,20,21,1,2] e (K 6 [t18,(.bool true)] h1) fun t19 h2 =>
 bd (exV t19 0) fun t20 =>
 bd (exV t19 1) fun t21 =>
 some ⟨.nm,(ux5 e 2 t21).st 1 t20,h2⟩) fun e h =>
 sq (bf (ms h 3 8 [(.int .i64 0)] (.int .i64 16) (.int .i64 16)) fun t24 h1 =>
 bc k5 [23,24,25,22,26,27,3,4] e (K 11 [e.s k5 1,(.int .i64 4),(.int .i64 0),(.int .i64 0),t24] h1) fun t25 h2 =>
 bd (exV t25 0) fun t26 =>
 bd (exV t25 1) fun t27 =>
 some ⟨.nm,((ux5 e 4 t27).st 2 t26).st 3 t27,h2⟩) fun e h =>
 sq (bc k5 [28,29,5] e (K 14 [e.s k5 1] h) fun t29 h1 =>
 some ⟨.nm,(ux5 e 5 t29).st 4 t29,h1⟩) fun e h =>
 sq (bf (ms h 3 8 [(.int .i64 0)] (.int .i64 16) (.int .i64 16)) fun t30 h1 =>
 some ⟨.nm,(ux5 e 6 t30).st 5 t30,h1⟩) fun e h =>
 sq (bd (iaS 1 (e.s k5 6) (.int .i64 0)) fun t32 =>
 bf (stZ 1 h t32 (.int .i64 3)) fun _ h1 =>
 some ⟨.nm,ux5 e 0 (e.s k5 0),h1⟩) fun e h =>
 sq (bc k5 [34,35,36,33,37,38,7,8] e (K 11 [e.s k5 1,(.int .i64 4),(.int .i64 0),(.int .i64 0),e.s k5 6] h) fun t36 h1 =>
 bd (exV t36 0) fun t37 =>
 bd (exV t36 1) fun t38 =>
 some ⟨.nm,((ux5 e 8 t38).st 6 t37).st 7 t38,h1⟩) fun e h =>
 sq (sq (bd (binK 0 .neq (e.s k5 4) (.int .i64 0)) fun t40 =>
 bd (gl t40 false (some (e.s k5 8))) fun t42 =>
 bd (gl t40 false (binK 0 .neq t42 (.int .i64 0))) fun t43 =>
 bd (pk t40 (.bool true) t43) fun t44 =>
 bd (gl t44 false (some (e.s k5 3))) fun t46 =>
 bf (gf t44 false h (ms h 3 8 [(.int .i64 0)] (.int .i64 16) (.int .i64 16))) fun t47 h1 =>
 bc k5 [39,40,41,42,43,44,45,46,47,48,49,50,51,52,53,54,55,56,57,58,59,60,61,62,63,64,65] e (gk t44 false h1 (K 13 [t46,t47] h1)) fun t48 h2 =>
 bd (gl t44 false (unV .not t48)) fun t49 =>
 bd (pk t44 (.bool true) t49) fun t50 =>
 bd (gl t50 false (some (e.s k5 7))) fun t52 =>
 bd (gl t50 false (some (e.s k5 6))) fun t53 =>
 bc k5 [39,40,41,42,43,44,45,46,47,48,49,50,51,52,53,54,55,56,57,58,59,60,61,62,63,64,65] e (gk t50 false h2 (K 13 [t52,t53] h2)) fun t54 h3 =>
 bd (gl t50 false (unV .not t54)) fun t55 =>
 bd (pk t50 (.bool true) t55) fun t56 =>
 bd (gl t56 false (some (e.s k5 5))) fun t58 =>
 bd (gl t56 false (binK 0 .neq t58 (.int .i64 1))) fun t59 =>
 bd (pk t56 (.bool true) t59) fun t60 =>
 bd (gl t60 false (some (e.s k5 1))) fun t62 =>
 bc k5 [39,40,41,42,43,44,45,46,47,48,49,50,51,52,53,54,55,56,57,58,59,60,61,62,63,64,65] e (gk t60 false h3 (K 14 [t62] h3)) fun t63 h4 =>
 bd (gl t60 false (binK 0 .neq t63 (.int .i64 6))) fun t64 =>
 bd (pk t60 (.bool true) t64) fun t65 =>
 some ⟨.nm,ux5 e 65 t65,h4⟩) fun e h =>
 br (e.s k5 65) (sq (some ⟨.nm,(ux5 e 0 (.bool false)).st 0 (.bool false),h⟩) fun e h =>
 some ⟨.rt,e,h⟩)
 (some ⟨.nm,e,h⟩)) fun e h =>
 sq (bc k5 [67,68,66,69,70,9,10] e (K 11 [.nilp,(.int .i64 4),(.int .i64 0),(.int .i64 0),e.s k5 6] h) fun t68 h1 =>
 bd (exV t68 0) fun t69 =>
 bd (exV t68 1) fun t70 =>
 some ⟨.nm,((ux5 e 10 t70).st 8 t69).st 9 t70,h1⟩) fun e h =>
 sq (bd (bl [.nilp,.nilp,.nils,(.bool false),(.int .i64 0)] []) fun t72 =>
 bf (bx h 63 t72) fun t73 h1 =>
 bc k5 [72,73,74,71,75,76,11,12] e (K 11 [t73,(.int .i64 5),(.int .i64 9),(.int .i64 9),.nils] h1) fun t74 h2 =>
 bd (exV t74 0) fun t75 =>
 bd (exV t74 1) fun t76 =>
 some ⟨.nm,((ux5 e 12 t76).st 10 t75).st 11 t76,h2⟩) fun e h =>
 sq (sq (bd (lnS (e.s k5 9)) fun t78 =>
 bd (binK 0 .neq t78 (.int .i64 0)) fun t79 =>
 bd (gl t79 false (some (e.s k5 11))) fun t81 =>
 bd (gl t79 false (lnS t81)) fun t82 =>
 bd (gl t79 false (binK 0 .neq t82 (.int .i64 0))) fun t83 =>
 bd (pk t79 (.bool true) t83) fun t84 =>
 bd (gl t84 false (some (e.s k5 10))) fun t86 =>
 bd (gl t84 false (binK 0 .neq t86 (.int .i64 1))) fun t87 =>
 bd (pk t84 (.bool true) t87) fun t88 =>
 bd (gl t88 false (some (e.s k5 12))) fun t90 =>
 bd (gl t88 false (binK 0 .neq t90 (.int .i64 1))) fun t91 =>
 bd (pk t88 (.bool true) t91) fun t92 =>
 bf (gf t92 false h (bs h 3 2 [(.int .i64 0),(.int .i64 0)] [(some (0,1),(.int .i64 (-3))),(some (1,1),(.int .i64 1))])) fun t94 h1 =>
 bc k5 [77,78,79,80,81,82,83,84,85,86,87,88,89,90,91,92,93,94,95,96,97,98,99,100,101,102,103,104,105,106,107,108,109,110,111] e (gk t92 false h1 (K 15 [t94] h1)) fun t95 h2 =>
 bd (gl t92 false (binK 0 .neq t95 (.int .i64 1))) fun t96 =>
 bd (pk t92 (.bool true) t96) fun t97 =>
 bf (gf t97 false h2 (bs h2 3 2 [(.int .i64 0),(.int .i64 0)] [(some (0,1),(.int .i64 0)),(some (1,1),(.int .i64 1))])) fun t99 h3 =>
 bc k5 [77,78,79,80,81,82,83,84,85,86,87,88,89,90,91,92,93,94,95,96,97,98,99,100,101,102,103,104,105,106,107,108,109,110,111] e (gk t97 false h3 (K 15 [t99] h3)) fun t100 h4 =>
 bd (gl t97 false (binK 0 .neq t100 (.int .i64 0))) fun t101 =>
 bd (pk t97 (.bool true) t101) fun t102 =>
 bc k5 [77,78,79,80,81,82,83,84,85,86,87,88,89,90,91,92,93,94,95,96,97,98,99,100,101,102,103,104,105,106,107,108,109,110,111] e (gk t102 false h4 (K 15 [.nils] h4)) fun t104 h5 =>
 bd (gl t102 false (binK 0 .neq t104 (.int .i64 0))) fun t105 =>
 bd (pk t102 (.bool true) t105) fun t106 =>
 bf (gf t106 false h5 (bs h5 3 1 [(.int .i64 0)] [(some (0,1),(.int .i64 1))])) fun t108 h6 =>
 bc k5 [77,78,79,80,81,82,83,84,85,86,87,88,89,90,91,92,93,94,95,96,97,98,99,100,101,102,103,104,105,106,107,108,109,110,111] e (gk t106 false h6 (K 15 [t108] h6)) fun t109 h7 =>
 bd (gl t106 false (binK 0 .neq t109 (.int .i64 2))) fun t110 =>
 bd (pk t106 (.bool true) t110) fun t111 =>
 some ⟨.nm,ux5 e 111 t111,h7⟩) fun e h =>
 br (e.s k5 111) (sq (some ⟨.nm,(ux5 e 0 (.bool false)).st 0 (.bool false),h⟩) fun e h =>
 some ⟨.rt,e,h⟩)
 (some ⟨.nm,e,h⟩)) fun e h =>
 sq (sq (some ⟨.nm,(ux5 e 13 (.int .i64 19)).st 12 (.int .i64 19),h⟩) fun e h =>
 blk 0 (L (l5_0 K L) e h)) fun e h =>
 sq (bf (ms h 3 8 [(.int .i64 0)] (.int .i64 16) (.int .i64 16)) fun t119 h1 =>
 some ⟨.nm,(ux5 e 14 t119).st 13 t119,h1⟩) fun e h =>
 sq (bd (iaS 1 (e.s k5 14) (.int .i64 15)) fun t121 =>
 bf (stZ 1 h t121 (.int .i64 1048577)) fun _ h1 =>
 some ⟨.nm,ux5 e 0 (e.s k5 0),h1⟩) fun e h =>
 sq (bf (ms h 3 8 [(.int .i64 0)] (.int .i64 16) (.int .i64 16)) fun t122 h1 =>
 some ⟨.nm,(ux5 e 15 t122).st 14 t122,h1⟩) fun e h =>
 sq (bd (iaS 1 (e.s k5 15) (.int .i64 3)) fun t124 =>
 bf (stZ 1 h t124 (.int .i64 1048576)) fun _ h1 =>
 some ⟨.nm,ux5 e 0 (e.s k5 0),h1⟩) fun e h =>
 sq (bd (iaS 1 (e.s k5 15) (.int .i64 15)) fun t126 =>
 bf (stZ 1 h t126 (.int .i64 (-1048576))) fun _ h1 =>
 some ⟨.nm,ux5 e 0 (e.s k5 0),h1⟩) fun e h =>
 sq (bd (bl [(.int .i64 0),(.int .i64 0),(.int .i64 0),.nils] [(some (0,1),(.int .i64 5))]) fun t127 =>
 bd (bl [(.int .i64 0),(.int .i64 0),(.int .i64 0),.nils] [(some (0,1),(.int .i64 4)),(some (1,1),(.int .i64 3)),(some (3,1),(e.s k5 6))]) fun t129 =>
 bd (bl [(.int .i64 0),(.int .i64 0),(.int .i64 0),.nils] [(some (0,1),(.int .i64 4)),(some (1,1),(.int .i64 (-1))),(some (3,1),(e.s k5 6))]) fun t131 =>
 bd (bl [(.int .i64 0),(.int .i64 0),(.int .i64 0),.nils] [(some (0,1),(.int .i64 4)),(some (2,1),(.int .i64 3)),(some (3,1),(e.s k5 6))]) fun t133 =>
 bd (slS 1 (e.s k5 6) none (some (.int .i64 15)) none) fun t135 =>
 bd (bl [(.int .i64 0),(.int .i64 0),(.int .i64 0),.nils] [(some (0,1),(.int .i64 4)),(some (3,1),t135)]) fun t136 =>
 bd (bl [(.int .i64 0),(.int .i64 0),(.int .i64 0),.nils] [(some (0,1),(.int .i64 4)),(some (3,1),(e.s k5 14))]) fun t138 =>
 bd (bl [(.int .i64 0),(.int .i64 0),(.int .i64 0),.nils] [(some (0,1),(.int .i64 4)),(some (3,1),(e.s k5 15))]) fun t140 =>
 bd (bl [(.int .i64 0),(.int .i64 0),(.int .i64 0),.nils] [(some (0,1),(.int .i64 8)),(some (3,1),(e.s k5 6))]) fun t142 =>
 bf (bs h 36 8 [(.int .i64 0),(.int .i64 0),(.int .i64 0),.nils,(.int .i64 0),(.int .i64 0),(.int .i64 0),.nils,(.int .i64 0),(.int .i64 0),(.int .i64 0),.nils,(.int .i64 0),(.int .i64 0),(.int .i64 0),.nils,(.int .i64 0),(.int .i64 0),(.int .i64 0),.nils,(.int .i64 0),(.int .i64 0),(.int .i64 0),.nils,(.int .i64 0),(.int .i64 0),(.int .i64 0),.nils,(.int .i64 0),(.int .i64 0),(.int .i64 0),.nils] [(some (0,4),t127),(some (4,4),t129),(some (8,4),t131),(some (12,4),t133),(some (16,4),t136),(some (20,4),t138),(some (24,4),t140),(some (28,4),t142)]) fun t143 h1 =>
 some ⟨.nm,(ux5 e 16 t143).st 15 t143,h1⟩) fun e h =>
 sq (bc k5 [144,145,146,147,148,149,150,151,152,153,154,155,156,157,158,159,160,161,162,163,164,165,166,167,0] e (gk (.bool true) true h (K 22 [] h)) fun t145 h1 =>
 bd (pk (.bool true) t145 (.bool false)) fun t146 =>
 bd (gl t146 true (some (e.s k5 16))) fun t148 =>
 bc k5 [144,145,146,147,148,149,150,151,152,153,154,155,156,157,158,159,160,161,162,163,164,165,166,167,0] e (gk t146 true h1 (K 3 [t148,(.bool true)] h1)) fun t149 h2 =>
 bd (pk t146 t149 (.bool false)) fun t150 =>
 bd (gl t150 true (bl [(.int .i64 0),(.int .i64 0),(.int .i64 0),.nils] [(some (0,1),(.int .i64 4))])) fun t152 =>
 bd (gl t150 true (bl [(.int .i64 0),(.int .i64 0),(.int .i64 0),.nils] [(some (0,1),(.int .i64 64))])) fun t153 =>
 bd (gl t150 true (bl [(.int .i64 0),(.int .i64 0),(.int .i64 0),.nils] [(some (0,1),(.int .i64 5))])) fun t154 =>
 bd (gl t150 true (bl [(.int .i64 0),(.int .i64 0),(.int .i64 0),.nils] [(some (0,1),(.int .i64 4)),(some (2,1),(.int .i64 (-1)))])) fun t155 =>
 bf (gf t150 true h2 (bs h2 36 4 [(.int .i64 0),(.int .i64 0),(.int .i64 0),.nils,(.int .i64 0),(.int .i64 0),(.int .i64 0),.nils,(.int .i64 0),(.int .i64 0),(.int .i64 0),.nils,(.int .i64 0),(.int .i64 0),(.int .i64 0),.nils] [(some (0,4),t152),(some (4,4),t153),(some (8,4),t154),(some (12,4),t155)])) fun t156 h3 =>
 bc k5 [144,145,146,147,148,149,150,151,152,153,154,155,156,157,158,159,160,161,162,163,164,165,166,167,0] e (gk t150 true h3 (K 4 [.nils,t156] h3)) fun t157 h4 =>
 bd (pk t150 t157 (.bool false)) fun t158 =>
 bf (gf t158 true h4 (bs h4 5 6 [(.int .u8 0),(.int .u8 0),(.int .u8 0),(.int .u8 0),(.int .u8 0),(.int .u8 0)] [(some (0,1),(.int .u8 255)),(some (1,1),(.int .u8 255)),(some (2,1),(.int .u8 255)),(some (3,1),(.int .u8 255)),(some (4,1),(.int .u8 255)),(some (5,1),(.int .u8 255))])) fun t160 h5 =>
 bd (gl t158 true (bl [(.int .i64 0),(.int .i64 0),(.int .i64 0),.nils] [(some (0,1),(.int .i64 4))])) fun t161 =>
 bd (gl t158 true (bl [(.int .i64 0),(.int .i64 0),(.int .i64 0),.nils] [(some (0,1),(.int .i64 8)),(some (1,1),(.int .i64 1))])) fun t162 =>
 bd (gl t158 true (bl [(.int .i64 0),(.int .i64 0),(.int .i64 0),.nils] [(some (0,1),(.int .i64 16)),(some (2,1),(.int .i64 2))])) fun t163 =>
 bd (gl t158 true (bl [(.int .i64 0),(.int .i64 0),(.int .i64 0),.nils] [(some (0,1),(.int .i64 32))])) fun t164 =>
 bf (gf t158 true h5 (bs h5 36 4 [(.int .i64 0),(.int .i64 0),(.int .i64 0),.nils,(.int .i64 0),(.int .i64 0),(.int .i64 0),.nils,(.int .i64 0),(.int .i64 0),(.int .i64 0),.nils,(.int .i64 0),(.int .i64 0),(.int .i64 0),.nils] [(some (0,4),t161),(some (4,4),t162),(some (8,4),t163),(some (12,4),t164)])) fun t165 h6 =>
 bc k5 [144,145,146,147,148,149,150,151,152,153,154,155,156,157,158,159,160,161,162,163,164,165,166,167,0] e (gk t158 true h6 (K 4 [t160,t165] h6)) fun t166 h7 =>
 bd (pk t158 t166 (.bool false)) fun t167 =>
 some ⟨.nm,(ux5 e 0 t167).st 0 t167,h7⟩) fun e h =>
 some ⟨.rt,e,h⟩
def f5 (K:Oracle) (L:Looper) (h:H):Option (Rv × H):=fin Tryz.prog k5 [.tmp 0] (s5 K L ⟨[V.und,V.und,V.und,V.und,V.und,V.und,V.und,V.und,V.und,V.und,V.und,V.und,V.und,V.und,V.und,V.und],0,V.und⟩ h)
theorem r5:(fun K L h=>runFF Tryz.prog kp K L 5 [] h)=f5:=by kernel_rfl
@[simp] def k6:List Nat:=[0,1,2,4,5,6]
@[simp] def ux6 (e:E) (t:Nat) (v:V):E:=⟨[e.s k6 0,e.s k6 1,e.s k6 2,e.s k6 4,e.s k6 5,e.s k6 6],t,v⟩
def s6 (K:Oracle) (L:Looper) (e:E) (h:H):Out :=
 sq (bf (bx h 29 (e.s k6 0)) fun t2 h1 =>
 some ⟨.nm,(((ux6 e 5 (.int .i64 0)).st 2 t2).st 3 .nilp).st 4 (.int .i64 0),h1⟩) fun e h =>
 sq (sq (bd (ldn 1 h (e.s k6 2)) fun t7 =>
 bc k6 [7,8,6] e (K 26 [t7] h) fun t8 h1 =>
 some ⟨.nm,(ux6 e 6 t8).st 5 t8,h1⟩) fun e h =>
 sq (bd (binK 0 .neq (e.s k6 6) (.int .i64 0)) fun t10 =>
 some ⟨.nm,ux6 e 10 t10,h⟩) fun e h =>
 br (e.s k6 10) (sq (some ⟨.nm,((ux6 e 5 (e.s k6 6)).st 3 .nilp).st 4 (e.s k6 6),h⟩) fun e h =>
 some ⟨.rt,e,h⟩)
 (some ⟨.nm,e,h⟩)) fun e h =>
 sq (bk (K 27 [] h) (fun tp hp =>
 bd (ldn 1 h (e.s k6 2)) fun t13 =>
 bd (some (e.s k6 1)) fun t15 =>
 some ⟨.pn tp,fgE k6 [12,13,14,15,16,17,4,5] e,hp⟩) fun _ _ =>
 bn (K 27 [] h) fun t12 h1 =>
 bd (ldn 1 h1 (e.s k6 2)) fun t13 =>
 bn (K 28 [t13] h1) fun t14 h2 =>
 bd (bl [.nilp,.nilp,.nils,(.bool false),(.int .i64 0)] [(some (0,1),t12),(some (2,1),t14),(some (3,1),(e.s k6 1))]) fun t16 =>
 bf (bx h2 63 t16) fun t17 h3 =>
 ck (ldn 1 h (e.s k6 2)) t13 (ck (ldn 1 h1 (e.s k6 2)) t13 (some ⟨.nm,((ux6 e 5 (.int .i64 0)).st 3 t17).st 4 (.int .i64 0),h3⟩))) fun e h =>
 some ⟨.rt,e,h⟩
def f6 (K:Oracle) (L:Looper) (p0 p1:V) (h:H):Option (Rv × H):=fin Tryz.prog k6 [.tmp 4,.tmp 5] (s6 K L ⟨[p0,p1,V.und,V.und,V.und,V.und],0,p0⟩ h)
theorem r6:(fun K L p0 p1 h=>runFF Tryz.prog kp K L 6 [p0,p1] h)=f6:=by kernel_rfl
@[simp] def k7:List Nat:=[0,1,3,4,5,6,7,8,17,18]
@[simp] def ux7 (e:E) (t:Nat) (v:V):E:=⟨[e.s k7 0,e.s k7 1,e.s k7 3,e.s k7 4,e.s k7 5,e.s k7 6,e.s k7 7,e.s k7 8,e.s k7 17,e.s k7 18],t,v⟩
def l7_0 (K:Oracle) (L:Looper) (e:E) (h:H):Out :=
 sq (bd (binK 0 .lss (e.s k7 18) (e.s k7 17)) fun t19 =>
 some ⟨.nm,ux7 e 19 t19,h⟩) fun e h =>
 sq (br (e.s k7 19) (some ⟨.nm,e,h⟩)
 (some ⟨.ex 2,e,h⟩)) fun e h =>
 sq (blk 3 (sq (some ⟨.nm,(ux7 e 6 (e.s k7 18)).st 5 (e.s k7 18),h⟩) fun e h =>
 bd (fa 1 (e.s k7 3)) fun t25 =>
 bd (ld h t25) fun t26 =>
 bc k7 [22,23,24,25,26,27,21,28,29,30] e (cdy K (e.s k7 4) [t26] h) fun t27 h1 =>
 bd (exV t27 0) fun t28 =>
 bd (exV t27 1) fun t29 =>
 bd (iaS 2 (e.s k7 5) (e.s k7 6)) fun t30 =>
 bf (stZ 2 h1 t30 t28) fun _ h2 =>
 some ⟨.nm,ux7 e 0 (e.s k7 0),h2⟩)) fun e h =>
 bd (binK 0 .add (e.s k7 18) (.int .i64 1)) fun t31 =>
 some ⟨.nm,(ux7 e 18 t31).st 9 t31,h⟩
def l7_1 (K:Oracle) (L:Looper) (e:E) (h:H):Out :=
 sq (bd (binK 0 .lss (e.s k7 8) (.int .i64 32)) fun t9 =>
 some ⟨.nm,ux7 e 9 t9,h⟩) fun e h =>
 sq (br (e.s k7 9) (some ⟨.nm,e,h⟩)
 (some ⟨.ex 0,e,h⟩)) fun e h =>
 sq (blk 1 (sq (bd (ixN 32 3 (e.s k7 7) (e.s k7 8)) fun t10 =>
 bf (nw h 69 [(.int .i64 0),(.int .i64 0),(.bool false)]) fun t3 h1 =>
 bf (stZ 3 h1 t3 t10) fun _ h2 =>
 some ⟨.nm,(ux7 e 0 (e.s k7 0)).st 2 t3,h2⟩) fun e h =>
 sq (some ⟨.nm,(ux7 e 4 (.fn (.func 30) [] [])).st 3 (.fn (.func 30) [] []),h⟩) fun e h =>
 sq (sq (bd (fa 2 (e.s k7 3)) fun t11 =>
 bd (ld h t11) fun t12 =>
 some ⟨.nm,ux7 e 12 t12,h⟩) fun e h =>
 br (e.s k7 12) (some ⟨.nm,(ux7 e 4 (.fn (.func 31) [] [])).st 3 (.fn (.func 31) [] []),h⟩)
 (some ⟨.nm,e,h⟩)) fun e h =>
 sq (bd (fa 0 (e.s k7 3)) fun t13 =>
 bd (ld h t13) fun t14 =>
 bf (ms h 76 32 [.nils,(.int .i64 0)] t14 t14) fun t15 h1 =>
 some ⟨.nm,(ux7 e 5 t15).st 4 t15,h1⟩) fun e h =>
 sq (sq (bd (lnS (e.s k7 5)) fun t17 =>
 some ⟨.nm,((ux7 e 18 (.int .i64 0)).st 8 t17).st 9 (.int .i64 0),h⟩) fun e h =>
 blk 2 (L (l7_0 K L) e h)) fun e h =>
 bd (fa 0 (e.s k7 1)) fun t32 =>
 bd (ld h t32) fun t33 =>
 bf (bs h 73 1 [.nils] [(some (0,1),(e.s k7 5))]) fun t35 h1 =>
 bf (apZ 73 1 24 h1 t33 t35) fun t36 h2 =>
 bd (fa 0 (e.s k7 1)) fun t37 =>
 bf (stZ 1 h2 t37 t36) fun _ h3 =>
 some ⟨.nm,ux7 e 0 (e.s k7 0),h3⟩)) fun e h =>
 bd (binK 0 .add (e.s k7 8) (.int .i64 1)) fun t38 =>
 some ⟨.nm,(ux7 e 8 t38).st 7 t38,h⟩
def s7 (K:Oracle) (L:Looper) (e:E) (h:H):Out :=
 sq (bf (nw h 29 [.nils]) fun t0 h1 =>
 some ⟨.nm,(ux7 e 0 t0).st 0 t0,h1⟩) fun e h =>
 sq (bf (nw h 29 [.nils]) fun t1 h1 =>
 some ⟨.nm,(ux7 e 1 t1).st 1 t1,h1⟩) fun e h =>
 sq (sq (bc k7 [7,8] e (K 29 [] h) fun t7 h1 =>
 some ⟨.nm,((ux7 e 8 (.int .i64 0)).st 6 t7).st 7 (.int .i64 0),h1⟩) fun e h =>
 blk 0 (L (l7_1 K L) e h)) fun e h =>
 sq (bd (ldn 1 h (e.s k7 1)) fun t39 =>
 bf (stZ 1 h (e.s k7 0) t39) fun _ h1 =>
 some ⟨.nm,ux7 e 0 (e.s k7 0),h1⟩) fun e h =>
 some ⟨.rt,e,h⟩
def f7 (K:Oracle) (L:Looper) (h:H):Option (Rv × H):=fin Tryz.prog k7 [.cell 0 29] (s7 K L ⟨[V.und,V.und,V.und,V.und,V.und,V.und,V.und,V.und,V.und,V.und],0,V.und⟩ h)
theorem r7:(fun K L h=>runFF Tryz.prog kp K L 7 [] h)=f7:=by kernel_rfl
@[simp] def k8:List Nat:=[0,1,2,4,5]
@[simp] def ux8 (e:E) (t:Nat) (v:V):E:=⟨[e.s k8 0,e.s k8 1,e.s k8 2,e.s k8 4,e.s k8 5],t,v⟩
def s8 (K:Oracle) (L:Looper) (e:E) (h:H):Out :=
 sq (bf (bx h 29 (e.s k8 0)) fun t2 h1 =>
 some ⟨.nm,(((ux8 e 5 (.int .i64 0)).st 2 t2).st 3 .nilp).st 4 (.int .i64 0),h1⟩) fun e h =>
 sq (sq (bd (ldn 1 h (e.s k8 2)) fun t6 =>
 bc k8 [6,7,8] e (K 32 [t6] h) fun t7 h1 =>
 bd (binK 0 .neq t7 (.int .i64 0)) fun t8 =>
 some ⟨.nm,ux8 e 8 t8,h1⟩) fun e h =>
 br (e.s k8 8) (sq (some ⟨.nm,((ux8 e 5 (.int .i64 2)).st 3 .nilp).st 4 (.int .i64 2),h⟩) fun e h =>
 some ⟨.rt,e,h⟩)
 (some ⟨.nm,e,h⟩)) fun e h =>
 sq (bk (K 33 [] h) (fun tp hp =>
 bd (ldn 1 h (e.s k8 2)) fun t10 =>
 bd (some (e.s k8 1)) fun t12 =>
 some ⟨.pn tp,fgE k8 [9,10,11,12,13,14,4,5] e,hp⟩) fun _ _ =>
 bn (K 33 [] h) fun t9 h1 =>
 bd (ldn 1 h1 (e.s k8 2)) fun t10 =>
 bn (K 34 [t10] h1) fun t11 h2 =>
 bd (bl [.nilp,.nilp,.nils,(.bool false),(.int .i64 0)] [(some (0,1),t9),(some (2,1),t11),(some (3,1),(e.s k8 1))]) fun t13 =>
 bf (bx h2 46 t13) fun t14 h3 =>
 ck (ldn 1 h (e.s k8 2)) t10 (ck (ldn 1 h1 (e.s k8 2)) t10 (some ⟨.nm,((ux8 e 5 (.int .i64 0)).st 3 t14).st 4 (.int .i64 0),h3⟩))) fun e h =>
 some ⟨.rt,e,h⟩
def f8 (K:Oracle) (L:Looper) (p0 p1:V) (h:H):Option (Rv × H):=fin Tryz.prog k8 [.tmp 4,.tmp 5] (s8 K L ⟨[p0,p1,V.und,V.und,V.und],0,p0⟩ h)
theorem r8:(fun K L p0 p1 h=>runFF Tryz.prog kp K L 8 [p0,p1] h)=f8:=by kernel_rfl
@[simp] def k9:List Nat:=[0,1,2,3,4,5,6]
@[simp] def ux9 (e:E) (t:Nat) (v:V):E:=⟨[e.s k9 0,e.s k9 1,e.s k9 2,e.s k9 3,e.s k9 4,e.s k9 5,e.s k9 6],t,v⟩
def l9_0 (K:Oracle) (L:Looper) (e:E) (h:H):Out :=
 sq (sq (bd (iaS 3 (e.s k9 2) (e.s k9 3)) fun t18 =>
 bd (iaA 3 1 t18 (.int .i64 0)) fun t19 =>
 bd (ld h t19) fun t20 =>
 bd (binK 0 .lss (e.s k9 5) t20) fun t21 =>
 some ⟨.nm,ux9 e 21 t21,h⟩) fun e h =>
 br (e.s k9 21) (some ⟨.nm,e,h⟩)
 (some ⟨.ex 2,e,h⟩)) fun e h =>
 sq (blk 3 (sq (bd (iaS 3 (e.s k9 2) (e.s k9 3)) fun t27 =>
 bd (iaA 3 1 t27 (.int .i64 1)) fun t28 =>
 bd (ld h t28) fun t29 =>
 bc k9 [25,26,27,28,29,30,24,31,32,6,7] e (K 36 [t29] h) fun t30 h1 =>
 bd (exV t30 0) fun t31 =>
 bd (exV t30 1) fun t32 =>
 bf (nw h1 76 [.nils,(.int .i64 0)]) fun t6 h2 =>
 bf (stZ 2 h2 t6 t31) fun _ h3 =>
 some ⟨.nm,(ux9 e 7 t32).st 6 t6,h3⟩) fun e h =>
 sq (sq (bd (iaS 3 (e.s k9 2) (e.s k9 3)) fun t35 =>
 bd (iaA 3 1 t35 (.int .i64 2)) fun t36 =>
 bd (ld h t36) fun t37 =>
 bd (binK 0 .eql t37 (.int .i64 1)) fun t38 =>
 some ⟨.nm,ux9 e 38 t38,h⟩) fun e h =>
 br (e.s k9 38) (bd (iaS 3 (e.s k9 2) (e.s k9 3)) fun t42 =>
 bd (iaA 3 1 t42 (.int .i64 1)) fun t43 =>
 bd (ld h t43) fun t44 =>
 bc k9 [40,41,42,43,44,45,39,46,47] e (K 37 [t44] h) fun t45 h1 =>
 bd (exV t45 0) fun t46 =>
 bd (exV t45 1) fun t47 =>
 bf (stZ 2 h1 (e.s k9 6) t46) fun _ h2 =>
 some ⟨.nm,ux9 e 0 (e.s k9 0),h2⟩)
 (some ⟨.nm,e,h⟩)) fun e h =>
 bd (ldn 2 h (e.s k9 6)) fun t49 =>
 bf (bs h 76 1 [.nils,(.int .i64 0)] [(some (0,2),t49)]) fun t50 h1 =>
 bf (apZ 76 2 32 h1 (e.s k9 4) t50) fun t51 h2 =>
 some ⟨.nm,(ux9 e 4 t51).st 4 t51,h2⟩)) fun e h =>
 bd (binK 0 .add (e.s k9 5) (.int .i64 1)) fun t23 =>
 some ⟨.nm,(ux9 e 5 t23).st 5 t23,h⟩
def l9_1 (K:Oracle) (L:Looper) (e:E) (h:H):Out :=
 sq (sq (bd (lnS (e.s k9 2)) fun t11 =>
 bd (binK 0 .lss (e.s k9 3) t11) fun t12 =>
 some ⟨.nm,ux9 e 12 t12,h⟩) fun e h =>
 br (e.s k9 12) (some ⟨.nm,e,h⟩)
 (some ⟨.ex 0,e,h⟩)) fun e h =>
 sq (blk 1 (sq (some ⟨.nm,(ux9 e 4 .nils).st 4 .nils,h⟩) fun e h =>
 sq (sq (some ⟨.nm,(ux9 e 5 (.int .i64 0)).st 5 (.int .i64 0),h⟩) fun e h =>
 blk 2 (L (l9_0 K L) e h)) fun e h =>
 bd (fa 0 (e.s k9 1)) fun t52 =>
 bd (ld h t52) fun t53 =>
 bf (bs h 73 1 [.nils] [(some (0,1),(e.s k9 4))]) fun t55 h1 =>
 bf (apZ 73 1 24 h1 t53 t55) fun t56 h2 =>
 bd (fa 0 (e.s k9 1)) fun t57 =>
 bf (stZ 1 h2 t57 t56) fun _ h3 =>
 some ⟨.nm,ux9 e 0 (e.s k9 0),h3⟩)) fun e h =>
 bd (binK 0 .add (e.s k9 3) (.int .i64 1)) fun t14 =>
 some ⟨.nm,(ux9 e 3 t14).st 3 t14,h⟩
def s9 (K:Oracle) (L:Looper) (e:E) (h:H):Out :=
 sq (bf (nw h 29 [.nils]) fun t0 h1 =>
 some ⟨.nm,(ux9 e 0 t0).st 0 t0,h1⟩) fun e h =>
 sq (bf (nw h 29 [.nils]) fun t1 h1 =>
 some ⟨.nm,(ux9 e 1 t1).st 1 t1,h1⟩) fun e h =>
 sq (bc k9 [8,2] e (K 35 [] h) fun t8 h1 =>
 some ⟨.nm,(ux9 e 2 t8).st 2 t8,h1⟩) fun e h =>
 sq (sq (some ⟨.nm,(ux9 e 3 (.int .i64 0)).st 3 (.int .i64 0),h⟩) fun e h =>
 blk 0 (L (l9_1 K L) e h)) fun e h =>
 sq (bd (ldn 1 h (e.s k9 1)) fun t58 =>
 bf (stZ 1 h (e.s k9 0) t58) fun _ h1 =>
 some ⟨.nm,ux9 e 0 (e.s k9 0),h1⟩) fun e h =>
 some ⟨.rt,e,h⟩
def f9 (K:Oracle) (L:Looper) (h:H):Option (Rv × H):=fin Tryz.prog k9 [.cell 0 29] (s9 K L ⟨[V.und,V.und,V.und,V.und,V.und,V.und,V.und],0,V.und⟩ h)
theorem r9:(fun K L h=>runFF Tryz.prog kp K L 9 [] h)=f9:=by kernel_rfl
@[simp] def k10:List Nat:=[0,2,3]
@[simp] def ux10 (e:E) (t:Nat) (v:V):E:=⟨[e.s k10 0,e.s k10 2,e.s k10 3],t,v⟩
def s10 (K:Oracle) (L:Looper) (e:E) (h:H):Out :=
 sq (some ⟨.nm,(ux10 e 2 .nils).st 1 .nils,h⟩) fun e h =>
 sq (some ⟨.nm,(ux10 e 3 .nils).st 2 .nils,h⟩) fun e h =>
 sq (bf (apZ 3 1 8 h (e.s k10 3) (e.s k10 0)) fun t6 h1 =>
 some ⟨.nm,(ux10 e 3 t6).st 2 t6,h1⟩) fun e h =>
 sq (some ⟨.nm,(ux10 e 2 (e.s k10 3)).st 1 (e.s k10 3),h⟩) fun e h =>
 some ⟨.rt,e,h⟩
def f10 (K:Oracle) (L:Looper) (p0:V) (h:H):Option (Rv × H):=fin Tryz.prog k10 [.tmp 2] (s10 K L ⟨[p0,V.und,V.und],0,p0⟩ h)
theorem r10:(fun K L p0 h=>runFF Tryz.prog kp K L 10 [p0] h)=f10:=by kernel_rfl
@[simp] def k11:List Nat:=[0,1,2,3,4,10,11,13,14,15,16]
@[simp] def ux11 (e:E) (t:Nat) (v:V):E:=⟨[e.s k11 0,e.s k11 1,e.s k11 2,e.s k11 3,e.s k11 4,e.s k11 10,e.s k11 11,e.s k11 13,e.s k11 14,e.s k11 15,e.s k11 16],t,v⟩
def s11 (K:Oracle) (L:Looper) (e:E) (h:H):Out :=
 sq (some ⟨.nm,((ux11 e 11 (.int .i64 0)).st 5 .nils).st 6 (.int .i64 0),h⟩) fun e h =>
 sq (sq (bc k11 [18,19,17,20,21,12,13] e (K 38 [e.s k11 0,(.int .i64 0),(.int .i64 0)] h) fun t19 h1 =>
 bd (exV t19 0) fun t20 =>
 bd (exV t19 1) fun t21 =>
 some ⟨.nm,(ux11 e 13 t21).st 7 t21,h1⟩) fun e h =>
 sq (bd (binK 0 .neq (e.s k11 13) (.int .i64 0)) fun t23 =>
 some ⟨.nm,ux11 e 23 t23,h⟩) fun e h =>
 br (e.s k11 23) (sq (some ⟨.nm,((ux11 e 11 (e.s k11 13)).st 5 .nils).st 6 (e.s k11 13),h⟩) fun e h =>
 some ⟨.rt,e,h⟩)
 (some ⟨.nm,e,h⟩)) fun e h =>
 sq (bc k11 [26,27,25,28,29,14,15] e (K 39 [e.s k11 1] h) fun t27 h1 =>
 bd (exV t27 0) fun t28 =>
 bd (exV t27 1) fun t29 =>
 some ⟨.nm,((ux11 e 15 t29).st 8 t28).st 9 t29,h1⟩) fun e h =>
 sq (blk 0 (sq (bd (binK 0 .neq (e.s k11 15) (.int .i64 0)) fun t32 =>
 some ⟨.nm,ux11 e 30 t32,h⟩) fun e h =>
 br (e.s k11 30) (sq (some ⟨.nm,((ux11 e 11 (e.s k11 15)).st 5 .nils).st 6 (e.s k11 15),h⟩) fun e h =>
 some ⟨.rt,e,h⟩)
 (sq (bd (binK 0 .lss (e.s k11 2) (.int .i64 0)) fun t36 =>
 bd (gl t36 false (some (e.s k11 2))) fun t38 =>
 bd (gl t36 false (binK 0 .gtr t38 (.int .i64 2))) fun t39 =>
 bd (pk t36 (.bool true) t39) fun t40 =>
 bd (gl t40 false (some (e.s k11 3))) fun t42 =>
 bd (gl t40 false (binK 0 .lss t42 (.int .i64 0))) fun t43 =>
 bd (pk t40 (.bool true) t43) fun t44 =>
 bd (gl t44 false (some (e.s k11 3))) fun t46 =>
 bd (gl t44 false (binK 0 .gtr t46 (.int .i64 2))) fun t47 =>
 bd (pk t44 (.bool true) t47) fun t48 =>
 some ⟨.nm,ux11 e 34 t48,h⟩) fun e h =>
 br (e.s k11 34) (sq (some ⟨.nm,((ux11 e 11 (.int .i64 2)).st 5 .nils).st 6 (.int .i64 2),h⟩) fun e h =>
 some ⟨.rt,e,h⟩)
 (sq (bc k11 [50,51,52,53,54,55,56,57,58,59,60,61,62,63,64,65,66,67,68,49] e (K 40 [e.s k11 0] h) fun t51 h1 =>
 bd (gl t51 true (some (e.s k11 4))) fun t53 =>
 bd (gl t51 true (lnS t53)) fun t54 =>
 bd (gl t51 true (some (e.s k11 14))) fun t55 =>
 bd (gl t51 true (lnS t55)) fun t56 =>
 bd (gl t51 true (binK 0 .neq t54 t56)) fun t57 =>
 bd (gl t51 true (some t57)) fun t58 =>
 bd (gl t58 false (some (e.s k11 4))) fun t59 =>
 bc k11 [50,51,52,53,54,55,56,57,58,59,60,61,62,63,64,65,66,67,68,49] e (gk t58 false h1 (K 41 [t59] h1)) fun t60 h2 =>
 bd (gl t58 false (binK 0 .gtr t60 (.int .i64 1048576))) fun t61 =>
 bd (gl t51 true (pk t58 (.bool true) t61)) fun t62 =>
 bd (gl t51 true (some t62)) fun t63 =>
 bd (gl t63 false (some (e.s k11 4))) fun t64 =>
 bc k11 [50,51,52,53,54,55,56,57,58,59,60,61,62,63,64,65,66,67,68,49] e (gk t63 false h2 (K 42 [t64] h2)) fun t65 h3 =>
 bd (gl t63 false (binK 0 .lss t65 (.int .i64 (-1048576)))) fun t66 =>
 bd (gl t51 true (pk t63 (.bool true) t66)) fun t67 =>
 bd (pk t51 t67 (.bool false)) fun t68 =>
 some ⟨.nm,ux11 e 49 t68,h3⟩) fun e h =>
 br (e.s k11 49) (sq (some ⟨.nm,((ux11 e 11 (.int .i64 2)).st 5 .nils).st 6 (.int .i64 2),h⟩) fun e h =>
 some ⟨.rt,e,h⟩)
 (some ⟨.nm,e,h⟩))))) fun e h =>
 sq (bd (minV [e.s k11 2,(.int .i64 1)]) fun t72 =>
 bd (lnS (e.s k11 14)) fun t76 =>
 bf (ms h 3 8 [(.int .i64 0)] t76 t76) fun t77 h1 =>
 bd (bl [.nilp,(.int .i64 0),(.int .i64 0),(.int .i64 0),.nils,.nils,.nils] [(some (0,1),(e.s k11 0)),(some (1,1),(e.s k11 1)),(some (2,1),t72),(some (3,1),(e.s k11 3)),(some (4,1),(e.s k11 14)),(some (6,1),t77)]) fun t78 =>
 bf (bx h1 87 t78) fun t79 h2 =>
 some ⟨.nm,(ux11 e 16 t79).st 10 t79,h2⟩) fun e h =>
 sq (sq (bd (nilC (e.s k11 16)) fun t82 =>
 bd (fa 5 t82) fun t83 =>
 bf (stZ 1 h t83 (e.s k11 4)) fun _ h1 =>
 some ⟨.nm,ux11 e 0 (e.s k11 0),h1⟩) fun e h =>
 sq (bc k11 [84,85,86] e (K 40 [e.s k11 0] h) fun t85 h1 =>
 bd (unV .not t85) fun t86 =>
 some ⟨.nm,ux11 e 86 t86,h1⟩) fun e h =>
 br (e.s k11 86) (bd (lnS (e.s k11 14)) fun t89 =>
 bf (ms h 3 8 [(.int .i64 0)] t89 t89) fun t90 h1 =>
 bd (nilC (e.s k11 16)) fun t91 =>
 bd (fa 5 t91) fun t92 =>
 bf (stZ 1 h1 t92 t90) fun _ h2 =>
 some ⟨.nm,ux11 e 0 (e.s k11 0),h2⟩)
 (some ⟨.nm,e,h⟩)) fun e h =>
 sq (bc k11 [93,94,95,96,10,11] e (K 43 [e.s k11 16] h) fun t94 h1 =>
 bd (exV t94 0) fun t95 =>
 bd (exV t94 1) fun t96 =>
 some ⟨.nm,((ux11 e 11 t96).st 5 t95).st 6 t96,h1⟩) fun e h =>
 some ⟨.rt,e,h⟩
def f11 (K:Oracle) (L:Looper) (p0 p1 p2 p3 p4:V) (h:H):Option (Rv × H):=fin Tryz.prog k11 [.tmp 10,.tmp 11] (s11 K L ⟨[p0,p1,p2,p3,p4,V.und,V.und,V.und,V.und,V.und,V.und],0,p0⟩ h)
theorem r11:(fun K L p0 p1 p2 p3 p4 h=>runFF Tryz.prog kp K L 11 [p0,p1,p2,p3,p4] h)=f11:=by kernel_rfl
@[simp] def k12:List Nat:=[0,1,2,3,4,10,11,12,13,15,16,17,18,19,20,21,22,24,26,27,28,29,31,33,34,35,36,37,38]
@[simp] def ux12 (e:E) (t:Nat) (v:V):E:=⟨[e.s k12 0,e.s k12 1,e.s k12 2,e.s k12 3,e.s k12 4,e.s k12 10,e.s k12 11,e.s k12 12,e.s k12 13,e.s k12 15,e.s k12 16,e.s k12 17,e.s k12 18,e.s k12 19,e.s k12 20,e.s k12 21,e.s k12 22,e.s k12 24,e.s k12 26,e.s k12 27,e.s k12 28,e.s k12 29,e.s k12 31,e.s k12 33,e.s k12 34,e.s k12 35,e.s k12 36,e.s k12 37,e.s k12 38],t,v⟩
def l12_0 (K:Oracle) (L:Looper) (e:E) (h:H):Out :=
 sq (sq (bd (lnS (e.s k12 13)) fun t69 =>
 bd (binK 0 .lss (e.s k12 19) t69) fun t70 =>
 some ⟨.nm,ux12 e 70 t70,h⟩) fun e h =>
 br (e.s k12 70) (some ⟨.nm,e,h⟩)
 (some ⟨.ex 0,e,h⟩)) fun e h =>
 sq (blk 1 (sq (bd (iaS 1 (e.s k12 13) (e.s k12 19)) fun t76 =>
 bd (ld h t76) fun t77 =>
 bd (iaS 1 (e.s k12 17) t77) fun t78 =>
 bd (ld h t78) fun t79 =>
 bd (binK 0 .neq t79 (.int .i64 0)) fun t80 =>
 some ⟨.nm,ux12 e 80 t80,h⟩) fun e h =>
 br (e.s k12 80) (bd (binK 0 .add (e.s k12 19) (.int .i64 1)) fun t82 =>
 some ⟨.nm,(ux12 e 18 t82).st 12 t82,h⟩)
 (some ⟨.nm,e,h⟩))) fun e h =>
 bd (binK 0 .add (e.s k12 19) (.int .i64 1)) fun t72 =>
 some ⟨.nm,(ux12 e 19 t72).st 13 t72,h⟩
def l12_1 (K:Oracle) (L:Looper) (e:E) (h:H):Out :=
 sq (sq (bd (binK 0 .geq (e.s k12 26) (.int .i64 0)) fun t137 =>
 some ⟨.nm,ux12 e 137 t137,h⟩) fun e h =>
 br (e.s k12 137) (some ⟨.nm,e,h⟩)
 (some ⟨.ex 2,e,h⟩)) fun e h =>
 sq (blk 3 (sq (bd (iaS 1 (e.s k12 13) (e.s k12 26)) fun t142 =>
 bd (ld h t142) fun t143 =>
 some ⟨.nm,(ux12 e 27 t143).st 19 t143,h⟩) fun e h =>
 sq (bd (iaS 1 (e.s k12 17) (e.s k12 27)) fun t146 =>
 bd (ld h t146) fun t147 =>
 bc k12 [144,145,146,147,148,28] e (K 52 [t147] h) fun t148 h1 =>
 some ⟨.nm,(ux12 e 28 t148).st 20 t148,h1⟩) fun e h =>
 sq (bc k12 [150,151,152,153,149,154,155,29,30] e (K 53 [e.s k12 15,e.s k12 1,e.s k12 27] h) fun t153 h1 =>
 bd (exV t153 0) fun t154 =>
 bd (exV t153 1) fun t155 =>
 some ⟨.nm,(ux12 e 30 t155).st 21 t154,h1⟩) fun e h =>
 sq (bc k12 [157,158,159,160,156,161,162,31,32] e (K 54 [e.s k12 15,e.s k12 1,e.s k12 27] h) fun t160 h1 =>
 bd (exV t160 0) fun t161 =>
 bd (exV t160 1) fun t162 =>
 some ⟨.nm,(ux12 e 32 t162).st 22 t161,h1⟩) fun e h =>
 sq (some ⟨.nm,(ux12 e 33 (.int .i64 0)).st 23 (.int .i64 0),h⟩) fun e h =>
 sq (sq (bd (binK 0 .sub (e.s k12 18) (.int .i64 1)) fun t165 =>
 bd (binK 0 .eql (e.s k12 26) t165) fun t166 =>
 some ⟨.nm,ux12 e 166 t166,h⟩) fun e h =>
 br (e.s k12 166) (sq (bd (minV [e.s k12 28,(.int .i64 3)]) fun t171 =>
 bd (binK 0 .sub t171 (.int .i64 1)) fun t172 =>
 bd (maxV [t172,(.int .i64 0)]) fun t173 =>
 bc k12 [168,169,170,171,172,173,174,167,175,176,33] e (K 48 [e.s k12 0,(.int .i64 27),e.s k12 16,t173] h) fun t174 h1 =>
 bd (exV t174 0) fun t175 =>
 bd (exV t174 1) fun t176 =>
 some ⟨.nm,(ux12 e 33 t175).st 23 t175,h1⟩) fun e h =>
 bd (binK 0 .add (e.s k12 33) (.int .i64 1)) fun t178 =>
 some ⟨.nm,(ux12 e 33 t178).st 23 t178,h⟩)
 (bd (binK 0 .mul (.int .i64 5) (e.s k12 16)) fun t182 =>
 bd (binK 0 .add t182 (e.s k12 29)) fun t184 =>
 bd (minV [e.s k12 28,(.int .i64 3)]) fun t186 =>
 bc k12 [180,181,182,183,184,185,186,187,179,188,189,33] e (K 48 [e.s k12 0,(.int .i64 28),t184,t186] h) fun t187 h1 =>
 bd (exV t187 0) fun t188 =>
 bd (exV t187 1) fun t189 =>
 some ⟨.nm,(ux12 e 33 t188).st 23 t188,h1⟩)) fun e h =>
 sq (bd (binK 0 .mul (.int .i64 7) (e.s k12 16)) fun t194 =>
 bd (binK 0 .add t194 (e.s k12 31)) fun t196 =>
 bc k12 [191,192,193,194,195,196,197,198,190,199,200,34,35] e (K 55 [e.s k12 0,e.s k12 33,t196,e.s k12 28] h) fun t198 h1 =>
 bd (exV t198 0) fun t199 =>
 bd (exV t198 1) fun t200 =>
 some ⟨.nm,((ux12 e 35 t200).st 24 t199).st 25 t200,h1⟩) fun e h =>
 sq (sq (bd (binK 0 .neq (e.s k12 35) (.int .i64 0)) fun t202 =>
 some ⟨.nm,ux12 e 202 t202,h⟩) fun e h =>
 br (e.s k12 202) (sq (some ⟨.nm,((ux12 e 11 (e.s k12 35)).st 5 .nils).st 6 (e.s k12 35),h⟩) fun e h =>
 some ⟨.rt,e,h⟩)
 (some ⟨.nm,e,h⟩)) fun e h =>
 bd (iaS 1 (e.s k12 15) (e.s k12 27)) fun t207 =>
 bf (stZ 1 h t207 (e.s k12 34)) fun _ h1 =>
 some ⟨.nm,ux12 e 0 (e.s k12 0),h1⟩)) fun e h =>
 bd (binK 0 .sub (e.s k12 26) (.int .i64 1)) fun t139 =>
 some ⟨.nm,(ux12 e 26 t139).st 18 t139,h⟩
def l12_2 (K:Oracle) (L:Looper) (e:E) (h:H):Out :=
 sq (sq (bd (binK 0 .lss (e.s k12 36) (e.s k12 18)) fun t210 =>
 some ⟨.nm,ux12 e 210 t210,h⟩) fun e h =>
 br (e.s k12 210) (some ⟨.nm,e,h⟩)
 (some ⟨.ex 4,e,h⟩)) fun e h =>
 sq (blk 5 (sq (bd (iaS 1 (e.s k12 13) (e.s k12 36)) fun t215 =>
 bd (ld h t215) fun t216 =>
 some ⟨.nm,(ux12 e 37 t216).st 27 t216,h⟩) fun e h =>
 sq (sq (bd (iaS 1 (e.s k12 15) (e.s k12 37)) fun t219 =>
 bd (ld h t219) fun t220 =>
 bd (binK 0 .eql t220 (.int .i64 0)) fun t221 =>
 some ⟨.nm,ux12 e 221 t221,h⟩) fun e h =>
 br (e.s k12 221) (some ⟨.ex 5,e,h⟩)
 (some ⟨.nm,e,h⟩)) fun e h =>
 sq (some ⟨.nm,(ux12 e 38 (.int .i64 0)).st 28 (.int .i64 0),h⟩) fun e h =>
 sq (sq (bd (iaS 1 (e.s k12 17) (e.s k12 37)) fun t224 =>
 bd (ld h t224) fun t225 =>
 bd (binK 0 .lss t225 (.int .i64 0)) fun t226 =>
 some ⟨.nm,ux12 e 226 t226,h⟩) fun e h =>
 br (e.s k12 226) (some ⟨.nm,(ux12 e 38 (.int .i64 1)).st 28 (.int .i64 1),h⟩)
 (some ⟨.nm,e,h⟩)) fun e h =>
 sq (sq (bd (binK 0 .eql (e.s k12 37) (.int .i64 0)) fun t228 =>
 some ⟨.nm,ux12 e 228 t228,h⟩) fun e h =>
 br (e.s k12 228) (bd (binK 0 .mul (.int .i64 3) (e.s k12 16)) fun t232 =>
 bd (binK 0 .add t232 (e.s k12 3)) fun t234 =>
 bc k12 [230,231,232,233,234,235,236,229,237,238,38] e (K 48 [e.s k12 0,(.int .i64 30),t234,e.s k12 38] h) fun t236 h1 =>
 bd (exV t236 0) fun t237 =>
 bd (exV t236 1) fun t238 =>
 some ⟨.nm,(ux12 e 38 t237).st 28 t237,h1⟩)
 (bc k12 [240,241,242,239,243,244,38] e (K 51 [e.s k12 0,(.int .i64 1),e.s k12 38] h) fun t242 h1 =>
 bd (exV t242 0) fun t243 =>
 bd (exV t242 1) fun t244 =>
 some ⟨.nm,(ux12 e 38 t243).st 28 t243,h1⟩)) fun e h =>
 sq (bd (binK 0 .eql (e.s k12 38) (.int .i64 1)) fun t246 =>
 some ⟨.nm,ux12 e 246 t246,h⟩) fun e h =>
 br (e.s k12 246) (bd (iaS 1 (e.s k12 15) (e.s k12 37)) fun t251 =>
 bd (ld h t251) fun t252 =>
 bd (unV .neg t252) fun t253 =>
 bd (iaS 1 (e.s k12 15) (e.s k12 37)) fun t254 =>
 bf (stZ 1 h t254 t253) fun _ h1 =>
 some ⟨.nm,ux12 e 0 (e.s k12 0),h1⟩)
 (some ⟨.nm,e,h⟩))) fun e h =>
 bd (binK 0 .add (e.s k12 36) (.int .i64 1)) fun t212 =>
 some ⟨.nm,(ux12 e 36 t212).st 26 t212,h⟩
def s12 (K:Oracle) (L:Looper) (e:E) (h:H):Out :=
 sq (some ⟨.nm,((ux12 e 11 (.int .i64 0)).st 5 .nils).st 6 (.int .i64 0),h⟩) fun e h =>
 sq (sq (bc k12 [39,40,41,42,43,44,45] e (K 44 [e.s k12 0,e.s k12 1,e.s k12 2,e.s k12 3,e.s k12 4] h) fun t44 h1 =>
 bd (unV .not t44) fun t45 =>
 some ⟨.nm,ux12 e 45 t45,h1⟩) fun e h =>
 br (e.s k12 45) (sq (some ⟨.nm,((ux12 e 11 (.int .i64 2)).st 5 .nils).st 6 (.int .i64 2),h⟩) fun e h =>
 some ⟨.rt,e,h⟩)
 (some ⟨.nm,e,h⟩)) fun e h =>
 sq (bc k12 [46,47,12] e (K 45 [e.s k12 1] h) fun t47 h1 =>
 some ⟨.nm,(ux12 e 12 t47).st 7 t47,h1⟩) fun e h =>
 sq (bc k12 [49,50,48,51,52,13,14] e (K 46 [e.s k12 1] h) fun t50 h1 =>
 bd (exV t50 0) fun t51 =>
 bd (exV t50 1) fun t52 =>
 some ⟨.nm,(ux12 e 14 t52).st 8 t51,h1⟩) fun e h =>
 sq (bd (binK 0 .mul (e.s k12 12) (e.s k12 12)) fun t55 =>
 bf (ms h 3 8 [(.int .i64 0)] t55 t55) fun t56 h1 =>
 some ⟨.nm,(ux12 e 15 t56).st 9 t56,h1⟩) fun e h =>
 sq (bd (minV [e.s k12 2,(.int .i64 1)]) fun t58 =>
 some ⟨.nm,(ux12 e 16 t58).st 10 t58,h⟩) fun e h =>
 sq (bd (binK 0 .mul (e.s k12 12) (e.s k12 12)) fun t61 =>
 bf (ms h 3 8 [(.int .i64 0)] t61 t61) fun t62 h1 =>
 some ⟨.nm,(ux12 e 17 t62).st 11 t62,h1⟩) fun e h =>
 sq (some ⟨.nm,(ux12 e 18 (.int .i64 0)).st 12 (.int .i64 0),h⟩) fun e h =>
 sq (sq (bc k12 [63,64] e (K 47 [e.s k12 0] h) fun t64 h1 =>
 some ⟨.nm,ux12 e 64 t64,h1⟩) fun e h =>
 br (e.s k12 64) (sq (bc k12 [65,66,17] e (K 10 [e.s k12 4] h) fun t66 h1 =>
 some ⟨.nm,(ux12 e 17 t66).st 11 t66,h1⟩) fun e h =>
 sq (some ⟨.nm,(ux12 e 19 (.int .i64 0)).st 13 (.int .i64 0),h⟩) fun e h =>
 blk 0 (L (l12_0 K L) e h))
 (some ⟨.nm,e,h⟩)) fun e h =>
 sq (some ⟨.nm,(ux12 e 20 (.int .i64 0)).st 14 (.int .i64 0),h⟩) fun e h =>
 sq (sq (bd (binK 0 .eql (e.s k12 18) (.int .i64 0)) fun t84 =>
 some ⟨.nm,ux12 e 84 t84,h⟩) fun e h =>
 br (e.s k12 84) (some ⟨.nm,(ux12 e 20 (.int .i64 1)).st 14 (.int .i64 1),h⟩)
 (some ⟨.nm,e,h⟩)) fun e h =>
 sq (bd (binK 0 .mul (.int .i64 2) (e.s k12 16)) fun t86 =>
 some ⟨.nm,(ux12 e 21 t86).st 15 t86,h⟩) fun e h =>
 sq (sq (bd (binK 0 .gtr (e.s k12 1) (.int .i64 8)) fun t88 =>
 some ⟨.nm,ux12 e 88 t88,h⟩) fun e h =>
 br (e.s k12 88) (bd (binK 0 .add (e.s k12 21) (.int .i64 1)) fun t90 =>
 some ⟨.nm,(ux12 e 21 t90).st 15 t90,h⟩)
 (some ⟨.nm,e,h⟩)) fun e h =>
 sq (bc k12 [92,93,94,95,91,96,97,20] e (K 48 [e.s k12 0,(.int .i64 22),e.s k12 21,e.s k12 20] h) fun t95 h1 =>
 bd (exV t95 0) fun t96 =>
 bd (exV t95 1) fun t97 =>
 some ⟨.nm,(ux12 e 20 t96).st 14 t96,h1⟩) fun e h =>
 sq (sq (bd (binK 0 .eql (e.s k12 20) (.int .i64 1)) fun t99 =>
 some ⟨.nm,ux12 e 99 t99,h⟩) fun e h =>
 br (e.s k12 99) (sq (some ⟨.nm,((ux12 e 11 (.int .i64 0)).st 5 (e.s k12 15)).st 6 (.int .i64 0),h⟩) fun e h =>
 some ⟨.rt,e,h⟩)
 (some ⟨.nm,e,h⟩)) fun e h =>
 sq (bd (maxV [e.s k12 18,(.int .i64 1)]) fun t103 =>
 bc k12 [102,103,104,101,105,106,107,108,22,23,24,25] e (K 49 [t103] h) fun t104 h1 =>
 bd (exV t104 0) fun t105 =>
 bd (exV t104 1) fun t106 =>
 bd (exV t104 2) fun t107 =>
 bd (exV t104 3) fun t108 =>
 some ⟨.nm,((ux12 e 25 t108).st 16 t105).st 17 t107,h1⟩) fun e h =>
 sq (bc k12 [110,111,112,113,114,115,109,116,117,22] e (K 50 [e.s k12 1] h) fun t112 h1 =>
 bc k12 [110,111,112,113,114,115,109,116,117,22] e (K 48 [e.s k12 0,t112,e.s k12 16,e.s k12 22] h1) fun t115 h2 =>
 bd (exV t115 0) fun t116 =>
 bd (exV t115 1) fun t117 =>
 some ⟨.nm,(ux12 e 22 t116).st 16 t116,h2⟩) fun e h =>
 sq (sq (bd (binK 0 .gtr (e.s k12 22) (.int .i64 0)) fun t119 =>
 some ⟨.nm,ux12 e 119 t119,h⟩) fun e h =>
 br (e.s k12 119) (sq (bd (binK 0 .sub (e.s k12 22) (.int .i64 1)) fun t123 =>
 bc k12 [121,122,123,124,125,120,126,127,24] e (K 51 [e.s k12 0,t123,e.s k12 24] h) fun t125 h1 =>
 bd (exV t125 0) fun t126 =>
 bd (exV t125 1) fun t127 =>
 some ⟨.nm,(ux12 e 24 t126).st 17 t126,h1⟩) fun e h =>
 bd (binK 0 .sub (e.s k12 22) (.int .i64 1)) fun t129 =>
 bd (binK 0 .shl (.int .i64 1) t129) fun t130 =>
 bd (binK 0 .add t130 (.int .i64 1)) fun t131 =>
 bd (binK 0 .add t131 (e.s k12 24)) fun t133 =>
 some ⟨.nm,(ux12 e 18 t133).st 12 t133,h⟩)
 (some ⟨.nm,(ux12 e 18 (.int .i64 1)).st 12 (.int .i64 1),h⟩)) fun e h =>
 sq (sq (bd (binK 0 .sub (e.s k12 18) (.int .i64 1)) fun t135 =>
 some ⟨.nm,(ux12 e 26 t135).st 18 t135,h⟩) fun e h =>
 blk 2 (L (l12_1 K L) e h)) fun e h =>
 sq (sq (some ⟨.nm,(ux12 e 36 (.int .i64 0)).st 26 (.int .i64 0),h⟩) fun e h =>
 blk 4 (L (l12_2 K L) e h)) fun e h =>
 sq (some ⟨.nm,((ux12 e 11 (.int .i64 0)).st 5 (e.s k12 15)).st 6 (.int .i64 0),h⟩) fun e h =>
 some ⟨.rt,e,h⟩
def f12 (K:Oracle) (L:Looper) (p0 p1 p2 p3 p4:V) (h:H):Option (Rv × H):=fin Tryz.prog k12 [.tmp 10,.tmp 11] (s12 K L ⟨[p0,p1,p2,p3,p4,V.und,V.und,V.und,V.und,V.und,V.und,V.und,V.und,V.und,V.und,V.und,V.und,V.und,V.und,V.und,V.und,V.und,V.und,V.und,V.und,V.und,V.und,V.und,V.und],0,p0⟩ h)
theorem r12:(fun K L p0 p1 p2 p3 p4 h=>runFF Tryz.prog kp K L 12 [p0,p1,p2,p3,p4] h)=f12:=by kernel_rfl
@[simp] def k13:List Nat:=[0,1,4,5]
@[simp] def ux13 (e:E) (t:Nat) (v:V):E:=⟨[e.s k13 0,e.s k13 1,e.s k13 4,e.s k13 5],t,v⟩
def l13_0 (K:Oracle) (L:Looper) (e:E) (h:H):Out :=
 sq (sq (bd (lnS (e.s k13 0)) fun t13 =>
 bd (binK 0 .lss (e.s k13 5) t13) fun t14 =>
 some ⟨.nm,ux13 e 14 t14,h⟩) fun e h =>
 br (e.s k13 14) (some ⟨.nm,e,h⟩)
 (some ⟨.ex 0,e,h⟩)) fun e h =>
 sq (blk 1 (sq (bd (iaS 1 (e.s k13 0) (e.s k13 5)) fun t19 =>
 bd (ld h t19) fun t20 =>
 bd (iaS 1 (e.s k13 1) (e.s k13 5)) fun t23 =>
 bd (ld h t23) fun t24 =>
 bd (binK 0 .neq t20 t24) fun t25 =>
 ck (ld h t19) t20 (ck (ld h t23) t24 (some ⟨.nm,ux13 e 25 t25,h⟩))) fun e h =>
 br (e.s k13 25) (sq (some ⟨.nm,(ux13 e 4 (.bool false)).st 2 (.bool false),h⟩) fun e h =>
 some ⟨.rt,e,h⟩)
 (some ⟨.nm,e,h⟩))) fun e h =>
 bd (binK 0 .add (e.s k13 5) (.int .i64 1)) fun t16 =>
 some ⟨.nm,(ux13 e 5 t16).st 3 t16,h⟩
def s13 (K:Oracle) (L:Looper) (e:E) (h:H):Out :=
 sq (some ⟨.nm,(ux13 e 4 (.bool false)).st 2 (.bool false),h⟩) fun e h =>
 sq (sq (bd (lnS (e.s k13 0)) fun t7 =>
 bd (lnS (e.s k13 1)) fun t9 =>
 bd (binK 0 .neq t7 t9) fun t10 =>
 some ⟨.nm,ux13 e 10 t10,h⟩) fun e h =>
 br (e.s k13 10) (sq (some ⟨.nm,(ux13 e 4 (.bool false)).st 2 (.bool false),h⟩) fun e h =>
 some ⟨.rt,e,h⟩)
 (some ⟨.nm,e,h⟩)) fun e h =>
 sq (sq (some ⟨.nm,(ux13 e 5 (.int .i64 0)).st 3 (.int .i64 0),h⟩) fun e h =>
 blk 0 (L (l13_0 K L) e h)) fun e h =>
 sq (some ⟨.nm,(ux13 e 4 (.bool true)).st 2 (.bool true),h⟩) fun e h =>
 some ⟨.rt,e,h⟩
def f13 (K:Oracle) (L:Looper) (p0 p1:V) (h:H):Option (Rv × H):=fin Tryz.prog k13 [.tmp 4] (s13 K L ⟨[p0,p1,V.und,V.und],0,p0⟩ h)
theorem r13:(fun K L p0 p1 h=>runFF Tryz.prog kp K L 13 [p0,p1] h)=f13:=by kernel_rfl
@[simp] def k14:List Nat:=[0,2]
@[simp] def ux14 (e:E) (t:Nat) (v:V):E:=⟨[e.s k14 0,e.s k14 2],t,v⟩
def s14 (K:Oracle) (L:Looper) (e:E) (h:H):Out :=
 sq (some ⟨.nm,(ux14 e 2 (.int .i64 0)).st 1 (.int .i64 0),h⟩) fun e h =>
 sq (sq (bc k14 [3,4] e (K 56 [e.s k14 0] h) fun t4 h1 =>
 some ⟨.nm,ux14 e 4 t4,h1⟩) fun e h =>
 br (e.s k14 4) (sq (some ⟨.nm,(ux14 e 2 (.int .i64 0)).st 1 (.int .i64 0),h⟩) fun e h =>
 some ⟨.rt,e,h⟩)
 (some ⟨.nm,e,h⟩)) fun e h =>
 sq (bd (nilC (e.s k14 0)) fun t6 =>
 bd (fa 4 t6) fun t7 =>
 bd (ld h t7) fun t8 =>
 some ⟨.nm,(ux14 e 2 t8).st 1 t8,h⟩) fun e h =>
 some ⟨.rt,e,h⟩
def f14 (K:Oracle) (L:Looper) (p0:V) (h:H):Option (Rv × H):=fin Tryz.prog k14 [.tmp 2] (s14 K L ⟨[p0,V.und],0,p0⟩ h)
theorem r14:(fun K L p0 h=>runFF Tryz.prog kp K L 14 [p0] h)=f14:=by kernel_rfl
@[simp] def k15:List Nat:=[0,2]
@[simp] def ux15 (e:E) (t:Nat) (v:V):E:=⟨[e.s k15 0,e.s k15 2],t,v⟩
def s15 (K:Oracle) (L:Looper) (e:E) (h:H):Out :=
 sq (some ⟨.nm,(ux15 e 2 (.int .i64 0)).st 1 (.int .i64 0),h⟩) fun e h =>
 sq (blk 0 (sq (bd (lnS (e.s k15 0)) fun t5 =>
 bd (binK 0 .eql t5 (.int .i64 0)) fun t6 =>
 bd (gl t6 false (some (e.s k15 0))) fun t8 =>
 bd (gl t6 false (iaS 1 t8 (.int .i64 0))) fun t9 =>
 bd (gl t6 false (ld h t9)) fun t10 =>
 bd (gl t6 false (binK 0 .eql t10 (.int .i64 0))) fun t11 =>
 bd (pk t6 (.bool true) t11) fun t12 =>
 some ⟨.nm,ux15 e 3 t12,h⟩) fun e h =>
 br (e.s k15 3) (sq (some ⟨.nm,(ux15 e 2 (.int .i64 0)).st 1 (.int .i64 0),h⟩) fun e h =>
 some ⟨.rt,e,h⟩)
 (sq (bd (iaS 1 (e.s k15 0) (.int .i64 0)) fun t15 =>
 bd (ld h t15) fun t16 =>
 bd (binK 0 .lss t16 (.int .i64 0)) fun t17 =>
 some ⟨.nm,ux15 e 13 t17,h⟩) fun e h =>
 br (e.s k15 13) (sq (some ⟨.nm,(ux15 e 2 (.int .i64 1)).st 1 (.int .i64 1),h⟩) fun e h =>
 some ⟨.rt,e,h⟩)
 (some ⟨.nm,e,h⟩)))) fun e h =>
 sq (some ⟨.nm,(ux15 e 2 (.int .i64 2)).st 1 (.int .i64 2),h⟩) fun e h =>
 some ⟨.rt,e,h⟩
def f15 (K:Oracle) (L:Looper) (p0:V) (h:H):Option (Rv × H):=fin Tryz.prog k15 [.tmp 2] (s15 K L ⟨[p0,V.und],0,p0⟩ h)
theorem r15:(fun K L p0 h=>runFF Tryz.prog kp K L 15 [p0] h)=f15:=by kernel_rfl
@[simp] def k16:List Nat:=[0,2]
@[simp] def ux16 (e:E) (t:Nat) (v:V):E:=⟨[e.s k16 0,e.s k16 2],t,v⟩
def s16 (K:Oracle) (L:Looper) (e:E) (h:H):Out :=
 sq (some ⟨.nm,(ux16 e 2 (.int .i64 0)).st 1 (.int .i64 0),h⟩) fun e h =>
 sq (sq (bd (lnS (e.s k16 0)) fun t4 =>
 bd (binK 0 .eql t4 (.int .i64 0)) fun t5 =>
 bd (gl t5 false (some (e.s k16 0))) fun t7 =>
 bd (gl t5 false (iaS 1 t7 (.int .i64 0))) fun t8 =>
 bd (gl t5 false (ld h t8)) fun t9 =>
 bd (gl t5 false (binK 0 .eql t9 (.int .i64 0))) fun t10 =>
 bd (pk t5 (.bool true) t10) fun t11 =>
 some ⟨.nm,ux16 e 11 t11,h⟩) fun e h =>
 br (e.s k16 11) (sq (some ⟨.nm,(ux16 e 2 (.int .i64 0)).st 1 (.int .i64 0),h⟩) fun e h =>
 some ⟨.rt,e,h⟩)
 (some ⟨.nm,e,h⟩)) fun e h =>
 sq (sq (bd (iaS 1 (e.s k16 0) (.int .i64 0)) fun t13 =>
 bd (ld h t13) fun t14 =>
 bd (binK 0 .lss t14 (.int .i64 0)) fun t15 =>
 some ⟨.nm,ux16 e 15 t15,h⟩) fun e h =>
 br (e.s k16 15) (sq (some ⟨.nm,(ux16 e 2 (.int .i64 1)).st 1 (.int .i64 1),h⟩) fun e h =>
 some ⟨.rt,e,h⟩)
 (some ⟨.nm,e,h⟩)) fun e h =>
 sq (some ⟨.nm,(ux16 e 2 (.int .i64 2)).st 1 (.int .i64 2),h⟩) fun e h =>
 some ⟨.rt,e,h⟩
def f16 (K:Oracle) (L:Looper) (p0:V) (h:H):Option (Rv × H):=fin Tryz.prog k16 [.tmp 2] (s16 K L ⟨[p0,V.und],0,p0⟩ h)
theorem r16:(fun K L p0 h=>runFF Tryz.prog kp K L 16 [p0] h)=f16:=by kernel_rfl
@[simp] def k17:List Nat:=[0,2,3]
@[simp] def ux17 (e:E) (t:Nat) (v:V):E:=⟨[e.s k17 0,e.s k17 2,e.s k17 3],t,v⟩
def s17 (K:Oracle) (L:Looper) (e:E) (h:H):Out :=
 sq (some ⟨.nm,((ux17 e 3 (.int .i64 0)).st 1 .nils).st 2 (.int .i64 0),h⟩) fun e h =>
 sq (blk 0 (sq (bc k17 [5,6,4] e (K 56 [e.s k17 0] h) fun t6 h1 =>
 some ⟨.nm,ux17 e 4 t6,h1⟩) fun e h =>
 br (e.s k17 4) (sq (some ⟨.nm,((ux17 e 3 (.int .i64 1)).st 1 .nils).st 2 (.int .i64 1),h⟩) fun e h =>
 some ⟨.rt,e,h⟩)
 (sq (bc k17 [8,9,10,7] e (K 40 [e.s k17 0] h) fun t9 h1 =>
 bd (unV .not t9) fun t10 =>
 some ⟨.nm,ux17 e 7 t10,h1⟩) fun e h =>
 br (e.s k17 7) (sq (some ⟨.nm,((ux17 e 3 (.int .i64 40)).st 1 .nils).st 2 (.int .i64 40),h⟩) fun e h =>
 some ⟨.rt,e,h⟩)
 (some ⟨.nm,e,h⟩)))) fun e h =>
 sq (bd (nilC (e.s k17 0)) fun t12 =>
 bd (fa 0 t12) fun t13 =>
 bd (ld h t13) fun t14 =>
 bc k17 [11,12,13,14,15,2,3] e (K 57 [t14] h) fun t15 h1 =>
 some ⟨.nm,((ux17 e 3 (.int .i64 0)).st 1 t15).st 2 (.int .i64 0),h1⟩) fun e h =>
 some ⟨.rt,e,h⟩
def f17 (K:Oracle) (L:Looper) (p0:V) (h:H):Option (Rv × H):=fin Tryz.prog k17 [.tmp 2,.tmp 3] (s17 K L ⟨[p0,V.und,V.und],0,p0⟩ h)
theorem r17:(fun K L p0 h=>runFF Tryz.prog kp K L 17 [p0] h)=f17:=by kernel_rfl
@[simp] def k18:List Nat:=[0,2,3]
@[simp] def ux18 (e:E) (t:Nat) (v:V):E:=⟨[e.s k18 0,e.s k18 2,e.s k18 3],t,v⟩
def s18 (K:Oracle) (L:Looper) (e:E) (h:H):Out :=
 sq (some ⟨.nm,((ux18 e 3 (.int .i64 0)).st 1 .nils).st 2 (.int .i64 0),h⟩) fun e h =>
 sq (sq (bd (nilC (e.s k18 0)) fun t5 =>
 bd (fa 0 t5) fun t6 =>
 bd (ld h t6) fun t7 =>
 bd (binK 2 .eql t7 .nilp) fun t8 =>
 some ⟨.nm,ux18 e 8 t8,h⟩) fun e h =>
 br (e.s k18 8) (sq (some ⟨.nm,((ux18 e 3 (.int .i64 40)).st 1 .nils).st 2 (.int .i64 40),h⟩) fun e h =>
 some ⟨.rt,e,h⟩)
 (some ⟨.nm,e,h⟩)) fun e h =>
 sq (bd (nilC (e.s k18 0)) fun t10 =>
 bd (fa 0 t10) fun t11 =>
 bd (ld h t11) fun t12 =>
 bc k18 [9,10,11,12,13,2,3] e (K 58 [t12] h) fun t13 h1 =>
 some ⟨.nm,((ux18 e 3 (.int .i64 0)).st 1 t13).st 2 (.int .i64 0),h1⟩) fun e h =>
 some ⟨.rt,e,h⟩
def f18 (K:Oracle) (L:Looper) (p0:V) (h:H):Option (Rv × H):=fin Tryz.prog k18 [.tmp 2,.tmp 3] (s18 K L ⟨[p0,V.und,V.und],0,p0⟩ h)
theorem r18:(fun K L p0 h=>runFF Tryz.prog kp K L 18 [p0] h)=f18:=by kernel_rfl
@[simp] def k19:List Nat:=[0,2,3]
@[simp] def ux19 (e:E) (t:Nat) (v:V):E:=⟨[e.s k19 0,e.s k19 2,e.s k19 3],t,v⟩
def s19 (K:Oracle) (L:Looper) (e:E) (h:H):Out :=
 sq (bf (nw h 29 [.nils]) fun t2 h1 =>
 some ⟨.nm,((ux19 e 3 (.int .i64 0)).st 1 t2).st 2 (.int .i64 0),h1⟩) fun e h =>
 sq (sq (bc k19 [4,5] e (K 56 [e.s k19 0] h) fun t5 h1 =>
 some ⟨.nm,ux19 e 5 t5,h1⟩) fun e h =>
 br (e.s k19 5) (sq (bd (bl [.nils] []) fun t6 =>
 bf (stZ 1 h (e.s k19 2) t6) fun _ h1 =>
 some ⟨.nm,(ux19 e 3 (.int .i64 1)).st 2 (.int .i64 1),h1⟩) fun e h =>
 some ⟨.rt,e,h⟩)
 (some ⟨.nm,e,h⟩)) fun e h =>
 sq (bd (nilC (e.s k19 0)) fun t8 =>
 bd (fa 2 t8) fun t9 =>
 bd (ldn 1 h t9) fun t10 =>
 bc k19 [7,8,9,10,11,3] e (K 28 [t10] h) fun t11 h1 =>
 bf (stZ 1 h1 (e.s k19 2) t11) fun _ h2 =>
 some ⟨.nm,(ux19 e 3 (.int .i64 0)).st 2 (.int .i64 0),h2⟩) fun e h =>
 some ⟨.rt,e,h⟩
def f19 (K:Oracle) (L:Looper) (p0:V) (h:H):Option (Rv × H):=fin Tryz.prog k19 [.cell 2 29,.tmp 3] (s19 K L ⟨[p0,V.und,V.und],0,p0⟩ h)
theorem r19:(fun K L p0 h=>runFF Tryz.prog kp K L 19 [p0] h)=f19:=by kernel_rfl
@[simp] def k20:List Nat:=[0,1,4,5]
@[simp] def ux20 (e:E) (t:Nat) (v:V):E:=⟨[e.s k20 0,e.s k20 1,e.s k20 4,e.s k20 5],t,v⟩
def l20_0 (K:Oracle) (L:Looper) (e:E) (h:H):Out :=
 sq (sq (bd (lnS (e.s k20 0)) fun t13 =>
 bd (binK 0 .lss (e.s k20 5) t13) fun t14 =>
 some ⟨.nm,ux20 e 14 t14,h⟩) fun e h =>
 br (e.s k20 14) (some ⟨.nm,e,h⟩)
 (some ⟨.ex 0,e,h⟩)) fun e h =>
 sq (blk 1 (sq (bd (iaS 1 (e.s k20 0) (e.s k20 5)) fun t19 =>
 bd (ld h t19) fun t20 =>
 bd (iaS 1 (e.s k20 1) (e.s k20 5)) fun t23 =>
 bd (ld h t23) fun t24 =>
 bd (binK 0 .neq t20 t24) fun t25 =>
 ck (ld h t19) t20 (ck (ld h t23) t24 (some ⟨.nm,ux20 e 25 t25,h⟩))) fun e h =>
 br (e.s k20 25) (sq (some ⟨.nm,(ux20 e 4 (.bool false)).st 2 (.bool false),h⟩) fun e h =>
 some ⟨.rt,e,h⟩)
 (some ⟨.nm,e,h⟩))) fun e h =>
 bd (binK 0 .add (e.s k20 5) (.int .i64 1)) fun t16 =>
 some ⟨.nm,(ux20 e 5 t16).st 3 t16,h⟩
def s20 (K:Oracle) (L:Looper) (e:E) (h:H):Out :=
 sq (some ⟨.nm,(ux20 e 4 (.bool false)).st 2 (.bool false),h⟩) fun e h =>
 sq (sq (bd (lnS (e.s k20 0)) fun t7 =>
 bd (lnS (e.s k20 1)) fun t9 =>
 bd (binK 0 .neq t7 t9) fun t10 =>
 some ⟨.nm,ux20 e 10 t10,h⟩) fun e h =>
 br (e.s k20 10) (sq (some ⟨.nm,(ux20 e 4 (.bool false)).st 2 (.bool false),h⟩) fun e h =>
 some ⟨.rt,e,h⟩)
 (some ⟨.nm,e,h⟩)) fun e h =>
 sq (sq (some ⟨.nm,(ux20 e 5 (.int .i64 0)).st 3 (.int .i64 0),h⟩) fun e h =>
 blk 0 (L (l20_0 K L) e h)) fun e h =>
 sq (some ⟨.nm,(ux20 e 4 (.bool true)).st 2 (.bool true),h⟩) fun e h =>
 some ⟨.rt,e,h⟩
def f20 (K:Oracle) (L:Looper) (p0 p1:V) (h:H):Option (Rv × H):=fin Tryz.prog k20 [.tmp 4] (s20 K L ⟨[p0,p1,V.und,V.und],0,p0⟩ h)
theorem r20:(fun K L p0 p1 h=>runFF Tryz.prog kp K L 20 [p0,p1] h)=f20:=by kernel_rfl
@[simp] def k21:List Nat:=[0,1,2,3,4,5,6,7,8,9]
@[simp] def ux21 (e:E) (t:Nat) (v:V):E:=⟨[e.s k21 0,e.s k21 1,e.s k21 2,e.s k21 3,e.s k21 4,e.s k21 5,e.s k21 6,e.s k21 7,e.s k21 8,e.s k21 9],t,v⟩
def l21_0 (K:Oracle) (L:Looper) (e:E) (h:H):Out :=
 sq (sq (bd (fa 0 (e.s k21 7)) fun t78 =>
 bd (ld h t78) fun t79 =>
 bd (lnS t79) fun t80 =>
 bd (binK 0 .lss (e.s k21 9) t80) fun t81 =>
 some ⟨.nm,ux21 e 81 t81,h⟩) fun e h =>
 br (e.s k21 81) (some ⟨.nm,e,h⟩)
 (some ⟨.ex 4,e,h⟩)) fun e h =>
 sq (blk 5 (sq (bd (fa 0 (e.s k21 7)) fun t84 =>
 bd (ld h t84) fun t85 =>
 bd (iaS 1 t85 (e.s k21 9)) fun t87 =>
 bd (ld h t87) fun t88 =>
 bd (fa 0 (e.s k21 8)) fun t89 =>
 bd (ld h t89) fun t90 =>
 bd (iaS 1 t90 (e.s k21 9)) fun t92 =>
 bd (ld h t92) fun t93 =>
 bd (binK 0 .neq t88 t93) fun t94 =>
 ck (ld h t84) t85 (ck (ld h t87) t88 (ck (ld h t89) t90 (ck (ld h t92) t93 (some ⟨.nm,ux21 e 94 t94,h⟩))))) fun e h =>
 br (e.s k21 94) (sq (some ⟨.nm,(ux21 e 4 (.bool false)).st 4 (.bool false),h⟩) fun e h =>
 some ⟨.rt,e,h⟩)
 (some ⟨.nm,e,h⟩))) fun e h =>
 bd (binK 0 .add (e.s k21 9) (.int .i64 1)) fun t83 =>
 some ⟨.nm,(ux21 e 9 t83).st 9 t83,h⟩
def l21_1 (K:Oracle) (L:Looper) (e:E) (h:H):Out :=
 sq (sq (bd (fa 0 (e.s k21 2)) fun t38 =>
 bd (ld h t38) fun t39 =>
 bd (iaS 1 t39 (e.s k21 5)) fun t41 =>
 bd (ld h t41) fun t42 =>
 bd (lnS t42) fun t43 =>
 bd (binK 0 .lss (e.s k21 6) t43) fun t44 =>
 some ⟨.nm,ux21 e 44 t44,h⟩) fun e h =>
 br (e.s k21 44) (some ⟨.nm,e,h⟩)
 (some ⟨.ex 2,e,h⟩)) fun e h =>
 sq (blk 3 (sq (bd (fa 0 (e.s k21 2)) fun t47 =>
 bd (ld h t47) fun t48 =>
 bd (iaS 1 t48 (e.s k21 5)) fun t50 =>
 bd (ld h t50) fun t51 =>
 bd (iaS 2 t51 (e.s k21 6)) fun t53 =>
 bd (ldn 2 h t53) fun t54 =>
 bf (nw h 76 [.nils,(.int .i64 0)]) fun t7 h1 =>
 bf (nw h1 76 [.nils,(.int .i64 0)]) fun t8 h2 =>
 bf (stZ 2 h2 t7 t54) fun _ h3 =>
 bd (fa 0 (e.s k21 3)) fun t55 =>
 bd (ld h3 t55) fun t56 =>
 bd (iaS 1 t56 (e.s k21 5)) fun t58 =>
 bd (ld h3 t58) fun t59 =>
 bd (iaS 2 t59 (e.s k21 6)) fun t61 =>
 bd (ldn 2 h3 t61) fun t62 =>
 bf (stZ 2 h3 t8 t62) fun _ h4 =>
 ck (ld h t47) t48 (ck (ld h t50) t51 (ck (ldn 2 h t53) t54 (ck (ld h t55) t56 (ck (ld h3 t55) t56 (ck (ld h t58) t59 (ck (ld h3 t58) t59 (ck (ldn 2 h t61) t62 (ck (ldn 2 h3 t61) t62 (some ⟨.nm,((ux21 e 0 (e.s k21 0)).st 7 t7).st 8 t8,h4⟩)))))))))) fun e h =>
 sq (sq (bd (fa 1 (e.s k21 7)) fun t63 =>
 bd (ld h t63) fun t64 =>
 bd (fa 1 (e.s k21 8)) fun t65 =>
 bd (ld h t65) fun t66 =>
 bd (binK 0 .neq t64 t66) fun t67 =>
 bd (gl t67 false (fa 0 (e.s k21 7))) fun t69 =>
 bd (gl t67 false (ld h t69)) fun t70 =>
 bd (gl t67 false (lnS t70)) fun t71 =>
 bd (gl t67 false (fa 0 (e.s k21 8))) fun t72 =>
 bd (gl t67 false (ld h t72)) fun t73 =>
 bd (gl t67 false (lnS t73)) fun t74 =>
 bd (gl t67 false (binK 0 .neq t71 t74)) fun t75 =>
 bd (pk t67 (.bool true) t75) fun t76 =>
 some ⟨.nm,ux21 e 76 t76,h⟩) fun e h =>
 br (e.s k21 76) (sq (some ⟨.nm,(ux21 e 4 (.bool false)).st 4 (.bool false),h⟩) fun e h =>
 some ⟨.rt,e,h⟩)
 (some ⟨.nm,e,h⟩)) fun e h =>
 sq (some ⟨.nm,(ux21 e 9 (.int .i64 0)).st 9 (.int .i64 0),h⟩) fun e h =>
 blk 4 (L (l21_0 K L) e h))) fun e h =>
 bd (binK 0 .add (e.s k21 6) (.int .i64 1)) fun t46 =>
 some ⟨.nm,(ux21 e 6 t46).st 6 t46,h⟩
def l21_2 (K:Oracle) (L:Looper) (e:E) (h:H):Out :=
 sq (sq (bd (fa 0 (e.s k21 2)) fun t18 =>
 bd (ld h t18) fun t19 =>
 bd (lnS t19) fun t20 =>
 bd (binK 0 .lss (e.s k21 5) t20) fun t21 =>
 some ⟨.nm,ux21 e 21 t21,h⟩) fun e h =>
 br (e.s k21 21) (some ⟨.nm,e,h⟩)
 (some ⟨.ex 0,e,h⟩)) fun e h =>
 sq (blk 1 (sq (sq (bd (fa 0 (e.s k21 2)) fun t24 =>
 bd (ld h t24) fun t25 =>
 bd (iaS 1 t25 (e.s k21 5)) fun t27 =>
 bd (ld h t27) fun t28 =>
 bd (lnS t28) fun t29 =>
 bd (fa 0 (e.s k21 3)) fun t30 =>
 bd (ld h t30) fun t31 =>
 bd (iaS 1 t31 (e.s k21 5)) fun t33 =>
 bd (ld h t33) fun t34 =>
 bd (lnS t34) fun t35 =>
 bd (binK 0 .neq t29 t35) fun t36 =>
 ck (ld h t24) t25 (ck (ld h t27) t28 (ck (ld h t30) t31 (ck (ld h t33) t34 (some ⟨.nm,ux21 e 36 t36,h⟩))))) fun e h =>
 br (e.s k21 36) (sq (some ⟨.nm,(ux21 e 4 (.bool false)).st 4 (.bool false),h⟩) fun e h =>
 some ⟨.rt,e,h⟩)
 (some ⟨.nm,e,h⟩)) fun e h =>
 sq (some ⟨.nm,(ux21 e 6 (.int .i64 0)).st 6 (.int .i64 0),h⟩) fun e h =>
 blk 2 (L (l21_1 K L) e h))) fun e h =>
 bd (binK 0 .add (e.s k21 5) (.int .i64 1)) fun t23 =>
 some ⟨.nm,(ux21 e 5 t23).st 5 t23,h⟩
def s21 (K:Oracle) (L:Looper) (e:E) (h:H):Out :=
 sq (bf (bx h 29 (e.s k21 0)) fun t2 h1 =>
 bf (bx h1 29 (e.s k21 1)) fun t3 h2 =>
 some ⟨.nm,(((ux21 e 4 (.bool false)).st 2 t2).st 3 t3).st 4 (.bool false),h2⟩) fun e h =>
 sq (sq (bd (fa 0 (e.s k21 2)) fun t10 =>
 bd (ld h t10) fun t11 =>
 bd (lnS t11) fun t12 =>
 bd (fa 0 (e.s k21 3)) fun t13 =>
 bd (ld h t13) fun t14 =>
 bd (lnS t14) fun t15 =>
 bd (binK 0 .neq t12 t15) fun t16 =>
 some ⟨.nm,ux21 e 16 t16,h⟩) fun e h =>
 br (e.s k21 16) (sq (some ⟨.nm,(ux21 e 4 (.bool false)).st 4 (.bool false),h⟩) fun e h =>
 some ⟨.rt,e,h⟩)
 (some ⟨.nm,e,h⟩)) fun e h =>
 sq (sq (some ⟨.nm,(ux21 e 5 (.int .i64 0)).st 5 (.int .i64 0),h⟩) fun e h =>
 blk 0 (L (l21_2 K L) e h)) fun e h =>
 sq (some ⟨.nm,(ux21 e 4 (.bool true)).st 4 (.bool true),h⟩) fun e h =>
 some ⟨.rt,e,h⟩
def f21 (K:Oracle) (L:Looper) (p0 p1:V) (h:H):Option (Rv × H):=fin Tryz.prog k21 [.tmp 4] (s21 K L ⟨[p0,p1,V.und,V.und,V.und,V.und,V.und,V.und,V.und,V.und],0,p0⟩ h)
theorem r21:(fun K L p0 p1 h=>runFF Tryz.prog kp K L 21 [p0,p1] h)=f21:=by kernel_rfl
@[simp] def k22:List Nat:=[0,1,2,3,4,5,6,8,10,11]
@[simp] def ux22 (e:E) (t:Nat) (v:V):E:=⟨[e.s k22 0,e.s k22 1,e.s k22 2,e.s k22 3,e.s k22 4,e.s k22 5,e.s k22 6,e.s k22 8,e.s k22 10,e.s k22 11],t,v⟩
def s22 (K:Oracle) (L:Looper) (e:E) (h:H):Out :=
 sq (some ⟨.nm,(ux22 e 0 (.bool false)).st 0 (.bool false),h⟩) fun e h =>
 sq (bf (ms h 3 8 [(.int .i64 0)] (.int .i64 16) (.int .i64 16)) fun t12 h1 =>
 some ⟨.nm,(ux22 e 1 t12).st 1 t12,h1⟩) fun e h =>
 sq (bd (iaS 1 (e.s k22 1) (.int .i64 0)) fun t14 =>
 bf (stZ 1 h t14 (.int .i64 (-20))) fun _ h1 =>
 some ⟨.nm,ux22 e 0 (e.s k22 0),h1⟩) fun e h =>
 sq (bd (iaS 1 (e.s k22 1) (.int .i64 1)) fun t16 =>
 bf (stZ 1 h t16 (.int .i64 1)) fun _ h1 =>
 some ⟨.nm,ux22 e 0 (e.s k22 0),h1⟩) fun e h =>
 sq (bc k22 [18,19,17,20,21,2,3] e (K 7 [] h) fun t18 h1 =>
 bc k22 [18,19,17,20,21,2,3] e (K 6 [t18,(.bool true)] h1) fun t19 h2 =>
 bd (exV t19 0) fun t20 =>
 bd (exV t19 1) fun t21 =>
 some ⟨.nm,((ux22 e 3 t21).st 2 t20).st 3 t21,h2⟩) fun e h =>
 sq (sq (bd (binK 0 .neq (e.s k22 3) (.int .i64 0)) fun t23 =>
 bd (gl t23 false (some (e.s k22 2))) fun t25 =>
 bd (gl t23 false (binK 2 .eql t25 .nilp)) fun t26 =>
 bd (pk t23 (.bool true) t26) fun t27 =>
 some ⟨.nm,ux22 e 27 t27,h⟩) fun e h =>
 br (e.s k22 27) (sq (some ⟨.nm,(ux22 e 0 (.bool false)).st 0 (.bool false),h⟩) fun e h =>
 some ⟨.rt,e,h⟩)
 (some ⟨.nm,e,h⟩)) fun e h =>
 sq (bc k22 [29,30,31,28,32,33,4,5] e (K 11 [e.s k22 2,(.int .i64 4),(.int .i64 1),(.int .i64 2),e.s k22 1] h) fun t31 h1 =>
 bd (exV t31 0) fun t32 =>
 bd (exV t31 1) fun t33 =>
 some ⟨.nm,((ux22 e 5 t33).st 4 t32).st 5 t33,h1⟩) fun e h =>
 sq (bc k22 [35,36,34,37,38,6,7] e (K 17 [e.s k22 2] h) fun t36 h1 =>
 bd (exV t36 0) fun t37 =>
 bd (exV t36 1) fun t38 =>
 some ⟨.nm,(ux22 e 7 t38).st 6 t37,h1⟩) fun e h =>
 sq (bc k22 [40,41,42,39,43,44,8,9] e (K 7 [] h) fun t41 h1 =>
 bc k22 [40,41,42,39,43,44,8,9] e (K 23 [e.s k22 6,t41,(.bool true)] h1) fun t42 h2 =>
 bd (exV t42 0) fun t43 =>
 bd (exV t42 1) fun t44 =>
 some ⟨.nm,(ux22 e 9 t44).st 7 t43,h2⟩) fun e h =>
 sq (bc k22 [46,47,45,48,49,10,11] e (K 11 [e.s k22 8,(.int .i64 4),(.int .i64 1),(.int .i64 2),.nils] h) fun t47 h1 =>
 bd (exV t47 0) fun t48 =>
 bd (exV t47 1) fun t49 =>
 some ⟨.nm,((ux22 e 11 t49).st 8 t48).st 9 t49,h1⟩) fun e h =>
 sq (bd (binK 0 .eql (e.s k22 5) (.int .i64 0)) fun t51 =>
 bd (gl t51 true (some (e.s k22 11))) fun t53 =>
 bd (gl t51 true (binK 0 .eql t53 (.int .i64 0))) fun t54 =>
 bd (pk t51 t54 (.bool false)) fun t55 =>
 bd (gl t55 true (some (e.s k22 4))) fun t57 =>
 bd (gl t55 true (some (e.s k22 1))) fun t58 =>
 bc k22 [50,51,52,53,54,55,56,57,58,59,60,61,62,63,64,65,66,67,68,69,70,71,72,73,74,75,76,77,78,79,80,0] e (gk t55 true h (K 13 [t57,t58] h)) fun t59 h1 =>
 bd (pk t55 t59 (.bool false)) fun t60 =>
 bd (gl t60 true (some (e.s k22 10))) fun t62 =>
 bd (gl t60 true (some (e.s k22 1))) fun t63 =>
 bc k22 [50,51,52,53,54,55,56,57,58,59,60,61,62,63,64,65,66,67,68,69,70,71,72,73,74,75,76,77,78,79,80,0] e (gk t60 true h1 (K 13 [t62,t63] h1)) fun t64 h2 =>
 bd (pk t60 t64 (.bool false)) fun t65 =>
 bd (gl t65 true (some (e.s k22 2))) fun t67 =>
 bc k22 [50,51,52,53,54,55,56,57,58,59,60,61,62,63,64,65,66,67,68,69,70,71,72,73,74,75,76,77,78,79,80,0] e (gk t65 true h2 (K 14 [t67] h2)) fun t68 h3 =>
 bd (gl t65 true (binK 0 .eql t68 (.int .i64 15))) fun t69 =>
 bd (pk t65 t69 (.bool false)) fun t70 =>
 bd (gl t70 true (some (e.s k22 8))) fun t72 =>
 bc k22 [50,51,52,53,54,55,56,57,58,59,60,61,62,63,64,65,66,67,68,69,70,71,72,73,74,75,76,77,78,79,80,0] e (gk t70 true h3 (K 14 [t72] h3)) fun t73 h4 =>
 bd (gl t70 true (binK 0 .eql t73 (.int .i64 15))) fun t74 =>
 bd (pk t70 t74 (.bool false)) fun t75 =>
 bd (gl t75 true (some (e.s k22 1))) fun t77 =>
 bc k22 [50,51,52,53,54,55,56,57,58,59,60,61,62,63,64,65,66,67,68,69,70,71,72,73,74,75,76,77,78,79,80,0] e (gk t75 true h4 (K 15 [t77] h4)) fun t78 h5 =>
 bd (gl t75 true (binK 0 .eql t78 (.int .i64 1))) fun t79 =>
 bd (pk t75 t79 (.bool false)) fun t80 =>
 some ⟨.nm,(ux22 e 0 t80).st 0 t80,h5⟩) fun e h =>
 some ⟨.rt,e,h⟩
def f22 (K:Oracle) (L:Looper) (h:H):Option (Rv × H):=fin Tryz.prog k22 [.tmp 0] (s22 K L ⟨[V.und,V.und,V.und,V.und,V.und,V.und,V.und,V.und,V.und,V.und],0,V.und⟩ h)
theorem r22:(fun K L h=>runFF Tryz.prog kp K L 22 [] h)=f22:=by kernel_rfl
@[simp] def k23:List Nat:=[0,1,2,4,6,7,8]
@[simp] def ux23 (e:E) (t:Nat) (v:V):E:=⟨[e.s k23 0,e.s k23 1,e.s k23 2,e.s k23 4,e.s k23 6,e.s k23 7,e.s k23 8],t,v⟩
def s23 (K:Oracle) (L:Looper) (e:E) (h:H):Out :=
 sq (bf (bx h 29 (e.s k23 1)) fun t4 h1 =>
 some ⟨.nm,(((ux23 e 7 (.int .i64 0)).st 3 t4).st 4 .nilp).st 5 (.int .i64 0),h1⟩) fun e h =>
 sq (sq (bd (ldn 1 h (e.s k23 4)) fun t9 =>
 bc k23 [9,10,8] e (K 26 [t9] h) fun t10 h1 =>
 some ⟨.nm,(ux23 e 8 t10).st 6 t10,h1⟩) fun e h =>
 sq (bd (binK 0 .neq (e.s k23 8) (.int .i64 0)) fun t12 =>
 some ⟨.nm,ux23 e 12 t12,h⟩) fun e h =>
 br (e.s k23 12) (sq (some ⟨.nm,((ux23 e 7 (e.s k23 8)).st 4 .nilp).st 5 (e.s k23 8),h⟩) fun e h =>
 some ⟨.rt,e,h⟩)
 (some ⟨.nm,e,h⟩)) fun e h =>
 sq (bd (some (e.s k23 0)) fun t14 =>
 bk (K 59 [t14] h) (fun tp hp =>
 bd (ldn 1 h (e.s k23 4)) fun t16 =>
 bd (some (e.s k23 2)) fun t18 =>
 some ⟨.pn tp,fgE k23 [14,15,16,17,18,19,20,6,7] e,hp⟩) fun _ _ =>
 bn (K 59 [e.s k23 0] h) fun t15 h1 =>
 bd (ldn 1 h1 (e.s k23 4)) fun t16 =>
 bn (K 28 [t16] h1) fun t17 h2 =>
 bd (bl [.nilp,.nilp,.nils,(.bool false),(.int .i64 0)] [(some (1,1),t15),(some (2,1),t17),(some (3,1),(e.s k23 2))]) fun t19 =>
 bf (bx h2 63 t19) fun t20 h3 =>
 ck (ldn 1 h (e.s k23 4)) t16 (ck (ldn 1 h1 (e.s k23 4)) t16 (some ⟨.nm,((ux23 e 7 (.int .i64 0)).st 4 t20).st 5 (.int .i64 0),h3⟩))) fun e h =>
 some ⟨.rt,e,h⟩
def f23 (K:Oracle) (L:Looper) (p0 p1 p2:V) (h:H):Option (Rv × H):=fin Tryz.prog k23 [.tmp 6,.tmp 7] (s23 K L ⟨[p0,p1,p2,V.und,V.und,V.und,V.und],0,p0⟩ h)
theorem r23:(fun K L p0 p1 p2 h=>runFF Tryz.prog kp K L 23 [p0,p1,p2] h)=f23:=by kernel_rfl
@[simp] def k24:List Nat:=[0,1,2,4,6,7]
@[simp] def ux24 (e:E) (t:Nat) (v:V):E:=⟨[e.s k24 0,e.s k24 1,e.s k24 2,e.s k24 4,e.s k24 6,e.s k24 7],t,v⟩
def s24 (K:Oracle) (L:Looper) (e:E) (h:H):Out :=
 sq (bf (bx h 29 (e.s k24 1)) fun t4 h1 =>
 some ⟨.nm,(((ux24 e 7 (.int .i64 0)).st 3 t4).st 4 .nilp).st 5 (.int .i64 0),h1⟩) fun e h =>
 sq (sq (bd (ldn 1 h (e.s k24 4)) fun t8 =>
 bc k24 [8,9,10] e (K 32 [t8] h) fun t9 h1 =>
 bd (binK 0 .neq t9 (.int .i64 0)) fun t10 =>
 some ⟨.nm,ux24 e 10 t10,h1⟩) fun e h =>
 br (e.s k24 10) (sq (some ⟨.nm,((ux24 e 7 (.int .i64 2)).st 4 .nilp).st 5 (.int .i64 2),h⟩) fun e h =>
 some ⟨.rt,e,h⟩)
 (some ⟨.nm,e,h⟩)) fun e h =>
 sq (bd (some (e.s k24 0)) fun t11 =>
 bk (K 60 [t11] h) (fun tp hp =>
 bd (ldn 1 h (e.s k24 4)) fun t13 =>
 bd (some (e.s k24 2)) fun t15 =>
 some ⟨.pn tp,fgE k24 [11,12,13,14,15,16,17,6,7] e,hp⟩) fun _ _ =>
 bn (K 60 [e.s k24 0] h) fun t12 h1 =>
 bd (ldn 1 h1 (e.s k24 4)) fun t13 =>
 bn (K 34 [t13] h1) fun t14 h2 =>
 bd (bl [.nilp,.nilp,.nils,(.bool false),(.int .i64 0)] [(some (1,1),t12),(some (2,1),t14),(some (3,1),(e.s k24 2))]) fun t16 =>
 bf (bx h2 46 t16) fun t17 h3 =>
 ck (ldn 1 h (e.s k24 4)) t13 (ck (ldn 1 h1 (e.s k24 4)) t13 (some ⟨.nm,((ux24 e 7 (.int .i64 0)).st 4 t17).st 5 (.int .i64 0),h3⟩))) fun e h =>
 some ⟨.rt,e,h⟩
def f24 (K:Oracle) (L:Looper) (p0 p1 p2:V) (h:H):Option (Rv × H):=fin Tryz.prog k24 [.tmp 6,.tmp 7] (s24 K L ⟨[p0,p1,p2,V.und,V.und,V.und],0,p0⟩ h)
theorem r24:(fun K L p0 p1 p2 h=>runFF Tryz.prog kp K L 24 [p0,p1,p2] h)=f24:=by kernel_rfl
@[simp] def k25:List Nat:=[0,2,3,4,5,6,7,9,11,12]
@[simp] def ux25 (e:E) (t:Nat) (v:V):E:=⟨[e.s k25 0,e.s k25 2,e.s k25 3,e.s k25 4,e.s k25 5,e.s k25 6,e.s k25 7,e.s k25 9,e.s k25 11,e.s k25 12],t,v⟩
def l25_0 (K:Oracle) (L:Looper) (e:E) (h:H):Out :=
 sq (sq (bd (binK 0 .lss (e.s k25 5) (.int .i64 4)) fun t27 =>
 some ⟨.nm,ux25 e 27 t27,h⟩) fun e h =>
 br (e.s k25 27) (some ⟨.nm,e,h⟩)
 (some ⟨.ex 0,e,h⟩)) fun e h =>
 sq (blk 1 (bc k25 [30,31] e (K 61 [e.s k25 3,(.int .i64 29),(.int .i64 0),(.int .i64 3)] h) fun t31 h1 =>
 some ⟨.nm,ux25 e 31 t31,h1⟩)) fun e h =>
 bd (binK 0 .add (e.s k25 5) (.int .i64 1)) fun t29 =>
 some ⟨.nm,(ux25 e 5 t29).st 4 t29,h⟩
def l25_1 (K:Oracle) (L:Looper) (e:E) (h:H):Out :=
 sq (sq (bd (binK 0 .lss (e.s k25 6) (e.s k25 0)) fun t34 =>
 some ⟨.nm,ux25 e 34 t34,h⟩) fun e h =>
 br (e.s k25 34) (some ⟨.nm,e,h⟩)
 (some ⟨.ex 2,e,h⟩)) fun e h =>
 sq (blk 3 (bc k25 [37,38] e (K 38 [e.s k25 3,(.int .i64 1),(.int .i64 0)] h) fun t38 h1 =>
 some ⟨.nm,ux25 e 38 t38,h1⟩)) fun e h =>
 bd (binK 0 .add (e.s k25 6) (.int .i64 1)) fun t36 =>
 some ⟨.nm,(ux25 e 6 t36).st 5 t36,h⟩
def s25 (K:Oracle) (L:Looper) (e:E) (h:H):Out :=
 sq (some ⟨.nm,(ux25 e 2 (.bool false)).st 1 (.bool false),h⟩) fun e h =>
 sq (bc k25 [14,15,13,16,17,3,4] e (K 7 [] h) fun t14 h1 =>
 bc k25 [14,15,13,16,17,3,4] e (K 6 [t14,(.bool true)] h1) fun t15 h2 =>
 bd (exV t15 0) fun t16 =>
 bd (exV t15 1) fun t17 =>
 some ⟨.nm,((ux25 e 4 t17).st 2 t16).st 3 t17,h2⟩) fun e h =>
 sq (sq (bd (binK 0 .neq (e.s k25 4) (.int .i64 0)) fun t19 =>
 some ⟨.nm,ux25 e 19 t19,h⟩) fun e h =>
 br (e.s k25 19) (sq (some ⟨.nm,(ux25 e 2 (.bool false)).st 1 (.bool false),h⟩) fun e h =>
 some ⟨.rt,e,h⟩)
 (some ⟨.nm,e,h⟩)) fun e h =>
 sq (bc k25 [20,21] e (K 61 [e.s k25 3,(.int .i64 22),(.int .i64 0),(.int .i64 0)] h) fun t21 h1 =>
 some ⟨.nm,ux25 e 21 t21,h1⟩) fun e h =>
 sq (bc k25 [22,23] e (K 61 [e.s k25 3,(.int .i64 23),(.int .i64 0),(.int .i64 0)] h) fun t23 h1 =>
 some ⟨.nm,ux25 e 23 t23,h1⟩) fun e h =>
 sq (bc k25 [24,25] e (K 61 [e.s k25 3,(.int .i64 27),(.int .i64 0),(.int .i64 2)] h) fun t25 h1 =>
 some ⟨.nm,ux25 e 25 t25,h1⟩) fun e h =>
 sq (sq (some ⟨.nm,(ux25 e 5 (.int .i64 0)).st 4 (.int .i64 0),h⟩) fun e h =>
 blk 0 (L (l25_0 K L) e h)) fun e h =>
 sq (sq (some ⟨.nm,(ux25 e 6 (.int .i64 0)).st 5 (.int .i64 0),h⟩) fun e h =>
 blk 2 (L (l25_1 K L) e h)) fun e h =>
 sq (bc k25 [39,40] e (K 38 [e.s k25 3,(.int .i64 1),(.int .i64 1)] h) fun t40 h1 =>
 some ⟨.nm,ux25 e 40 t40,h1⟩) fun e h =>
 sq (bc k25 [41,42,43] e (K 38 [e.s k25 3,e.s k25 0,(.int .i64 5)] h) fun t43 h1 =>
 some ⟨.nm,ux25 e 43 t43,h1⟩) fun e h =>
 sq (bc k25 [44,45] e (K 61 [e.s k25 3,(.int .i64 30),(.int .i64 0),(.int .i64 1)] h) fun t45 h1 =>
 some ⟨.nm,ux25 e 45 t45,h1⟩) fun e h =>
 sq (bc k25 [47,48,46,49,50,7,8] e (K 17 [e.s k25 3] h) fun t48 h1 =>
 bd (exV t48 0) fun t49 =>
 bd (exV t48 1) fun t50 =>
 some ⟨.nm,(ux25 e 8 t50).st 6 t49,h1⟩) fun e h =>
 sq (bc k25 [52,53,54,51,55,56,9,10] e (K 7 [] h) fun t53 h1 =>
 bc k25 [52,53,54,51,55,56,9,10] e (K 23 [e.s k25 7,t53,(.bool true)] h1) fun t54 h2 =>
 bd (exV t54 0) fun t55 =>
 bd (exV t54 1) fun t56 =>
 some ⟨.nm,(ux25 e 10 t56).st 7 t55,h2⟩) fun e h =>
 sq (bc k25 [58,59,57,60,61,11,12] e (K 11 [e.s k25 9,(.int .i64 4),(.int .i64 0),(.int .i64 0),.nils] h) fun t59 h1 =>
 bd (exV t59 0) fun t60 =>
 bd (exV t59 1) fun t61 =>
 some ⟨.nm,((ux25 e 12 t61).st 8 t60).st 9 t61,h1⟩) fun e h =>
 sq (sq (bd (binK 0 .gtr (e.s k25 0) (.int .i64 20)) fun t63 =>
 some ⟨.nm,ux25 e 63 t63,h⟩) fun e h =>
 br (e.s k25 63) (sq (bd (binK 0 .eql (e.s k25 12) (.int .i64 4)) fun t65 =>
 bd (gl t65 true (some (e.s k25 11))) fun t67 =>
 bd (gl t65 true (lnS t67)) fun t68 =>
 bd (gl t65 true (binK 0 .eql t68 (.int .i64 0))) fun t69 =>
 bd (pk t65 t69 (.bool false)) fun t70 =>
 bd (gl t70 true (some (e.s k25 9))) fun t72 =>
 bc k25 [64,65,66,67,68,69,70,71,72,73,74,75,2] e (gk t70 true h (K 14 [t72] h)) fun t73 h1 =>
 bd (gl t70 true (binK 0 .eql t73 (.int .i64 28))) fun t74 =>
 bd (pk t70 t74 (.bool false)) fun t75 =>
 some ⟨.nm,(ux25 e 2 t75).st 1 t75,h1⟩) fun e h =>
 some ⟨.rt,e,h⟩)
 (some ⟨.nm,e,h⟩)) fun e h =>
 sq (bd (binK 0 .eql (e.s k25 12) (.int .i64 0)) fun t77 =>
 bd (gl t77 true (some (e.s k25 11))) fun t79 =>
 bd (gl t77 true (lnS t79)) fun t80 =>
 bd (gl t77 true (binK 0 .eql t80 (.int .i64 16))) fun t81 =>
 bd (pk t77 t81 (.bool false)) fun t82 =>
 bd (gl t82 true (some (e.s k25 11))) fun t84 =>
 bd (gl t82 true (iaS 1 t84 (.int .i64 0))) fun t85 =>
 bd (gl t82 true (ld h t85)) fun t86 =>
 bd (gl t82 true (some (e.s k25 0))) fun t87 =>
 bd (gl t82 true (binK 0 .shl (.int .i64 1) t87)) fun t88 =>
 bd (gl t82 true (binK 0 .add (.int .i64 14) t88)) fun t89 =>
 bd (gl t82 true (binK 0 .add t89 (.int .i64 5))) fun t90 =>
 bd (gl t82 true (unV .neg t90)) fun t91 =>
 bd (gl t82 true (binK 0 .eql t86 t91)) fun t92 =>
 bd (pk t82 t92 (.bool false)) fun t93 =>
 ck (gl t82 true (ld h t85)) t86 (some ⟨.nm,(ux25 e 2 t93).st 1 t93,h⟩)) fun e h =>
 some ⟨.rt,e,h⟩
def f25 (K:Oracle) (L:Looper) (p0:V) (h:H):Option (Rv × H):=fin Tryz.prog k25 [.tmp 2] (s25 K L ⟨[p0,V.und,V.und,V.und,V.und,V.und,V.und,V.und,V.und,V.und],0,p0⟩ h)
theorem r25:(fun K L p0 h=>runFF Tryz.prog kp K L 25 [p0] h)=f25:=by kernel_rfl
@[simp] def k26:List Nat:=[0,1,2,3,4,6,11,12,29,30,31]
@[simp] def ux26 (e:E) (t:Nat) (v:V):E:=⟨[e.s k26 0,e.s k26 1,e.s k26 2,e.s k26 3,e.s k26 4,e.s k26 6,e.s k26 11,e.s k26 12,e.s k26 29,e.s k26 30,e.s k26 31],t,v⟩
def l26_0 (K:Oracle) (L:Looper) (e:E) (h:H):Out :=
 sq (bd (binK 0 .lss (e.s k26 31) (e.s k26 30)) fun t32 =>
 some ⟨.nm,ux26 e 32 t32,h⟩) fun e h =>
 sq (br (e.s k26 32) (some ⟨.nm,e,h⟩)
 (some ⟨.ex 2,e,h⟩)) fun e h =>
 sq (blk 3 (sq (bd (iaS 2 (e.s k26 29) (e.s k26 31)) fun t33 =>
 bd (ldn 2 h t33) fun t34 =>
 bf (nw h 76 [.nils,(.int .i64 0)]) fun t6 h1 =>
 bf (stZ 2 h1 t6 t34) fun _ h2 =>
 some ⟨.nm,(ux26 e 0 (e.s k26 0)).st 5 t6,h2⟩) fun e h =>
 sq (bd (fa 0 (e.s k26 6)) fun t35 =>
 bd (ld h t35) fun t36 =>
 bd (lnS t36) fun t37 =>
 bd (fa 1 (e.s k26 4)) fun t38 =>
 bd (ld h t38) fun t39 =>
 bd (binK 0 .neq t37 t39) fun t40 =>
 bd (gl t40 false (ldn 2 h (e.s k26 6))) fun t42 =>
 bc k26 [35,36,37,38,39,40,41,42,43,44,45] e (gk t40 false h (K 62 [t42] h)) fun t43 h1 =>
 bd (gl t40 false (binK 0 .neq t43 (.int .i64 0))) fun t44 =>
 bd (pk t40 (.bool true) t44) fun t45 =>
 some ⟨.nm,ux26 e 45 t45,h1⟩) fun e h =>
 br (e.s k26 45) (sq (some ⟨.nm,(ux26 e 2 (.int .i64 2)).st 2 (.int .i64 2),h⟩) fun e h =>
 some ⟨.rt,e,h⟩)
 (some ⟨.nm,e,h⟩))) fun e h =>
 bd (binK 0 .add (e.s k26 31) (.int .i64 1)) fun t46 =>
 some ⟨.nm,(ux26 e 31 t46).st 10 t46,h⟩
def l26_1 (K:Oracle) (L:Looper) (e:E) (h:H):Out :=
 sq (bd (binK 0 .lss (e.s k26 12) (.int .i64 32)) fun t13 =>
 some ⟨.nm,ux26 e 13 t13,h⟩) fun e h =>
 sq (br (e.s k26 13) (some ⟨.nm,e,h⟩)
 (some ⟨.ex 0,e,h⟩)) fun e h =>
 sq (blk 1 (sq (bd (ixN 32 3 (e.s k26 11) (e.s k26 12)) fun t15 =>
 bf (nw h 69 [(.int .i64 0),(.int .i64 0),(.bool false)]) fun t4 h1 =>
 bf (stZ 3 h1 t4 t15) fun _ h2 =>
 some ⟨.nm,((ux26 e 0 (e.s k26 0)).st 3 (e.s k26 12)).st 4 t4,h2⟩) fun e h =>
 sq (sq (bd (fa 0 (e.s k26 1)) fun t16 =>
 bd (ld h t16) fun t17 =>
 bd (iaS 1 t17 (e.s k26 3)) fun t19 =>
 bd (ld h t19) fun t20 =>
 bd (lnS t20) fun t21 =>
 bd (fa 0 (e.s k26 4)) fun t22 =>
 bd (ld h t22) fun t23 =>
 bd (binK 0 .neq t21 t23) fun t24 =>
 ck (ld h t16) t17 (ck (ld h t19) t20 (ck (ld h t22) t23 (some ⟨.nm,ux26 e 24 t24,h⟩)))) fun e h =>
 br (e.s k26 24) (sq (some ⟨.nm,(ux26 e 2 (.int .i64 2)).st 2 (.int .i64 2),h⟩) fun e h =>
 some ⟨.rt,e,h⟩)
 (some ⟨.nm,e,h⟩)) fun e h =>
 sq (bd (fa 0 (e.s k26 1)) fun t25 =>
 bd (ld h t25) fun t26 =>
 bd (iaS 1 t26 (e.s k26 3)) fun t28 =>
 bd (ld h t28) fun t29 =>
 bd (lnS t29) fun t30 =>
 some ⟨.nm,(((ux26 e 31 (.int .i64 0)).st 8 t29).st 9 t30).st 10 (.int .i64 0),h⟩) fun e h =>
 blk 2 (L (l26_0 K L) e h))) fun e h =>
 bd (binK 0 .add (e.s k26 12) (.int .i64 1)) fun t47 =>
 some ⟨.nm,(ux26 e 12 t47).st 7 t47,h⟩
def s26 (K:Oracle) (L:Looper) (e:E) (h:H):Out :=
 sq (bf (bx h 29 (e.s k26 0)) fun t1 h1 =>
 some ⟨.nm,((ux26 e 2 (.int .i64 0)).st 1 t1).st 2 (.int .i64 0),h1⟩) fun e h =>
 sq (sq (bd (fa 0 (e.s k26 1)) fun t7 =>
 bd (ld h t7) fun t8 =>
 bd (lnS t8) fun t9 =>
 bd (binK 0 .neq t9 (.int .i64 32)) fun t10 =>
 some ⟨.nm,ux26 e 10 t10,h⟩) fun e h =>
 br (e.s k26 10) (sq (some ⟨.nm,(ux26 e 2 (.int .i64 2)).st 2 (.int .i64 2),h⟩) fun e h =>
 some ⟨.rt,e,h⟩)
 (some ⟨.nm,e,h⟩)) fun e h =>
 sq (sq (bc k26 [11,12] e (K 29 [] h) fun t11 h1 =>
 some ⟨.nm,((ux26 e 12 (.int .i64 0)).st 6 t11).st 7 (.int .i64 0),h1⟩) fun e h =>
 blk 0 (L (l26_1 K L) e h)) fun e h =>
 sq (some ⟨.nm,(ux26 e 2 (.int .i64 0)).st 2 (.int .i64 0),h⟩) fun e h =>
 some ⟨.rt,e,h⟩
def f26 (K:Oracle) (L:Looper) (p0:V) (h:H):Option (Rv × H):=fin Tryz.prog k26 [.tmp 2] (s26 K L ⟨[p0,V.und,V.und,V.und,V.und,V.und,V.und,V.und,V.und,V.und,V.und],0,p0⟩ h)
theorem r26:(fun K L p0 h=>runFF Tryz.prog kp K L 26 [p0] h)=f26:=by kernel_rfl
@[simp] def k27:List Nat:=[0]
def s27 (K:Oracle) (L:Looper) (e:E) (h:H):Out :=
 sq (some ⟨.nm,⟨[.nilp],0,.nilp⟩,h⟩) fun e h =>
 sq (bd (bl [.nils,(.int .u64 0),(.int .u32 0)] [(some (2,1),(.int .u32 4294967295))]) fun t1 =>
 bf (bx h 104 t1) fun t2 h1 =>
 some ⟨.nm,⟨[t2],0,t2⟩,h1⟩) fun e h =>
 some ⟨.rt,e,h⟩
def f27 (K:Oracle) (L:Looper) (h:H):Option (Rv × H):=fin Tryz.prog k27 [.tmp 0] (s27 K L ⟨[V.und],0,V.und⟩ h)
theorem r27:(fun K L h=>runFF Tryz.prog kp K L 27 [] h)=f27:=by kernel_rfl
@[simp] def k28:List Nat:=[0,1,2,3,4,5,6,13,14,15,27,28]
@[simp] def ux28 (e:E) (t:Nat) (v:V):E:=⟨[e.s k28 0,e.s k28 1,e.s k28 2,e.s k28 3,e.s k28 4,e.s k28 5,e.s k28 6,e.s k28 13,e.s k28 14,e.s k28 15,e.s k28 27,e.s k28 28],t,v⟩
def l28_0 (K:Oracle) (L:Looper) (e:E) (h:H):Out :=
 sq (bd (binK 0 .lss (e.s k28 28) (e.s k28 27)) fun t29 =>
 some ⟨.nm,ux28 e 29 t29,h⟩) fun e h =>
 sq (br (e.s k28 29) (some ⟨.nm,e,h⟩)
 (some ⟨.ex 2,e,h⟩)) fun e h =>
 sq (blk 3 (sq (some ⟨.nm,(ux28 e 6 (e.s k28 28)).st 6 (e.s k28 28),h⟩) fun e h =>
 bd (some (e.s k28 5)) fun t37 =>
 bd (some (e.s k28 6)) fun t38 =>
 bd (iaS 2 t37 t38) fun t39 =>
 bd (fa 0 t39) fun t40 =>
 bd (ld h t40) fun t41 =>
 bk (K 64 [t41] h) (fun tp hp =>
 bd (fa 0 (e.s k28 3)) fun t31 =>
 bd (ld h t31) fun t32 =>
 bd (some (e.s k28 4)) fun t33 =>
 bd (iaS 1 t32 t33) fun t34 =>
 bd (ld h t34) fun t35 =>
 bd (some (e.s k28 6)) fun t36 =>
 some ⟨.pn tp,fgE k28 [31,32,33,34,35,36,37,38,39,40,41,42,43,44] e,hp⟩) fun _ _ =>
 bd (iaS 2 (e.s k28 5) (e.s k28 6)) fun t39 =>
 bd (fa 0 t39) fun t40 =>
 bd (ld h t40) fun t41 =>
 bn (K 64 [t41] h) fun t42 h1 =>
 bd (fa 0 (e.s k28 3)) fun t31 =>
 bd (ld h1 t31) fun t32 =>
 bd (iaS 1 t32 (e.s k28 4)) fun t34 =>
 bd (ld h1 t34) fun t35 =>
 bd (iaS 2 t35 (e.s k28 6)) fun t43 =>
 bd (fa 0 t43) fun t44 =>
 bf (stZ 1 h1 t44 t42) fun _ h2 =>
 ck (ld h t31) t32 (ck (ld h1 t31) t32 (ck (ld h t34) t35 (ck (ld h1 t34) t35 (ck (ld h t40) t41 (some ⟨.nm,ux28 e 0 (e.s k28 0),h2⟩))))))) fun e h =>
 bd (binK 0 .add (e.s k28 28) (.int .i64 1)) fun t45 =>
 some ⟨.nm,(ux28 e 28 t45).st 11 t45,h⟩
def l28_1 (K:Oracle) (L:Looper) (e:E) (h:H):Out :=
 sq (bd (binK 0 .lss (e.s k28 15) (e.s k28 14)) fun t16 =>
 some ⟨.nm,ux28 e 16 t16,h⟩) fun e h =>
 sq (br (e.s k28 16) (some ⟨.nm,e,h⟩)
 (some ⟨.ex 0,e,h⟩)) fun e h =>
 sq (blk 1 (sq (bd (iaS 1 (e.s k28 13) (e.s k28 15)) fun t18 =>
 bd (ld h t18) fun t19 =>
 some ⟨.nm,((ux28 e 5 t19).st 4 (e.s k28 15)).st 5 t19,h⟩) fun e h =>
 sq (bd (some (e.s k28 5)) fun t23 =>
 bk (K 63 [t23] h) (fun tp hp =>
 bd (fa 0 (e.s k28 3)) fun t20 =>
 bd (ld h t20) fun t21 =>
 bd (some (e.s k28 4)) fun t22 =>
 some ⟨.pn tp,fgE k28 [20,21,22,23,24,25] e,hp⟩) fun _ _ =>
 bn (K 63 [e.s k28 5] h) fun t24 h1 =>
 bd (fa 0 (e.s k28 3)) fun t20 =>
 bd (ld h1 t20) fun t21 =>
 bd (iaS 1 t21 (e.s k28 4)) fun t25 =>
 bf (stZ 1 h1 t25 t24) fun _ h2 =>
 ck (ld h t20) t21 (ck (ld h1 t20) t21 (some ⟨.nm,ux28 e 0 (e.s k28 0),h2⟩))) fun e h =>
 sq (bd (lnS (e.s k28 5)) fun t27 =>
 some ⟨.nm,((ux28 e 28 (.int .i64 0)).st 10 t27).st 11 (.int .i64 0),h⟩) fun e h =>
 blk 2 (L (l28_0 K L) e h))) fun e h =>
 bd (binK 0 .add (e.s k28 15) (.int .i64 1)) fun t46 =>
 some ⟨.nm,(ux28 e 15 t46).st 9 t46,h⟩
def s28 (K:Oracle) (L:Looper) (e:E) (h:H):Out :=
 sq (bf (bx h 29 (e.s k28 0)) fun t1 h1 =>
 bf (nw h1 29 [.nils]) fun t2 h2 =>
 some ⟨.nm,((ux28 e 2 t2).st 1 t1).st 2 t2,h2⟩) fun e h =>
 sq (bd (fa 0 (e.s k28 1)) fun t7 =>
 bd (ld h t7) fun t8 =>
 bd (lnS t8) fun t9 =>
 bf (ms h 73 24 [.nils] t9 t9) fun t10 h1 =>
 bd (bl [.nils] [(some (0,1),t10)]) fun t11 =>
 bf (nw h1 29 [.nils]) fun t3 h2 =>
 bf (stZ 1 h2 t3 t11) fun _ h3 =>
 some ⟨.nm,(ux28 e 0 (e.s k28 0)).st 3 t3,h3⟩) fun e h =>
 sq (sq (bd (fa 0 (e.s k28 1)) fun t12 =>
 bd (ld h t12) fun t13 =>
 bd (lnS t13) fun t14 =>
 some ⟨.nm,(((ux28 e 15 (.int .i64 0)).st 7 t13).st 8 t14).st 9 (.int .i64 0),h⟩) fun e h =>
 blk 0 (L (l28_1 K L) e h)) fun e h =>
 sq (bd (ldn 1 h (e.s k28 3)) fun t47 =>
 bf (stZ 1 h (e.s k28 2) t47) fun _ h1 =>
 some ⟨.nm,ux28 e 0 (e.s k28 0),h1⟩) fun e h =>
 some ⟨.rt,e,h⟩
def f28 (K:Oracle) (L:Looper) (p0:V) (h:H):Option (Rv × H):=fin Tryz.prog k28 [.cell 2 29] (s28 K L ⟨[p0,V.und,V.und,V.und,V.und,V.und,V.und,V.und,V.und,V.und,V.und,V.und],0,p0⟩ h)
theorem r28:(fun K L p0 h=>runFF Tryz.prog kp K L 28 [p0] h)=f28:=by kernel_rfl
@[simp] def k29:List Nat:=[0]
def s29 (K:Oracle) (L:Looper) (e:E) (h:H):Out :=
 sq (bf (nw h 70 [(.int .i64 0),(.int .i64 0),(.bool false),(.int .i64 0),(.int .i64 0),(.bool false),(.int .i64 0),(.int .i64 0),(.bool false),(.int .i64 0),(.int .i64 0),(.bool false),(.int .i64 0),(.int .i64 0),(.bool false),(.int .i64 0),(.int .i64 0),(.bool false),(.int .i64 0),(.int .i64 0),(.bool false),(.int .i64 0),(.int .i64 0),(.bool false),(.int .i64 0),(.int .i64 0),(.bool false),(.int .i64 0),(.int .i64 0),(.bool false),(.int .i64 0),(.int .i64 0),(.bool false),(.int .i64 0),(.int .i64 0),(.bool false),(.int .i64 0),(.int .i64 0),(.bool false),(.int .i64 0),(.int .i64 0),(.bool false),(.int .i64 0),(.int .i64 0),(.bool false),(.int .i64 0),(.int .i64 0),(.bool false),(.int .i64 0),(.int .i64 0),(.bool false),(.int .i64 0),(.int .i64 0),(.bool false),(.int .i64 0),(.int .i64 0),(.bool false),(.int .i64 0),(.int .i64 0),(.bool false),(.int .i64 0),(.int .i64 0),(.bool false),(.int .i64 0),(.int .i64 0),(.bool false),(.int .i64 0),(.int .i64 0),(.bool false),(.int .i64 0),(.int .i64 0),(.bool false),(.int .i64 0),(.int .i64 0),(.bool false),(.int .i64 0),(.int .i64 0),(.bool false),(.int .i64 0),(.int .i64 0),(.bool false),(.int .i64 0),(.int .i64 0),(.bool false),(.int .i64 0),(.int .i64 0),(.bool false),(.int .i64 0),(.int .i64 0),(.bool false),(.int .i64 0),(.int .i64 0),(.bool false),(.int .i64 0),(.int .i64 0),(.bool false)]) fun t0 h1 =>
 some ⟨.nm,⟨[t0],0,t0⟩,h1⟩) fun e h =>
 sq (bd (bl [(.int .i64 0),(.int .i64 0),(.bool false)] [(some (0,1),(.int .i64 8)),(some (1,1),(.int .i64 10)),(some (2,1),(.bool false))]) fun t1 =>
 bd (bl [(.int .i64 0),(.int .i64 0),(.bool false)] [(some (0,1),(.int .i64 4)),(some (1,1),(.int .i64 8)),(some (2,1),(.bool false))]) fun t2 =>
 bd (bl [(.int .i64 0),(.int .i64 0),(.bool false)] [(some (0,1),(.int .i64 3)),(some (1,1),(.int .i64 2)),(some (2,1),(.bool false))]) fun t3 =>
 bd (bl [(.int .i64 0),(.int .i64 0),(.bool false)] [(some (0,1),(.int .i64 3)),(some (1,1),(.int .i64 2)),(some (2,1),(.bool false))]) fun t4 =>
 bd (bl [(.int .i64 0),(.int .i64 0),(.bool false)] [(some (0,1),(.int .i64 4)),(some (1,1),(.int .i64 13)),(some (2,1),(.bool false))]) fun t5 =>
 bd (bl [(.int .i64 0),(.int .i64 0),(.bool false)] [(some (0,1),(.int .i64 8)),(some (1,1),(.int .i64 7)),(some (2,1),(.bool false))]) fun t6 =>
 bd (bl [(.int .i64 0),(.int .i64 0),(.bool false)] [(some (0,1),(.int .i64 1)),(some (1,1),(.int .i64 13)),(some (2,1),(.bool false))]) fun t7 =>
 bd (bl [(.int .i64 0),(.int .i64 0),(.bool false)] [(some (0,1),(.int .i64 1)),(some (1,1),(.int .i64 14)),(some (2,1),(.bool false))]) fun t8 =>
 bd (bl [(.int .i64 0),(.int .i64 0),(.bool false)] [(some (0,1),(.int .i64 1)),(some (1,1),(.int .i64 8)),(some (2,1),(.bool false))]) fun t9 =>
 bd (bl [(.int .i64 0),(.int .i64 0),(.bool false)] [(some (0,1),(.int .i64 2)),(some (1,1),(.int .i64 16)),(some (2,1),(.bool true))]) fun t10 =>
 bd (bl [(.int .i64 0),(.int .i64 0),(.bool false)] [(some (0,1),(.int .i64 1)),(some (1,1),(.int .i64 2)),(some (2,1),(.bool false))]) fun t11 =>
 bd (bl [(.int .i64 0),(.int .i64 0),(.bool false)] [(some (0,1),(.int .i64 3)),(some (1,1),(.int .i64 3)),(some (2,1),(.bool false))]) fun t12 =>
 bd (bl [(.int .i64 0),(.int .i64 0),(.bool false)] [(some (0,1),(.int .i64 3)),(some (1,1),(.int .i64 9)),(some (2,1),(.bool false))]) fun t13 =>
 bd (bl [(.int .i64 0),(.int .i64 0),(.bool false)] [(some (0,1),(.int .i64 1)),(some (1,1),(.int .i64 2)),(some (2,1),(.bool false))]) fun t14 =>
 bd (bl [(.int .i64 0),(.int .i64 0),(.bool false)] [(some (0,1),(.int .i64 3)),(some (1,1),(.int .i64 3)),(some (2,1),(.bool false))]) fun t15 =>
 bd (bl [(.int .i64 0),(.int .i64 0),(.bool false)] [(some (0,1),(.int .i64 1)),(some (1,1),(.int .i64 2)),(some (2,1),(.bool false))]) fun t16 =>
 bd (bl [(.int .i64 0),(.int .i64 0),(.bool false)] [(some (0,1),(.int .i64 3)),(some (1,1),(.int .i64 4)),(some (2,1),(.bool false))]) fun t17 =>
 bd (bl [(.int .i64 0),(.int .i64 0),(.bool false)] [(some (0,1),(.int .i64 1)),(some (1,1),(.int .i64 4)),(some (2,1),(.bool false))]) fun t18 =>
 bd (bl [(.int .i64 0),(.int .i64 0),(.bool false)] [(some (0,1),(.int .i64 2)),(some (1,1),(.int .i64 11)),(some (2,1),(.bool true))]) fun t19 =>
 bd (bl [(.int .i64 0),(.int .i64 0),(.bool false)] [(some (0,1),(.int .i64 2)),(some (1,1),(.int .i64 8)),(some (2,1),(.bool false))]) fun t20 =>
 bd (bl [(.int .i64 0),(.int .i64 0),(.bool false)] [(some (0,1),(.int .i64 1)),(some (1,1),(.int .i64 3)),(some (2,1),(.bool false))]) fun t21 =>
 bd (bl [(.int .i64 0),(.int .i64 0),(.bool false)] [(some (0,1),(.int .i64 1)),(some (1,1),(.int .i64 2)),(some (2,1),(.bool false))]) fun t22 =>
 bd (bl [(.int .i64 0),(.int .i64 0),(.bool false)] [(some (0,1),(.int .i64 4)),(some (1,1),(.int .i64 2)),(some (2,1),(.bool false))]) fun t23 =>
 bd (bl [(.int .i64 0),(.int .i64 0),(.bool false)] [(some (0,1),(.int .i64 2)),(some (1,1),(.int .i64 5)),(some (2,1),(.bool false))]) fun t24 =>
 bd (bl [(.int .i64 0),(.int .i64 0),(.bool false)] [(some (0,1),(.int .i64 2)),(some (1,1),(.int .i64 7)),(some (2,1),(.bool false))]) fun t25 =>
 bd (bl [(.int .i64 0),(.int .i64 0),(.bool false)] [(some (0,1),(.int .i64 2)),(some (1,1),(.int .i64 9)),(some (2,1),(.bool false))]) fun t26 =>
 bd (bl [(.int .i64 0),(.int .i64 0),(.bool false)] [(some (0,1),(.int .i64 2)),(some (1,1),(.int .i64 11)),(some (2,1),(.bool false))]) fun t27 =>
 bd (bl [(.int .i64 0),(.int .i64 0),(.bool false)] [(some (0,1),(.int .i64 2)),(some (1,1),(.int .i64 3)),(some (2,1),(.bool true))]) fun t28 =>
 bd (bl [(.int .i64 0),(.int .i64 0),(.bool false)] [(some (0,1),(.int .i64 10)),(some (1,1),(.int .i64 4)),(some (2,1),(.bool true))]) fun t29 =>
 bd (bl [(.int .i64 0),(.int .i64 0),(.bool false)] [(some (0,1),(.int .i64 14)),(some (1,1),(.int .i64 4)),(some (2,1),(.bool true))]) fun t30 =>
 bd (bl [(.int .i64 0),(.int .i64 0),(.bool false)] [(some (0,1),(.int .i64 6)),(some (1,1),(.int .i64 2)),(some (2,1),(.bool false))]) fun t31 =>
 bd (bl [(.int .i64 0),(.int .i64 0),(.bool false)] [(some (0,1),(.int .i64 3)),(some (1,1),(.int .i64 2)),(some (2,1),(.bool false))]) fun t32 =>
 bd (bl [(.int .i64 0),(.int .i64 0),(.bool false),(.int .i64 0),(.int .i64 0),(.bool false),(.int .i64 0),(.int .i64 0),(.bool false),(.int .i64 0),(.int .i64 0),(.bool false),(.int .i64 0),(.int .i64 0),(.bool false),(.int .i64 0),(.int .i64 0),(.bool false),(.int .i64 0),(.int .i64 0),(.bool false),(.int .i64 0),(.int .i64 0),(.bool false),(.int .i64 0),(.int .i64 0),(.bool false),(.int .i64 0),(.int .i64 0),(.bool false),(.int .i64 0),(.int .i64 0),(.bool false),(.int .i64 0),(.int .i64 0),(.bool false),(.int .i64 0),(.int .i64 0),(.bool false),(.int .i64 0),(.int .i64 0),(.bool false),(.int .i64 0),(.int .i64 0),(.bool false),(.int .i64 0),(.int .i64 0),(.bool false),(.int .i64 0),(.int .i64 0),(.bool false),(.int .i64 0),(.int .i64 0),(.bool false),(.int .i64 0),(.int .i64 0),(.bool false),(.int .i64 0),(.int .i64 0),(.bool false),(.int .i64 0),(.int .i64 0),(.bool false),(.int .i64 0),(.int .i64 0),(.bool false),(.int .i64 0),(.int .i64 0),(.bool false),(.int .i64 0),(.int .i64 0),(.bool false),(.int .i64 0),(.int .i64 0),(.bool false),(.int .i64 0),(.int .i64 0),(.bool false),(.int .i64 0),(.int .i64 0),(.bool false),(.int .i64 0),(.int .i64 0),(.bool false),(.int .i64 0),(.int .i64 0),(.bool false),(.int .i64 0),(.int .i64 0),(.bool false),(.int .i64 0),(.int .i64 0),(.bool false),(.int .i64 0),(.int .i64 0),(.bool false)] [(some (0,3),t1),(some (3,3),t2),(some (6,3),t3),(some (9,3),t4),(some (12,3),t5),(some (15,3),t6),(some (18,3),t7),(some (21,3),t8),(some (24,3),t9),(some (27,3),t10),(some (30,3),t11),(some (33,3),t12),(some (36,3),t13),(some (39,3),t14),(some (42,3),t15),(some (45,3),t16),(some (48,3),t17),(some (51,3),t18),(some (54,3),t19),(some (57,3),t20),(some (60,3),t21),(some (63,3),t22),(some (66,3),t23),(some (69,3),t24),(some (72,3),t25),(some (75,3),t26),(some (78,3),t27),(some (81,3),t28),(some (84,3),t29),(some (87,3),t30),(some (90,3),t31),(some (93,3),t32)]) fun t33 =>
 bf (stZ 96 h (e.s k29 0) t33) fun _ h1 =>
 some ⟨.nm,⟨[e.s k29 0],0,(e.s k29 0)⟩,h1⟩) fun e h =>
 some ⟨.rt,e,h⟩
def f29 (K:Oracle) (L:Looper) (h:H):Option (Rv × H):=fin Tryz.prog k29 [.cell 0 70] (s29 K L ⟨[V.und],0,V.und⟩ h)
theorem r29:(fun K L h=>runFF Tryz.prog kp K L 29 [] h)=f29:=by kernel_rfl
@[simp] def k30:List Nat:=[0,2,3,4,5,15,16]
@[simp] def ux30 (e:E) (t:Nat) (v:V):E:=⟨[e.s k30 0,e.s k30 2,e.s k30 3,e.s k30 4,e.s k30 5,e.s k30 15,e.s k30 16],t,v⟩
def l30_0 (K:Oracle) (L:Looper) (e:E) (h:H):Out :=
 sq (bd (binK 0 .lss (e.s k30 16) (e.s k30 15)) fun t17 =>
 some ⟨.nm,ux30 e 17 t17,h⟩) fun e h =>
 sq (br (e.s k30 17) (some ⟨.nm,e,h⟩)
 (some ⟨.ex 0,e,h⟩)) fun e h =>
 sq (blk 1 (sq (some ⟨.nm,(ux30 e 5 (e.s k30 16)).st 4 (e.s k30 16),h⟩) fun e h =>
 bd (fa 0 (e.s k30 4)) fun t19 =>
 bd (ld h t19) fun t20 =>
 bd (binK 0 .add (e.s k30 5) (.int .i64 1)) fun t23 =>
 bd (binK 0 .mul (.int .i64 32768) t23) fun t24 =>
 bd (binK 0 .quo t24 (e.s k30 0)) fun t26 =>
 bd (cv .u16 t26) fun t27 =>
 bd (iaS 1 t20 (e.s k30 5)) fun t28 =>
 bf (stZ 1 h t28 t27) fun _ h1 =>
 ck (ld h t19) t20 (some ⟨.nm,ux30 e 0 (e.s k30 0),h1⟩))) fun e h =>
 bd (binK 0 .add (e.s k30 16) (.int .i64 1)) fun t29 =>
 some ⟨.nm,(ux30 e 16 t29).st 6 t29,h⟩
def s30 (K:Oracle) (L:Looper) (e:E) (h:H):Out :=
 sq (bf (nw h 76 [.nils,(.int .i64 0)]) fun t2 h1 =>
 some ⟨.nm,((ux30 e 3 (.int .i64 0)).st 1 t2).st 2 (.int .i64 0),h1⟩) fun e h =>
 sq (sq (bc k30 [6,7,8] e (K 65 [e.s k30 0] h) fun t7 h1 =>
 bd (unV .not t7) fun t8 =>
 some ⟨.nm,ux30 e 8 t8,h1⟩) fun e h =>
 br (e.s k30 8) (sq (bd (bl [.nils,(.int .i64 0)] []) fun t9 =>
 bf (stZ 2 h (e.s k30 2) t9) fun _ h1 =>
 some ⟨.nm,(ux30 e 3 (.int .i64 2)).st 2 (.int .i64 2),h1⟩) fun e h =>
 some ⟨.rt,e,h⟩)
 (some ⟨.nm,e,h⟩)) fun e h =>
 sq (bf (ms h 97 2 [(.int .u16 0)] (e.s k30 0) (e.s k30 0)) fun t11 h1 =>
 bd (bl [.nils,(.int .i64 0)] [(some (0,1),t11)]) fun t12 =>
 bf (nw h1 76 [.nils,(.int .i64 0)]) fun t4 h2 =>
 bf (stZ 2 h2 t4 t12) fun _ h3 =>
 some ⟨.nm,(ux30 e 0 (e.s k30 0)).st 3 t4,h3⟩) fun e h =>
 sq (sq (bd (fa 0 (e.s k30 4)) fun t13 =>
 bd (ld h t13) fun t14 =>
 bd (lnS t14) fun t15 =>
 some ⟨.nm,((ux30 e 16 (.int .i64 0)).st 5 t15).st 6 (.int .i64 0),h⟩) fun e h =>
 blk 0 (L (l30_0 K L) e h)) fun e h =>
 sq (bd (ldn 2 h (e.s k30 4)) fun t30 =>
 bf (stZ 2 h (e.s k30 2) t30) fun _ h1 =>
 some ⟨.nm,(ux30 e 3 (.int .i64 0)).st 2 (.int .i64 0),h1⟩) fun e h =>
 some ⟨.rt,e,h⟩
def f30 (K:Oracle) (L:Looper) (p0:V) (h:H):Option (Rv × H):=fin Tryz.prog k30 [.cell 2 76,.tmp 3] (s30 K L ⟨[p0,V.und,V.und,V.und,V.und,V.und,V.und],0,p0⟩ h)
theorem r30:(fun K L p0 h=>runFF Tryz.prog kp K L 30 [p0] h)=f30:=by kernel_rfl
@[simp] def k31:List Nat:=[0,2,3,4,5,15,16]
@[simp] def ux31 (e:E) (t:Nat) (v:V):E:=⟨[e.s k31 0,e.s k31 2,e.s k31 3,e.s k31 4,e.s k31 5,e.s k31 15,e.s k31 16],t,v⟩
def l31_0 (K:Oracle) (L:Looper) (e:E) (h:H):Out :=
 sq (bd (binK 0 .lss (e.s k31 16) (e.s k31 15)) fun t17 =>
 some ⟨.nm,ux31 e 17 t17,h⟩) fun e h =>
 sq (br (e.s k31 17) (some ⟨.nm,e,h⟩)
 (some ⟨.ex 0,e,h⟩)) fun e h =>
 sq (blk 1 (sq (some ⟨.nm,(ux31 e 5 (e.s k31 16)).st 4 (e.s k31 16),h⟩) fun e h =>
 bd (fa 0 (e.s k31 4)) fun t19 =>
 bd (ld h t19) fun t20 =>
 bd (binK 0 .add (e.s k31 5) (.int .i64 1)) fun t23 =>
 bd (binK 0 .shr (.int .u16 32768) t23) fun t24 =>
 bd (binK 0 .sub (.int .u16 32768) t24) fun t25 =>
 bd (iaS 1 t20 (e.s k31 5)) fun t26 =>
 bf (stZ 1 h t26 t25) fun _ h1 =>
 ck (ld h t19) t20 (some ⟨.nm,ux31 e 0 (e.s k31 0),h1⟩))) fun e h =>
 bd (binK 0 .add (e.s k31 16) (.int .i64 1)) fun t27 =>
 some ⟨.nm,(ux31 e 16 t27).st 6 t27,h⟩
def s31 (K:Oracle) (L:Looper) (e:E) (h:H):Out :=
 sq (bf (nw h 76 [.nils,(.int .i64 0)]) fun t2 h1 =>
 some ⟨.nm,((ux31 e 3 (.int .i64 0)).st 1 t2).st 2 (.int .i64 0),h1⟩) fun e h =>
 sq (sq (bc k31 [6,7,8] e (K 65 [e.s k31 0] h) fun t7 h1 =>
 bd (unV .not t7) fun t8 =>
 some ⟨.nm,ux31 e 8 t8,h1⟩) fun e h =>
 br (e.s k31 8) (sq (bd (bl [.nils,(.int .i64 0)] []) fun t9 =>
 bf (stZ 2 h (e.s k31 2) t9) fun _ h1 =>
 some ⟨.nm,(ux31 e 3 (.int .i64 2)).st 2 (.int .i64 2),h1⟩) fun e h =>
 some ⟨.rt,e,h⟩)
 (some ⟨.nm,e,h⟩)) fun e h =>
 sq (bf (ms h 97 2 [(.int .u16 0)] (e.s k31 0) (e.s k31 0)) fun t11 h1 =>
 bd (bl [.nils,(.int .i64 0)] [(some (0,1),t11)]) fun t12 =>
 bf (nw h1 76 [.nils,(.int .i64 0)]) fun t4 h2 =>
 bf (stZ 2 h2 t4 t12) fun _ h3 =>
 some ⟨.nm,(ux31 e 0 (e.s k31 0)).st 3 t4,h3⟩) fun e h =>
 sq (sq (bd (fa 0 (e.s k31 4)) fun t13 =>
 bd (ld h t13) fun t14 =>
 bd (lnS t14) fun t15 =>
 some ⟨.nm,((ux31 e 16 (.int .i64 0)).st 5 t15).st 6 (.int .i64 0),h⟩) fun e h =>
 blk 0 (L (l31_0 K L) e h)) fun e h =>
 sq (bd (fa 0 (e.s k31 4)) fun t28 =>
 bd (ld h t28) fun t29 =>
 bd (binK 0 .sub (e.s k31 0) (.int .i64 1)) fun t31 =>
 bd (iaS 1 t29 t31) fun t32 =>
 bf (stZ 1 h t32 (.int .u16 32768)) fun _ h1 =>
 some ⟨.nm,ux31 e 0 (e.s k31 0),h1⟩) fun e h =>
 sq (bd (ldn 2 h (e.s k31 4)) fun t33 =>
 bf (stZ 2 h (e.s k31 2) t33) fun _ h1 =>
 some ⟨.nm,(ux31 e 3 (.int .i64 0)).st 2 (.int .i64 0),h1⟩) fun e h =>
 some ⟨.rt,e,h⟩
def f31 (K:Oracle) (L:Looper) (p0:V) (h:H):Option (Rv × H):=fin Tryz.prog k31 [.cell 2 76,.tmp 3] (s31 K L ⟨[p0,V.und,V.und,V.und,V.und,V.und,V.und],0,p0⟩ h)
theorem r31:(fun K L p0 h=>runFF Tryz.prog kp K L 31 [p0] h)=f31:=by kernel_rfl
@[simp] def k32:List Nat:=[0,1,2,3,4,5]
@[simp] def ux32 (e:E) (t:Nat) (v:V):E:=⟨[e.s k32 0,e.s k32 1,e.s k32 2,e.s k32 3,e.s k32 4,e.s k32 5],t,v⟩
def l32_0 (K:Oracle) (L:Looper) (e:E) (h:H):Out :=
 sq (sq (bd (fa 0 (e.s k32 1)) fun t28 =>
 bd (ld h t28) fun t29 =>
 bd (iaS 1 t29 (e.s k32 4)) fun t31 =>
 bd (ld h t31) fun t32 =>
 bd (lnS t32) fun t33 =>
 bd (binK 0 .lss (e.s k32 5) t33) fun t34 =>
 some ⟨.nm,ux32 e 34 t34,h⟩) fun e h =>
 br (e.s k32 34) (some ⟨.nm,e,h⟩)
 (some ⟨.ex 2,e,h⟩)) fun e h =>
 sq (blk 3 (sq (bd (fa 0 (e.s k32 1)) fun t37 =>
 bd (ld h t37) fun t38 =>
 bd (iaS 1 t38 (e.s k32 4)) fun t40 =>
 bd (ld h t40) fun t41 =>
 bd (iaS 2 t41 (e.s k32 5)) fun t43 =>
 bd (fa 0 t43) fun t44 =>
 bd (ld h t44) fun t45 =>
 bd (lnS t45) fun t46 =>
 bd (iaS 3 (e.s k32 3) (e.s k32 4)) fun t49 =>
 bd (iaA 3 1 t49 (.int .i64 1)) fun t50 =>
 bd (ld h t50) fun t51 =>
 bd (binK 0 .neq t46 t51) fun t52 =>
 bd (gl t52 false (fa 0 (e.s k32 1))) fun t54 =>
 bd (gl t52 false (ld h t54)) fun t55 =>
 bd (gl t52 false (some (e.s k32 4))) fun t56 =>
 bd (gl t52 false (iaS 1 t55 t56)) fun t57 =>
 bd (gl t52 false (ld h t57)) fun t58 =>
 bd (gl t52 false (some (e.s k32 5))) fun t59 =>
 bd (gl t52 false (iaS 2 t58 t59)) fun t60 =>
 bd (gl t52 false (ldn 2 h t60)) fun t61 =>
 bn (gk t52 false h (K 66 [t61] h)) fun t62 h1 =>
 bd (gl t52 false (binK 0 .neq t62 (.int .i64 0))) fun t63 =>
 bd (pk t52 (.bool true) t63) fun t64 =>
 ck (ld h t37) t38 (ck (ld h t40) t41 (ck (ld h t44) t45 (ck (ld h t50) t51 (ck (gl t52 false (ld h t54)) t55 (ck (gl t52 false (ld h t57)) t58 (ck (gl t52 false (ldn 2 h t60)) t61 (some ⟨.nm,ux32 e 64 t64,h1⟩)))))))) fun e h =>
 br (e.s k32 64) (sq (some ⟨.nm,(ux32 e 2 (.int .i64 2)).st 2 (.int .i64 2),h⟩) fun e h =>
 some ⟨.rt,e,h⟩)
 (some ⟨.nm,e,h⟩))) fun e h =>
 bd (binK 0 .add (e.s k32 5) (.int .i64 1)) fun t36 =>
 some ⟨.nm,(ux32 e 5 t36).st 5 t36,h⟩
def l32_1 (K:Oracle) (L:Looper) (e:E) (h:H):Out :=
 sq (sq (bd (binK 0 .lss (e.s k32 4) (.int .i64 32)) fun t12 =>
 some ⟨.nm,ux32 e 12 t12,h⟩) fun e h =>
 br (e.s k32 12) (some ⟨.nm,e,h⟩)
 (some ⟨.ex 0,e,h⟩)) fun e h =>
 sq (blk 1 (sq (sq (bd (fa 0 (e.s k32 1)) fun t15 =>
 bd (ld h t15) fun t16 =>
 bd (iaS 1 t16 (e.s k32 4)) fun t18 =>
 bd (ld h t18) fun t19 =>
 bd (lnS t19) fun t20 =>
 bd (iaS 3 (e.s k32 3) (e.s k32 4)) fun t23 =>
 bd (iaA 3 1 t23 (.int .i64 0)) fun t24 =>
 bd (ld h t24) fun t25 =>
 bd (binK 0 .neq t20 t25) fun t26 =>
 ck (ld h t15) t16 (ck (ld h t18) t19 (ck (ld h t24) t25 (some ⟨.nm,ux32 e 26 t26,h⟩)))) fun e h =>
 br (e.s k32 26) (sq (some ⟨.nm,(ux32 e 2 (.int .i64 2)).st 2 (.int .i64 2),h⟩) fun e h =>
 some ⟨.rt,e,h⟩)
 (some ⟨.nm,e,h⟩)) fun e h =>
 sq (some ⟨.nm,(ux32 e 5 (.int .i64 0)).st 5 (.int .i64 0),h⟩) fun e h =>
 blk 2 (L (l32_0 K L) e h))) fun e h =>
 bd (binK 0 .add (e.s k32 4) (.int .i64 1)) fun t14 =>
 some ⟨.nm,(ux32 e 4 t14).st 4 t14,h⟩
def s32 (K:Oracle) (L:Looper) (e:E) (h:H):Out :=
 sq (bf (bx h 29 (e.s k32 0)) fun t1 h1 =>
 some ⟨.nm,((ux32 e 2 (.int .i64 0)).st 1 t1).st 2 (.int .i64 0),h1⟩) fun e h =>
 sq (sq (bd (fa 0 (e.s k32 1)) fun t6 =>
 bd (ld h t6) fun t7 =>
 bd (lnS t7) fun t8 =>
 bd (binK 0 .neq t8 (.int .i64 32)) fun t9 =>
 some ⟨.nm,ux32 e 9 t9,h⟩) fun e h =>
 br (e.s k32 9) (sq (some ⟨.nm,(ux32 e 2 (.int .i64 2)).st 2 (.int .i64 2),h⟩) fun e h =>
 some ⟨.rt,e,h⟩)
 (some ⟨.nm,e,h⟩)) fun e h =>
 sq (bc k32 [10,3] e (K 35 [] h) fun t10 h1 =>
 some ⟨.nm,(ux32 e 3 t10).st 3 t10,h1⟩) fun e h =>
 sq (sq (some ⟨.nm,(ux32 e 4 (.int .i64 0)).st 4 (.int .i64 0),h⟩) fun e h =>
 blk 0 (L (l32_1 K L) e h)) fun e h =>
 sq (some ⟨.nm,(ux32 e 2 (.int .i64 0)).st 2 (.int .i64 0),h⟩) fun e h =>
 some ⟨.rt,e,h⟩
def f32 (K:Oracle) (L:Looper) (p0:V) (h:H):Option (Rv × H):=fin Tryz.prog k32 [.tmp 2] (s32 K L ⟨[p0,V.und,V.und,V.und,V.und,V.und],0,p0⟩ h)
theorem r32:(fun K L p0 h=>runFF Tryz.prog kp K L 32 [p0] h)=f32:=by kernel_rfl
@[simp] def k33:List Nat:=[0]
def s33 (K:Oracle) (L:Looper) (e:E) (h:H):Out :=
 sq (some ⟨.nm,⟨[.nilp],0,.nilp⟩,h⟩) fun e h =>
 sq (bd (bl [.nils,(.int .u64 0),(.int .u64 0)] [(some (2,1),(.int .u64 4294967295))]) fun t1 =>
 bf (bx h 108 t1) fun t2 h1 =>
 some ⟨.nm,⟨[t2],0,t2⟩,h1⟩) fun e h =>
 some ⟨.rt,e,h⟩
def f33 (K:Oracle) (L:Looper) (h:H):Option (Rv × H):=fin Tryz.prog k33 [.tmp 0] (s33 K L ⟨[V.und],0,V.und⟩ h)
theorem r33:(fun K L h=>runFF Tryz.prog kp K L 33 [] h)=f33:=by kernel_rfl
@[simp] def k34:List Nat:=[0,1,2,3,4,5,6,7]
@[simp] def ux34 (e:E) (t:Nat) (v:V):E:=⟨[e.s k34 0,e.s k34 1,e.s k34 2,e.s k34 3,e.s k34 4,e.s k34 5,e.s k34 6,e.s k34 7],t,v⟩
def l34_0 (K:Oracle) (L:Looper) (e:E) (h:H):Out :=
 sq (sq (bd (fa 0 (e.s k34 1)) fun t16 =>
 bd (ld h t16) fun t17 =>
 bd (iaS 1 t17 (e.s k34 4)) fun t19 =>
 bd (ld h t19) fun t20 =>
 bd (lnS t20) fun t21 =>
 bd (binK 0 .lss (e.s k34 6) t21) fun t22 =>
 some ⟨.nm,ux34 e 22 t22,h⟩) fun e h =>
 br (e.s k34 22) (some ⟨.nm,e,h⟩)
 (some ⟨.ex 2,e,h⟩)) fun e h =>
 sq (blk 3 (sq (bd (fa 0 (e.s k34 1)) fun t25 =>
 bd (ld h t25) fun t26 =>
 bd (iaS 1 t26 (e.s k34 4)) fun t28 =>
 bd (ld h t28) fun t29 =>
 bd (iaS 2 t29 (e.s k34 6)) fun t31 =>
 bd (fa 1 t31) fun t32 =>
 bd (ld h t32) fun t33 =>
 bd (bl [.nils,(.int .i64 0)] [(some (1,1),t33)]) fun t34 =>
 bf (nw h 76 [.nils,(.int .i64 0)]) fun t7 h1 =>
 bf (stZ 2 h1 t7 t34) fun _ h2 =>
 some ⟨.nm,(ux34 e 0 (e.s k34 0)).st 7 t7,h2⟩) fun e h =>
 sq (bd (fa 0 (e.s k34 7)) fun t35 =>
 bd (ld h t35) fun t36 =>
 bd (fa 0 (e.s k34 1)) fun t37 =>
 bd (ld h t37) fun t38 =>
 bd (iaS 1 t38 (e.s k34 4)) fun t40 =>
 bd (ld h t40) fun t41 =>
 bd (iaS 2 t41 (e.s k34 6)) fun t43 =>
 bd (fa 0 t43) fun t44 =>
 bd (ld h t44) fun t45 =>
 bf (apZ 97 1 2 h t36 t45) fun t46 h1 =>
 bd (fa 0 (e.s k34 7)) fun t47 =>
 bf (stZ 1 h1 t47 t46) fun _ h2 =>
 ck (ld h t35) t36 (ck (ld h t37) t38 (ck (ld h t40) t41 (ck (ld h t44) t45 (some ⟨.nm,ux34 e 0 (e.s k34 0),h2⟩))))) fun e h =>
 bd (ldn 2 h (e.s k34 7)) fun t49 =>
 bf (bs h 76 1 [.nils,(.int .i64 0)] [(some (0,2),t49)]) fun t50 h1 =>
 bf (apZ 76 2 32 h1 (e.s k34 5) t50) fun t51 h2 =>
 some ⟨.nm,(ux34 e 5 t51).st 5 t51,h2⟩)) fun e h =>
 bd (binK 0 .add (e.s k34 6) (.int .i64 1)) fun t24 =>
 some ⟨.nm,(ux34 e 6 t24).st 6 t24,h⟩
def l34_1 (K:Oracle) (L:Looper) (e:E) (h:H):Out :=
 sq (sq (bd (fa 0 (e.s k34 1)) fun t9 =>
 bd (ld h t9) fun t10 =>
 bd (lnS t10) fun t11 =>
 bd (binK 0 .lss (e.s k34 4) t11) fun t12 =>
 some ⟨.nm,ux34 e 12 t12,h⟩) fun e h =>
 br (e.s k34 12) (some ⟨.nm,e,h⟩)
 (some ⟨.ex 0,e,h⟩)) fun e h =>
 sq (blk 1 (sq (some ⟨.nm,(ux34 e 5 .nils).st 5 .nils,h⟩) fun e h =>
 sq (sq (some ⟨.nm,(ux34 e 6 (.int .i64 0)).st 6 (.int .i64 0),h⟩) fun e h =>
 blk 2 (L (l34_0 K L) e h)) fun e h =>
 bd (fa 0 (e.s k34 3)) fun t52 =>
 bd (ld h t52) fun t53 =>
 bf (bs h 73 1 [.nils] [(some (0,1),(e.s k34 5))]) fun t55 h1 =>
 bf (apZ 73 1 24 h1 t53 t55) fun t56 h2 =>
 bd (fa 0 (e.s k34 3)) fun t57 =>
 bf (stZ 1 h2 t57 t56) fun _ h3 =>
 some ⟨.nm,ux34 e 0 (e.s k34 0),h3⟩)) fun e h =>
 bd (binK 0 .add (e.s k34 4) (.int .i64 1)) fun t14 =>
 some ⟨.nm,(ux34 e 4 t14).st 4 t14,h⟩
def s34 (K:Oracle) (L:Looper) (e:E) (h:H):Out :=
 sq (bf (bx h 29 (e.s k34 0)) fun t1 h1 =>
 bf (nw h1 29 [.nils]) fun t2 h2 =>
 some ⟨.nm,((ux34 e 2 t2).st 1 t1).st 2 t2,h2⟩) fun e h =>
 sq (bf (nw h 29 [.nils]) fun t3 h1 =>
 some ⟨.nm,(ux34 e 3 t3).st 3 t3,h1⟩) fun e h =>
 sq (sq (some ⟨.nm,(ux34 e 4 (.int .i64 0)).st 4 (.int .i64 0),h⟩) fun e h =>
 blk 0 (L (l34_1 K L) e h)) fun e h =>
 sq (bd (ldn 1 h (e.s k34 3)) fun t58 =>
 bf (stZ 1 h (e.s k34 2) t58) fun _ h1 =>
 some ⟨.nm,ux34 e 0 (e.s k34 0),h1⟩) fun e h =>
 some ⟨.rt,e,h⟩
def f34 (K:Oracle) (L:Looper) (p0:V) (h:H):Option (Rv × H):=fin Tryz.prog k34 [.cell 2 29] (s34 K L ⟨[p0,V.und,V.und,V.und,V.und,V.und,V.und,V.und],0,p0⟩ h)
theorem r34:(fun K L p0 h=>runFF Tryz.prog kp K L 34 [p0] h)=f34:=by kernel_rfl
@[simp] def k35:List Nat:=[0]
def s35 (K:Oracle) (L:Looper) (e:E) (h:H):Out :=
 sq (some ⟨.nm,⟨[.nils],0,.nils⟩,h⟩) fun e h =>
 sq (bd (bl [(.int .i64 0),(.int .i64 0),(.int .i64 0)] [(some (0,1),(.int .i64 8)),(some (1,1),(.int .i64 10)),(some (2,1),(.int .i64 0))]) fun t1 =>
 bd (bl [(.int .i64 0),(.int .i64 0),(.int .i64 0)] [(some (0,1),(.int .i64 4)),(some (1,1),(.int .i64 8)),(some (2,1),(.int .i64 0))]) fun t2 =>
 bd (bl [(.int .i64 0),(.int .i64 0),(.int .i64 0)] [(some (0,1),(.int .i64 3)),(some (1,1),(.int .i64 2)),(some (2,1),(.int .i64 0))]) fun t3 =>
 bd (bl [(.int .i64 0),(.int .i64 0),(.int .i64 0)] [(some (0,1),(.int .i64 3)),(some (1,1),(.int .i64 2)),(some (2,1),(.int .i64 0))]) fun t4 =>
 bd (bl [(.int .i64 0),(.int .i64 0),(.int .i64 0)] [(some (0,1),(.int .i64 4)),(some (1,1),(.int .i64 13)),(some (2,1),(.int .i64 0))]) fun t5 =>
 bd (bl [(.int .i64 0),(.int .i64 0),(.int .i64 0)] [(some (0,1),(.int .i64 8)),(some (1,1),(.int .i64 7)),(some (2,1),(.int .i64 0))]) fun t6 =>
 bd (bl [(.int .i64 0),(.int .i64 0),(.int .i64 0)] [(some (0,1),(.int .i64 1)),(some (1,1),(.int .i64 13)),(some (2,1),(.int .i64 0))]) fun t7 =>
 bd (bl [(.int .i64 0),(.int .i64 0),(.int .i64 0)] [(some (0,1),(.int .i64 1)),(some (1,1),(.int .i64 14)),(some (2,1),(.int .i64 0))]) fun t8 =>
 bd (bl [(.int .i64 0),(.int .i64 0),(.int .i64 0)] [(some (0,1),(.int .i64 1)),(some (1,1),(.int .i64 8)),(some (2,1),(.int .i64 0))]) fun t9 =>
 bd (bl [(.int .i64 0),(.int .i64 0),(.int .i64 0)] [(some (0,1),(.int .i64 2)),(some (1,1),(.int .i64 16)),(some (2,1),(.int .i64 1))]) fun t10 =>
 bd (bl [(.int .i64 0),(.int .i64 0),(.int .i64 0)] [(some (0,1),(.int .i64 1)),(some (1,1),(.int .i64 2)),(some (2,1),(.int .i64 0))]) fun t11 =>
 bd (bl [(.int .i64 0),(.int .i64 0),(.int .i64 0)] [(some (0,1),(.int .i64 3)),(some (1,1),(.int .i64 3)),(some (2,1),(.int .i64 0))]) fun t12 =>
 bd (bl [(.int .i64 0),(.int .i64 0),(.int .i64 0)] [(some (0,1),(.int .i64 3)),(some (1,1),(.int .i64 9)),(some (2,1),(.int .i64 0))]) fun t13 =>
 bd (bl [(.int .i64 0),(.int .i64 0),(.int .i64 0)] [(some (0,1),(.int .i64 1)),(some (1,1),(.int .i64 2)),(some (2,1),(.int .i64 0))]) fun t14 =>
 bd (bl [(.int .i64 0),(.int .i64 0),(.int .i64 0)] [(some (0,1),(.int .i64 3)),(some (1,1),(.int .i64 3)),(some (2,1),(.int .i64 0))]) fun t15 =>
 bd (bl [(.int .i64 0),(.int .i64 0),(.int .i64 0)] [(some (0,1),(.int .i64 1)),(some (1,1),(.int .i64 2)),(some (2,1),(.int .i64 0))]) fun t16 =>
 bd (bl [(.int .i64 0),(.int .i64 0),(.int .i64 0)] [(some (0,1),(.int .i64 3)),(some (1,1),(.int .i64 4)),(some (2,1),(.int .i64 0))]) fun t17 =>
 bd (bl [(.int .i64 0),(.int .i64 0),(.int .i64 0)] [(some (0,1),(.int .i64 1)),(some (1,1),(.int .i64 4)),(some (2,1),(.int .i64 0))]) fun t18 =>
 bd (bl [(.int .i64 0),(.int .i64 0),(.int .i64 0)] [(some (0,1),(.int .i64 2)),(some (1,1),(.int .i64 11)),(some (2,1),(.int .i64 1))]) fun t19 =>
 bd (bl [(.int .i64 0),(.int .i64 0),(.int .i64 0)] [(some (0,1),(.int .i64 2)),(some (1,1),(.int .i64 8)),(some (2,1),(.int .i64 0))]) fun t20 =>
 bd (bl [(.int .i64 0),(.int .i64 0),(.int .i64 0)] [(some (0,1),(.int .i64 1)),(some (1,1),(.int .i64 3)),(some (2,1),(.int .i64 0))]) fun t21 =>
 bd (bl [(.int .i64 0),(.int .i64 0),(.int .i64 0)] [(some (0,1),(.int .i64 1)),(some (1,1),(.int .i64 2)),(some (2,1),(.int .i64 0))]) fun t22 =>
 bd (bl [(.int .i64 0),(.int .i64 0),(.int .i64 0)] [(some (0,1),(.int .i64 4)),(some (1,1),(.int .i64 2)),(some (2,1),(.int .i64 0))]) fun t23 =>
 bd (bl [(.int .i64 0),(.int .i64 0),(.int .i64 0)] [(some (0,1),(.int .i64 2)),(some (1,1),(.int .i64 5)),(some (2,1),(.int .i64 0))]) fun t24 =>
 bd (bl [(.int .i64 0),(.int .i64 0),(.int .i64 0)] [(some (0,1),(.int .i64 2)),(some (1,1),(.int .i64 7)),(some (2,1),(.int .i64 0))]) fun t25 =>
 bd (bl [(.int .i64 0),(.int .i64 0),(.int .i64 0)] [(some (0,1),(.int .i64 2)),(some (1,1),(.int .i64 9)),(some (2,1),(.int .i64 0))]) fun t26 =>
 bd (bl [(.int .i64 0),(.int .i64 0),(.int .i64 0)] [(some (0,1),(.int .i64 2)),(some (1,1),(.int .i64 11)),(some (2,1),(.int .i64 0))]) fun t27 =>
 bd (bl [(.int .i64 0),(.int .i64 0),(.int .i64 0)] [(some (0,1),(.int .i64 2)),(some (1,1),(.int .i64 3)),(some (2,1),(.int .i64 1))]) fun t28 =>
 bd (bl [(.int .i64 0),(.int .i64 0),(.int .i64 0)] [(some (0,1),(.int .i64 10)),(some (1,1),(.int .i64 4)),(some (2,1),(.int .i64 1))]) fun t29 =>
 bd (bl [(.int .i64 0),(.int .i64 0),(.int .i64 0)] [(some (0,1),(.int .i64 14)),(some (1,1),(.int .i64 4)),(some (2,1),(.int .i64 1))]) fun t30 =>
 bd (bl [(.int .i64 0),(.int .i64 0),(.int .i64 0)] [(some (0,1),(.int .i64 6)),(some (1,1),(.int .i64 2)),(some (2,1),(.int .i64 0))]) fun t31 =>
 bd (bl [(.int .i64 0),(.int .i64 0),(.int .i64 0)] [(some (0,1),(.int .i64 3)),(some (1,1),(.int .i64 2)),(some (2,1),(.int .i64 0))]) fun t32 =>
 bf (bs h 81 32 (List.replicate 96 (.int .i64 0)) [(some (0,3),t1),(some (3,3),t2),(some (6,3),t3),(some (9,3),t4),(some (12,3),t5),(some (15,3),t6),(some (18,3),t7),(some (21,3),t8),(some (24,3),t9),(some (27,3),t10),(some (30,3),t11),(some (33,3),t12),(some (36,3),t13),(some (39,3),t14),(some (42,3),t15),(some (45,3),t16),(some (48,3),t17),(some (51,3),t18),(some (54,3),t19),(some (57,3),t20),(some (60,3),t21),(some (63,3),t22),(some (66,3),t23),(some (69,3),t24),(some (72,3),t25),(some (75,3),t26),(some (78,3),t27),(some (81,3),t28),(some (84,3),t29),(some (87,3),t30),(some (90,3),t31),(some (93,3),t32)]) fun t33 h1 =>
 some ⟨.nm,⟨[t33],0,t33⟩,h1⟩) fun e h =>
 some ⟨.rt,e,h⟩
def f35 (K:Oracle) (L:Looper) (h:H):Option (Rv × H):=fin Tryz.prog k35 [.tmp 0] (s35 K L ⟨[V.und],0,V.und⟩ h)
theorem r35:(fun K L h=>runFF Tryz.prog kp K L 35 [] h)=f35:=by kernel_rfl
@[simp] def k36:List Nat:=[0,2,3,4,5]
@[simp] def ux36 (e:E) (t:Nat) (v:V):E:=⟨[e.s k36 0,e.s k36 2,e.s k36 3,e.s k36 4,e.s k36 5],t,v⟩
def l36_0 (K:Oracle) (L:Looper) (e:E) (h:H):Out :=
 sq (sq (bd (binK 0 .lss (e.s k36 5) (e.s k36 0)) fun t15 =>
 some ⟨.nm,ux36 e 15 t15,h⟩) fun e h =>
 br (e.s k36 15) (some ⟨.nm,e,h⟩)
 (some ⟨.ex 0,e,h⟩)) fun e h =>
 sq (blk 1 (bd (fa 0 (e.s k36 4)) fun t18 =>
 bd (ld h t18) fun t19 =>
 bd (binK 0 .add (e.s k36 5) (.int .i64 1)) fun t21 =>
 bd (binK 0 .mul (.int .i64 32768) t21) fun t22 =>
 bd (binK 0 .quo t22 (e.s k36 0)) fun t24 =>
 bd (cv .u16 t24) fun t25 =>
 bf (bs h 97 1 [(.int .u16 0)] [(some (0,1),t25)]) fun t26 h1 =>
 bf (apZ 97 1 2 h1 t19 t26) fun t27 h2 =>
 bd (fa 0 (e.s k36 4)) fun t28 =>
 bf (stZ 1 h2 t28 t27) fun _ h3 =>
 ck (ld h t18) t19 (some ⟨.nm,ux36 e 0 (e.s k36 0),h3⟩))) fun e h =>
 bd (binK 0 .add (e.s k36 5) (.int .i64 1)) fun t17 =>
 some ⟨.nm,(ux36 e 5 t17).st 4 t17,h⟩
def s36 (K:Oracle) (L:Looper) (e:E) (h:H):Out :=
 sq (bf (nw h 76 [.nils,(.int .i64 0)]) fun t2 h1 =>
 some ⟨.nm,((ux36 e 3 (.int .i64 0)).st 1 t2).st 2 (.int .i64 0),h1⟩) fun e h =>
 sq (sq (bd (binK 0 .lss (e.s k36 0) (.int .i64 2)) fun t7 =>
 bd (gl t7 false (some (e.s k36 0))) fun t9 =>
 bd (gl t7 false (binK 0 .gtr t9 (.int .i64 16))) fun t10 =>
 bd (pk t7 (.bool true) t10) fun t11 =>
 some ⟨.nm,ux36 e 11 t11,h⟩) fun e h =>
 br (e.s k36 11) (sq (bd (bl [.nils,(.int .i64 0)] []) fun t12 =>
 bf (stZ 2 h (e.s k36 2) t12) fun _ h1 =>
 some ⟨.nm,(ux36 e 3 (.int .i64 2)).st 2 (.int .i64 2),h1⟩) fun e h =>
 some ⟨.rt,e,h⟩)
 (some ⟨.nm,e,h⟩)) fun e h =>
 sq (bf (nw h 76 [.nils,(.int .i64 0)]) fun t4 h1 =>
 some ⟨.nm,(ux36 e 4 t4).st 3 t4,h1⟩) fun e h =>
 sq (sq (some ⟨.nm,(ux36 e 5 (.int .i64 0)).st 4 (.int .i64 0),h⟩) fun e h =>
 blk 0 (L (l36_0 K L) e h)) fun e h =>
 sq (bd (ldn 2 h (e.s k36 4)) fun t29 =>
 bf (stZ 2 h (e.s k36 2) t29) fun _ h1 =>
 some ⟨.nm,(ux36 e 3 (.int .i64 0)).st 2 (.int .i64 0),h1⟩) fun e h =>
 some ⟨.rt,e,h⟩
def f36 (K:Oracle) (L:Looper) (p0:V) (h:H):Option (Rv × H):=fin Tryz.prog k36 [.cell 2 76,.tmp 3] (s36 K L ⟨[p0,V.und,V.und,V.und,V.und],0,p0⟩ h)
theorem r36:(fun K L p0 h=>runFF Tryz.prog kp K L 36 [p0] h)=f36:=by kernel_rfl
@[simp] def k37:List Nat:=[0,2,3,4,5,6]
@[simp] def ux37 (e:E) (t:Nat) (v:V):E:=⟨[e.s k37 0,e.s k37 2,e.s k37 3,e.s k37 4,e.s k37 5,e.s k37 6],t,v⟩
def l37_0 (K:Oracle) (L:Looper) (e:E) (h:H):Out :=
 sq (sq (bd (binK 0 .sub (e.s k37 0) (.int .i64 1)) fun t16 =>
 bd (binK 0 .lss (e.s k37 6) t16) fun t17 =>
 some ⟨.nm,ux37 e 17 t17,h⟩) fun e h =>
 br (e.s k37 17) (some ⟨.nm,e,h⟩)
 (some ⟨.ex 0,e,h⟩)) fun e h =>
 sq (blk 1 (sq (bd (binK 0 .quo (e.s k37 5) (.int .i64 2)) fun t21 =>
 some ⟨.nm,(ux37 e 5 t21).st 4 t21,h⟩) fun e h =>
 bd (fa 0 (e.s k37 4)) fun t22 =>
 bd (ld h t22) fun t23 =>
 bd (binK 0 .sub (.int .i64 32768) (e.s k37 5)) fun t25 =>
 bd (cv .u16 t25) fun t26 =>
 bf (bs h 97 1 [(.int .u16 0)] [(some (0,1),t26)]) fun t27 h1 =>
 bf (apZ 97 1 2 h1 t23 t27) fun t28 h2 =>
 bd (fa 0 (e.s k37 4)) fun t29 =>
 bf (stZ 1 h2 t29 t28) fun _ h3 =>
 some ⟨.nm,ux37 e 0 (e.s k37 0),h3⟩)) fun e h =>
 bd (binK 0 .add (e.s k37 6) (.int .i64 1)) fun t19 =>
 some ⟨.nm,(ux37 e 6 t19).st 5 t19,h⟩
def s37 (K:Oracle) (L:Looper) (e:E) (h:H):Out :=
 sq (bf (nw h 76 [.nils,(.int .i64 0)]) fun t2 h1 =>
 some ⟨.nm,((ux37 e 3 (.int .i64 0)).st 1 t2).st 2 (.int .i64 0),h1⟩) fun e h =>
 sq (sq (bd (binK 0 .lss (e.s k37 0) (.int .i64 2)) fun t8 =>
 bd (gl t8 false (some (e.s k37 0))) fun t10 =>
 bd (gl t8 false (binK 0 .gtr t10 (.int .i64 16))) fun t11 =>
 bd (pk t8 (.bool true) t11) fun t12 =>
 some ⟨.nm,ux37 e 12 t12,h⟩) fun e h =>
 br (e.s k37 12) (sq (bd (bl [.nils,(.int .i64 0)] []) fun t13 =>
 bf (stZ 2 h (e.s k37 2) t13) fun _ h1 =>
 some ⟨.nm,(ux37 e 3 (.int .i64 2)).st 2 (.int .i64 2),h1⟩) fun e h =>
 some ⟨.rt,e,h⟩)
 (some ⟨.nm,e,h⟩)) fun e h =>
 sq (bf (nw h 76 [.nils,(.int .i64 0)]) fun t4 h1 =>
 some ⟨.nm,(ux37 e 4 t4).st 3 t4,h1⟩) fun e h =>
 sq (some ⟨.nm,(ux37 e 5 (.int .i64 32768)).st 4 (.int .i64 32768),h⟩) fun e h =>
 sq (sq (some ⟨.nm,(ux37 e 6 (.int .i64 0)).st 5 (.int .i64 0),h⟩) fun e h =>
 blk 0 (L (l37_0 K L) e h)) fun e h =>
 sq (bd (fa 0 (e.s k37 4)) fun t30 =>
 bd (ld h t30) fun t31 =>
 bf (bs h 97 1 [(.int .u16 0)] [(some (0,1),(.int .u16 32768))]) fun t32 h1 =>
 bf (apZ 97 1 2 h1 t31 t32) fun t33 h2 =>
 bd (fa 0 (e.s k37 4)) fun t34 =>
 bf (stZ 1 h2 t34 t33) fun _ h3 =>
 some ⟨.nm,ux37 e 0 (e.s k37 0),h3⟩) fun e h =>
 sq (bd (ldn 2 h (e.s k37 4)) fun t35 =>
 bf (stZ 2 h (e.s k37 2) t35) fun _ h1 =>
 some ⟨.nm,(ux37 e 3 (.int .i64 0)).st 2 (.int .i64 0),h1⟩) fun e h =>
 some ⟨.rt,e,h⟩
def f37 (K:Oracle) (L:Looper) (p0:V) (h:H):Option (Rv × H):=fin Tryz.prog k37 [.cell 2 76,.tmp 3] (s37 K L ⟨[p0,V.und,V.und,V.und,V.und,V.und],0,p0⟩ h)
theorem r37:(fun K L p0 h=>runFF Tryz.prog kp K L 37 [p0] h)=f37:=by kernel_rfl
@[simp] def k38:List Nat:=[0,1,2,6,7,8,9,10,11,36,37]
@[simp] def ux38 (e:E) (t:Nat) (v:V):E:=⟨[e.s k38 0,e.s k38 1,e.s k38 2,e.s k38 6,e.s k38 7,e.s k38 8,e.s k38 9,e.s k38 10,e.s k38 11,e.s k38 36,e.s k38 37],t,v⟩
def l38_0 (K:Oracle) (L:Looper) (e:E) (h:H):Out :=
 sq (bd (binK 0 .lss (e.s k38 37) (e.s k38 36)) fun t38 =>
 some ⟨.nm,ux38 e 38 t38,h⟩) fun e h =>
 sq (br (e.s k38 38) (some ⟨.nm,e,h⟩)
 (some ⟨.ex 1,e,h⟩)) fun e h =>
 sq (blk 2 (sq (some ⟨.nm,(ux38 e 9 (e.s k38 37)).st 6 (e.s k38 37),h⟩) fun e h =>
 sq (bd (binK 0 .sub (e.s k38 1) (.int .i64 1)) fun t44 =>
 bd (binK 0 .sub t44 (e.s k38 9)) fun t46 =>
 bd (binK 0 .shr (e.s k38 2) t46) fun t47 =>
 bd (binK 0 .and t47 (.int .i64 1)) fun t48 =>
 bc k38 [41,42,43,44,45,46,47,48,49,40,50,51,10,11] e (K 67 [e.s k38 0,t48] h) fun t49 h1 =>
 bd (exV t49 0) fun t50 =>
 bd (exV t49 1) fun t51 =>
 some ⟨.nm,((ux38 e 11 t51).st 7 t50).st 8 t51,h1⟩) fun e h =>
 sq (sq (bd (binK 0 .neq (e.s k38 11) (.int .i64 0)) fun t53 =>
 some ⟨.nm,ux38 e 53 t53,h⟩) fun e h =>
 br (e.s k38 53) (sq (some ⟨.nm,((ux38 e 7 (e.s k38 11)).st 3 (.int .i64 0)).st 4 (e.s k38 11),h⟩) fun e h =>
 some ⟨.rt,e,h⟩)
 (some ⟨.nm,e,h⟩)) fun e h =>
 bd (binK 0 .shl (e.s k38 8) (.int .u64 1)) fun t56 =>
 bd (binK 0 .or t56 (e.s k38 10)) fun t58 =>
 some ⟨.nm,(ux38 e 8 t58).st 5 t58,h⟩)) fun e h =>
 bd (binK 0 .add (e.s k38 37) (.int .i64 1)) fun t59 =>
 some ⟨.nm,(ux38 e 37 t59).st 10 t59,h⟩
def s38 (K:Oracle) (L:Looper) (e:E) (h:H):Out :=
 sq (some ⟨.nm,((ux38 e 7 (.int .i64 0)).st 3 (.int .i64 0)).st 4 (.int .i64 0),h⟩) fun e h =>
 sq (blk 0 (sq (bc k38 [13,14,12] e (K 56 [e.s k38 0] h) fun t14 h1 =>
 some ⟨.nm,ux38 e 12 t14,h1⟩) fun e h =>
 br (e.s k38 12) (sq (some ⟨.nm,((ux38 e 7 (.int .i64 1)).st 3 (.int .i64 0)).st 4 (.int .i64 1),h⟩) fun e h =>
 some ⟨.rt,e,h⟩)
 (sq (bd (binK 0 .lss (e.s k38 1) (.int .i64 0)) fun t17 =>
 bd (gl t17 false (some (e.s k38 1))) fun t19 =>
 bd (gl t17 false (binK 0 .gtr t19 (.int .i64 30))) fun t20 =>
 bd (pk t17 (.bool true) t20) fun t21 =>
 bd (gl t21 false (some (e.s k38 0))) fun t23 =>
 bc k38 [16,17,18,19,20,21,22,23,24,25,26,27,28,29,30,31,32,33,34,35,15] e (gk t21 false h (K 40 [t23] h)) fun t24 h1 =>
 bd (gl t21 false (some t24)) fun t25 =>
 bd (gl t25 true (some (e.s k38 2))) fun t26 =>
 bd (gl t25 true (binK 0 .lss t26 (.int .i64 0))) fun t27 =>
 bd (gl t25 true (some t27)) fun t28 =>
 bd (gl t28 false (some (e.s k38 2))) fun t29 =>
 bd (gl t28 false (some (e.s k38 1))) fun t30 =>
 bd (gl t28 false (binK 0 .shr t29 t30)) fun t31 =>
 bd (gl t28 false (binK 0 .neq t31 (.int .i64 0))) fun t32 =>
 bd (gl t25 true (pk t28 (.bool true) t32)) fun t33 =>
 bd (gl t21 false (pk t25 t33 (.bool false))) fun t34 =>
 bd (pk t21 (.bool true) t34) fun t35 =>
 some ⟨.nm,ux38 e 15 t35,h1⟩) fun e h =>
 br (e.s k38 15) (sq (some ⟨.nm,((ux38 e 7 (.int .i64 2)).st 3 (.int .i64 0)).st 4 (.int .i64 2),h⟩) fun e h =>
 some ⟨.rt,e,h⟩)
 (some ⟨.nm,e,h⟩)))) fun e h =>
 sq (some ⟨.nm,(ux38 e 8 (.int .i64 0)).st 5 (.int .i64 0),h⟩) fun e h =>
 sq (sq (some ⟨.nm,((ux38 e 37 (.int .i64 0)).st 9 (e.s k38 1)).st 10 (.int .i64 0),h⟩) fun e h =>
 blk 1 (L (l38_0 K L) e h)) fun e h =>
 sq (bd (nilC (e.s k38 0)) fun t61 =>
 bd (fa 4 t61) fun t62 =>
 bd (ld h t62) fun t63 =>
 bd (binK 0 .add t63 (e.s k38 1)) fun t65 =>
 bd (nilC (e.s k38 0)) fun t66 =>
 bd (fa 4 t66) fun t67 =>
 bf (stZ 1 h t67 t65) fun _ h1 =>
 some ⟨.nm,ux38 e 0 (e.s k38 0),h1⟩) fun e h =>
 sq (some ⟨.nm,((ux38 e 7 (.int .i64 0)).st 3 (e.s k38 8)).st 4 (.int .i64 0),h⟩) fun e h =>
 some ⟨.rt,e,h⟩
def f38 (K:Oracle) (L:Looper) (p0 p1 p2:V) (h:H):Option (Rv × H):=fin Tryz.prog k38 [.tmp 6,.tmp 7] (s38 K L ⟨[p0,p1,p2,V.und,V.und,V.und,V.und,V.und,V.und,V.und,V.und],0,p0⟩ h)
theorem r38:(fun K L p0 p1 p2 h=>runFF Tryz.prog kp K L 38 [p0,p1,p2] h)=f38:=by kernel_rfl
@[simp] def k39:List Nat:=[0,2,3,4,5,6,7,8]
@[simp] def ux39 (e:E) (t:Nat) (v:V):E:=⟨[e.s k39 0,e.s k39 2,e.s k39 3,e.s k39 4,e.s k39 5,e.s k39 6,e.s k39 7,e.s k39 8],t,v⟩
def l39_0 (K:Oracle) (L:Looper) (e:E) (h:H):Out :=
 sq (blk 3 (sq (bd (binK 0 .sub (e.s k39 6) (e.s k39 7)) fun t28 =>
 some ⟨.nm,(ux39 e 8 t28).st 7 t28,h⟩) fun e h =>
 sq (blk 4 (sq (bd (binK 0 .eql (e.s k39 7) (e.s k39 4)) fun t32 =>
 bd (gl t32 true (some (e.s k39 6))) fun t34 =>
 bd (gl t32 true (some (e.s k39 4))) fun t35 =>
 bd (gl t32 true (binK 0 .mul (.int .i64 2) t35)) fun t36 =>
 bd (gl t32 true (binK 0 .sub t36 (.int .i64 1))) fun t37 =>
 bd (gl t32 true (binK 0 .eql t34 t37)) fun t38 =>
 bd (pk t32 t38 (.bool false)) fun t39 =>
 some ⟨.nm,ux39 e 29 t39,h⟩) fun e h =>
 br (e.s k39 29) (some ⟨.ex 0,e,h⟩)
 (sq (bd (binK 0 .eql (e.s k39 7) (e.s k39 4)) fun t43 =>
 bd (gl t43 false (some (e.s k39 8))) fun t45 =>
 bd (gl t43 false (binK 0 .lss t45 (.int .i64 0))) fun t46 =>
 bd (pk t43 (.bool true) t46) fun t47 =>
 some ⟨.nm,ux39 e 40 t47,h⟩) fun e h =>
 br (e.s k39 40) (some ⟨.ex 1,e,h⟩)
 (some ⟨.nm,e,h⟩)))) fun e h =>
 bd (binK 0 .mul (e.s k39 7) (e.s k39 4)) fun t51 =>
 bd (binK 0 .add t51 (e.s k39 8)) fun t53 =>
 bf (bs h 3 1 [(.int .i64 0)] [(some (0,1),t53)]) fun t54 h1 =>
 bf (apZ 3 1 8 h1 (e.s k39 5) t54) fun t55 h2 =>
 some ⟨.nm,(ux39 e 5 t55).st 4 t55,h2⟩)) fun e h =>
 bd (binK 0 .add (e.s k39 7) (.int .i64 1)) fun t25 =>
 some ⟨.nm,(ux39 e 7 t25).st 6 t25,h⟩
def l39_1 (K:Oracle) (L:Looper) (e:E) (h:H):Out :=
 sq (blk 1 (sq (bd (binK 0 .sub (e.s k39 6) (e.s k39 4)) fun t21 =>
 bd (binK 0 .add t21 (.int .i64 1)) fun t22 =>
 bd (maxV [(.int .i64 0),t22]) fun t23 =>
 some ⟨.nm,(ux39 e 7 t23).st 6 t23,h⟩) fun e h =>
 blk 2 (L (l39_0 K L) e h))) fun e h =>
 bd (binK 0 .add (e.s k39 6) (.int .i64 1)) fun t18 =>
 some ⟨.nm,(ux39 e 6 t18).st 5 t18,h⟩
def s39 (K:Oracle) (L:Looper) (e:E) (h:H):Out :=
 sq (some ⟨.nm,((ux39 e 3 (.int .i64 0)).st 1 .nils).st 2 (.int .i64 0),h⟩) fun e h =>
 sq (bc k39 [9,10,4] e (K 68 [e.s k39 0] h) fun t10 h1 =>
 some ⟨.nm,(ux39 e 4 t10).st 3 t10,h1⟩) fun e h =>
 sq (sq (bd (binK 0 .eql (e.s k39 4) (.int .i64 0)) fun t12 =>
 some ⟨.nm,ux39 e 12 t12,h⟩) fun e h =>
 br (e.s k39 12) (sq (some ⟨.nm,((ux39 e 3 (.int .i64 2)).st 1 .nils).st 2 (.int .i64 2),h⟩) fun e h =>
 some ⟨.rt,e,h⟩)
 (some ⟨.nm,e,h⟩)) fun e h =>
 sq (bd (binK 0 .mul (e.s k39 4) (e.s k39 4)) fun t15 =>
 bf (ms h 3 8 [(.int .i64 0)] (.int .i64 0) t15) fun t16 h1 =>
 some ⟨.nm,(ux39 e 5 t16).st 4 t16,h1⟩) fun e h =>
 sq (some ⟨.nm,e,h⟩) fun e h =>
 sq (sq (some ⟨.nm,(ux39 e 6 (.int .i64 0)).st 5 (.int .i64 0),h⟩) fun e h =>
 blk 0 (L (l39_1 K L) e h)) fun e h =>
 sq (some ⟨.nm,((ux39 e 3 (.int .i64 0)).st 1 (e.s k39 5)).st 2 (.int .i64 0),h⟩) fun e h =>
 some ⟨.rt,e,h⟩
def f39 (K:Oracle) (L:Looper) (p0:V) (h:H):Option (Rv × H):=fin Tryz.prog k39 [.tmp 2,.tmp 3] (s39 K L ⟨[p0,V.und,V.und,V.und,V.und,V.und,V.und,V.und],0,p0⟩ h)
theorem r39:(fun K L p0 h=>runFF Tryz.prog kp K L 39 [p0] h)=f39:=by kernel_rfl
@[simp] def k40:List Nat:=[0,2]
@[simp] def ux40 (e:E) (t:Nat) (v:V):E:=⟨[e.s k40 0,e.s k40 2],t,v⟩
def s40 (K:Oracle) (L:Looper) (e:E) (h:H):Out :=
 sq (some ⟨.nm,(ux40 e 2 (.bool false)).st 1 (.bool false),h⟩) fun e h =>
 sq (bd (binK 2 .neq (e.s k40 0) .nilp) fun t4 =>
 bd (gl t4 true (some (e.s k40 0))) fun t6 =>
 bd (gl t4 true (nilC t6)) fun t7 =>
 bd (gl t4 true (fa 0 t7)) fun t8 =>
 bd (gl t4 true (ld h t8)) fun t9 =>
 bd (gl t4 true (binK 2 .neq t9 .nilp)) fun t10 =>
 bd (pk t4 t10 (.bool false)) fun t11 =>
 some ⟨.nm,(ux40 e 2 t11).st 1 t11,h⟩) fun e h =>
 some ⟨.rt,e,h⟩
def f40 (K:Oracle) (L:Looper) (p0:V) (h:H):Option (Rv × H):=fin Tryz.prog k40 [.tmp 2] (s40 K L ⟨[p0,V.und],0,p0⟩ h)
theorem r40:(fun K L p0 h=>runFF Tryz.prog kp K L 40 [p0] h)=f40:=by kernel_rfl
@[simp] def k41:List Nat:=[0,2,3,4]
@[simp] def ux41 (e:E) (t:Nat) (v:V):E:=⟨[e.s k41 0,e.s k41 2,e.s k41 3,e.s k41 4],t,v⟩
def l41_0 (K:Oracle) (L:Looper) (e:E) (h:H):Out :=
 sq (sq (bd (lnS (e.s k41 0)) fun t14 =>
 bd (binK 0 .lss (e.s k41 4) t14) fun t15 =>
 some ⟨.nm,ux41 e 15 t15,h⟩) fun e h =>
 br (e.s k41 15) (some ⟨.nm,e,h⟩)
 (some ⟨.ex 0,e,h⟩)) fun e h =>
 sq (blk 1 (bd (iaS 1 (e.s k41 0) (e.s k41 4)) fun t21 =>
 bd (ld h t21) fun t22 =>
 bd (maxV [e.s k41 3,t22]) fun t23 =>
 some ⟨.nm,(ux41 e 3 t23).st 2 t23,h⟩)) fun e h =>
 bd (binK 0 .add (e.s k41 4) (.int .i64 1)) fun t17 =>
 some ⟨.nm,(ux41 e 4 t17).st 3 t17,h⟩
def s41 (K:Oracle) (L:Looper) (e:E) (h:H):Out :=
 sq (some ⟨.nm,(ux41 e 2 (.int .i64 0)).st 1 (.int .i64 0),h⟩) fun e h =>
 sq (sq (bd (lnS (e.s k41 0)) fun t6 =>
 bd (binK 0 .lss t6 (.int .i64 1)) fun t7 =>
 some ⟨.nm,ux41 e 7 t7,h⟩) fun e h =>
 br (e.s k41 7) (bd (some (.iface 9 (.str [115,108,105,99,101,115,46,77,97,120,58,32,101,109,112,116,121,32,108,105,115,116]))) fun t8 =>
 bc k41 [8] e (panV t8 h) fun _ h1 =>
 some ⟨.nm,ux41 e 0 (e.s k41 0),h1⟩)
 (some ⟨.nm,e,h⟩)) fun e h =>
 sq (bd (iaS 1 (e.s k41 0) (.int .i64 0)) fun t10 =>
 bd (ld h t10) fun t11 =>
 some ⟨.nm,(ux41 e 3 t11).st 2 t11,h⟩) fun e h =>
 sq (sq (some ⟨.nm,(ux41 e 4 (.int .i64 1)).st 3 (.int .i64 1),h⟩) fun e h =>
 blk 0 (L (l41_0 K L) e h)) fun e h =>
 sq (some ⟨.nm,(ux41 e 2 (e.s k41 3)).st 1 (e.s k41 3),h⟩) fun e h =>
 some ⟨.rt,e,h⟩
def f41 (K:Oracle) (L:Looper) (p0:V) (h:H):Option (Rv × H):=fin Tryz.prog k41 [.tmp 2] (s41 K L ⟨[p0,V.und,V.und,V.und],0,p0⟩ h)
theorem r41:(fun K L p0 h=>runFF Tryz.prog kp K L 41 [p0] h)=f41:=by kernel_rfl
@[simp] def k42:List Nat:=[0,2,3,4]
@[simp] def ux42 (e:E) (t:Nat) (v:V):E:=⟨[e.s k42 0,e.s k42 2,e.s k42 3,e.s k42 4],t,v⟩
def l42_0 (K:Oracle) (L:Looper) (e:E) (h:H):Out :=
 sq (sq (bd (lnS (e.s k42 0)) fun t14 =>
 bd (binK 0 .lss (e.s k42 4) t14) fun t15 =>
 some ⟨.nm,ux42 e 15 t15,h⟩) fun e h =>
 br (e.s k42 15) (some ⟨.nm,e,h⟩)
 (some ⟨.ex 0,e,h⟩)) fun e h =>
 sq (blk 1 (bd (iaS 1 (e.s k42 0) (e.s k42 4)) fun t21 =>
 bd (ld h t21) fun t22 =>
 bd (minV [e.s k42 3,t22]) fun t23 =>
 some ⟨.nm,(ux42 e 3 t23).st 2 t23,h⟩)) fun e h =>
 bd (binK 0 .add (e.s k42 4) (.int .i64 1)) fun t17 =>
 some ⟨.nm,(ux42 e 4 t17).st 3 t17,h⟩
def s42 (K:Oracle) (L:Looper) (e:E) (h:H):Out :=
 sq (some ⟨.nm,(ux42 e 2 (.int .i64 0)).st 1 (.int .i64 0),h⟩) fun e h =>
 sq (sq (bd (lnS (e.s k42 0)) fun t6 =>
 bd (binK 0 .lss t6 (.int .i64 1)) fun t7 =>
 some ⟨.nm,ux42 e 7 t7,h⟩) fun e h =>
 br (e.s k42 7) (bd (some (.iface 9 (.str [115,108,105,99,101,115,46,77,105,110,58,32,101,109,112,116,121,32,108,105,115,116]))) fun t8 =>
 bc k42 [8] e (panV t8 h) fun _ h1 =>
 some ⟨.nm,ux42 e 0 (e.s k42 0),h1⟩)
 (some ⟨.nm,e,h⟩)) fun e h =>
 sq (bd (iaS 1 (e.s k42 0) (.int .i64 0)) fun t10 =>
 bd (ld h t10) fun t11 =>
 some ⟨.nm,(ux42 e 3 t11).st 2 t11,h⟩) fun e h =>
 sq (sq (some ⟨.nm,(ux42 e 4 (.int .i64 1)).st 3 (.int .i64 1),h⟩) fun e h =>
 blk 0 (L (l42_0 K L) e h)) fun e h =>
 sq (some ⟨.nm,(ux42 e 2 (e.s k42 3)).st 1 (e.s k42 3),h⟩) fun e h =>
 some ⟨.rt,e,h⟩
def f42 (K:Oracle) (L:Looper) (p0:V) (h:H):Option (Rv × H):=fin Tryz.prog k42 [.tmp 2] (s42 K L ⟨[p0,V.und,V.und,V.und],0,p0⟩ h)
theorem r42:(fun K L p0 h=>runFF Tryz.prog kp K L 42 [p0] h)=f42:=by kernel_rfl
@[simp] def k44:List Nat:=[0,1,2,3,4,10,11,12]
@[simp] def ux44 (e:E) (t:Nat) (v:V):E:=⟨[e.s k44 0,e.s k44 1,e.s k44 2,e.s k44 3,e.s k44 4,e.s k44 10,e.s k44 11,e.s k44 12],t,v⟩
def l44_0 (K:Oracle) (L:Looper) (e:E) (h:H):Out :=
 sq (sq (bd (lnS (e.s k44 4)) fun t44 =>
 bd (binK 0 .lss (e.s k44 12) t44) fun t45 =>
 some ⟨.nm,ux44 e 45 t45,h⟩) fun e h =>
 br (e.s k44 45) (some ⟨.nm,e,h⟩)
 (some ⟨.ex 0,e,h⟩)) fun e h =>
 sq (blk 1 (sq (bd (iaS 1 (e.s k44 4) (e.s k44 12)) fun t50 =>
 bd (ld h t50) fun t51 =>
 bd (binK 0 .lss t51 (.int .i64 (-1048576))) fun t52 =>
 bd (gl t52 false (some (e.s k44 4))) fun t54 =>
 bd (gl t52 false (some (e.s k44 12))) fun t55 =>
 bd (gl t52 false (iaS 1 t54 t55)) fun t56 =>
 bd (gl t52 false (ld h t56)) fun t57 =>
 bd (gl t52 false (binK 0 .gtr t57 (.int .i64 1048576))) fun t58 =>
 bd (pk t52 (.bool true) t58) fun t59 =>
 some ⟨.nm,ux44 e 59 t59,h⟩) fun e h =>
 br (e.s k44 59) (sq (some ⟨.nm,(ux44 e 10 (.bool false)).st 5 (.bool false),h⟩) fun e h =>
 some ⟨.rt,e,h⟩)
 (some ⟨.nm,e,h⟩))) fun e h =>
 bd (binK 0 .add (e.s k44 12) (.int .i64 1)) fun t47 =>
 some ⟨.nm,(ux44 e 12 t47).st 7 t47,h⟩
def s44 (K:Oracle) (L:Looper) (e:E) (h:H):Out :=
 sq (some ⟨.nm,(ux44 e 10 (.bool false)).st 5 (.bool false),h⟩) fun e h =>
 sq (bc k44 [13,14,11] e (K 45 [e.s k44 1] h) fun t14 h1 =>
 some ⟨.nm,(ux44 e 11 t14).st 6 t14,h1⟩) fun e h =>
 sq (sq (bd (binK 0 .eql (e.s k44 11) (.int .i64 0)) fun t16 =>
 bd (gl t16 false (some (e.s k44 2))) fun t18 =>
 bd (gl t16 false (binK 0 .lss t18 (.int .i64 0))) fun t19 =>
 bd (pk t16 (.bool true) t19) fun t20 =>
 bd (gl t20 false (some (e.s k44 2))) fun t22 =>
 bd (gl t20 false (binK 0 .gtr t22 (.int .i64 2))) fun t23 =>
 bd (pk t20 (.bool true) t23) fun t24 =>
 bd (gl t24 false (some (e.s k44 3))) fun t26 =>
 bd (gl t24 false (binK 0 .lss t26 (.int .i64 0))) fun t27 =>
 bd (pk t24 (.bool true) t27) fun t28 =>
 bd (gl t28 false (some (e.s k44 3))) fun t30 =>
 bd (gl t28 false (binK 0 .gtr t30 (.int .i64 2))) fun t31 =>
 bd (pk t28 (.bool true) t31) fun t32 =>
 some ⟨.nm,ux44 e 32 t32,h⟩) fun e h =>
 br (e.s k44 32) (sq (some ⟨.nm,(ux44 e 10 (.bool false)).st 5 (.bool false),h⟩) fun e h =>
 some ⟨.rt,e,h⟩)
 (some ⟨.nm,e,h⟩)) fun e h =>
 sq (sq (bc k44 [33,34,35] e (K 47 [e.s k44 0] h) fun t34 h1 =>
 bd (unV .not t34) fun t35 =>
 some ⟨.nm,ux44 e 35 t35,h1⟩) fun e h =>
 br (e.s k44 35) (sq (some ⟨.nm,(ux44 e 10 (.bool true)).st 5 (.bool true),h⟩) fun e h =>
 some ⟨.rt,e,h⟩)
 (some ⟨.nm,e,h⟩)) fun e h =>
 sq (sq (bd (lnS (e.s k44 4)) fun t37 =>
 bd (binK 0 .mul (e.s k44 11) (e.s k44 11)) fun t40 =>
 bd (binK 0 .neq t37 t40) fun t41 =>
 some ⟨.nm,ux44 e 41 t41,h⟩) fun e h =>
 br (e.s k44 41) (sq (some ⟨.nm,(ux44 e 10 (.bool false)).st 5 (.bool false),h⟩) fun e h =>
 some ⟨.rt,e,h⟩)
 (some ⟨.nm,e,h⟩)) fun e h =>
 sq (sq (some ⟨.nm,(ux44 e 12 (.int .i64 0)).st 7 (.int .i64 0),h⟩) fun e h =>
 blk 0 (L (l44_0 K L) e h)) fun e h =>
 sq (some ⟨.nm,(ux44 e 10 (.bool true)).st 5 (.bool true),h⟩) fun e h =>
 some ⟨.rt,e,h⟩
def f44 (K:Oracle) (L:Looper) (p0 p1 p2 p3 p4:V) (h:H):Option (Rv × H):=fin Tryz.prog k44 [.tmp 10] (s44 K L ⟨[p0,p1,p2,p3,p4,V.und,V.und,V.und],0,p0⟩ h)
theorem r44:(fun K L p0 p1 p2 p3 p4 h=>runFF Tryz.prog kp K L 44 [p0,p1,p2,p3,p4] h)=f44:=by kernel_rfl
@[simp] def k45:List Nat:=[0,2,3]
@[simp] def ux45 (e:E) (t:Nat) (v:V):E:=⟨[e.s k45 0,e.s k45 2,e.s k45 3],t,v⟩
def s45 (K:Oracle) (L:Looper) (e:E) (h:H):Out :=
 sq (some ⟨.nm,(ux45 e 2 (.int .i64 0)).st 1 (.int .i64 0),h⟩) fun e h =>
 sq (sq (some ⟨.nm,(ux45 e 3 (e.s k45 0)).st 2 (e.s k45 0),h⟩) fun e h =>
 blk 0 (sq (sq (bd (binK 0 .eql (e.s k45 3) (.int .i64 4)) fun t5 =>
 some ⟨.nm,ux45 e 4 t5,h⟩) fun e h =>
 br (e.s k45 4) (some ⟨.nm,e,h⟩)
 (sq (bd (binK 0 .eql (e.s k45 3) (.int .i64 8)) fun t6 =>
 some ⟨.nm,ux45 e 4 t6,h⟩) fun e h =>
 br (e.s k45 4) (some ⟨.nm,e,h⟩)
 (sq (bd (binK 0 .eql (e.s k45 3) (.int .i64 16)) fun t7 =>
 some ⟨.nm,ux45 e 4 t7,h⟩) fun e h =>
 br (e.s k45 4) (some ⟨.nm,e,h⟩)
 (bd (binK 0 .eql (e.s k45 3) (.int .i64 32)) fun t8 =>
 some ⟨.nm,ux45 e 4 t8,h⟩)))) fun e h =>
 br (e.s k45 4) (sq (some ⟨.nm,(ux45 e 2 (e.s k45 0)).st 1 (e.s k45 0),h⟩) fun e h =>
 some ⟨.rt,e,h⟩)
 (sq (bd (binK 0 .eql (e.s k45 3) (.int .i64 64)) fun t11 =>
 some ⟨.nm,ux45 e 10 t11,h⟩) fun e h =>
 br (e.s k45 10) (sq (some ⟨.nm,(ux45 e 2 (.int .i64 32)).st 1 (.int .i64 32),h⟩) fun e h =>
 some ⟨.rt,e,h⟩)
 (some ⟨.nm,e,h⟩)))) fun e h =>
 sq (some ⟨.nm,(ux45 e 2 (.int .i64 0)).st 1 (.int .i64 0),h⟩) fun e h =>
 some ⟨.rt,e,h⟩
def f45 (K:Oracle) (L:Looper) (p0:V) (h:H):Option (Rv × H):=fin Tryz.prog k45 [.tmp 2] (s45 K L ⟨[p0,V.und,V.und],0,p0⟩ h)
theorem r45:(fun K L p0 h=>runFF Tryz.prog kp K L 45 [p0] h)=f45:=by kernel_rfl
@[simp] def k46:List Nat:=[0,2,3,4,5,6,7,8]
@[simp] def ux46 (e:E) (t:Nat) (v:V):E:=⟨[e.s k46 0,e.s k46 2,e.s k46 3,e.s k46 4,e.s k46 5,e.s k46 6,e.s k46 7,e.s k46 8],t,v⟩
def l46_0 (K:Oracle) (L:Looper) (e:E) (h:H):Out :=
 sq (sq (bd (binK 0 .lss (e.s k46 7) (e.s k46 4)) fun t22 =>
 some ⟨.nm,ux46 e 22 t22,h⟩) fun e h =>
 br (e.s k46 22) (some ⟨.nm,e,h⟩)
 (some ⟨.ex 2,e,h⟩)) fun e h =>
 sq (blk 3 (sq (bd (binK 0 .sub (e.s k46 6) (e.s k46 7)) fun t27 =>
 some ⟨.nm,(ux46 e 8 t27).st 7 t27,h⟩) fun e h =>
 sq (bd (binK 0 .geq (e.s k46 8) (.int .i64 0)) fun t29 =>
 bd (gl t29 true (some (e.s k46 8))) fun t31 =>
 bd (gl t29 true (some (e.s k46 4))) fun t32 =>
 bd (gl t29 true (binK 0 .lss t31 t32)) fun t33 =>
 bd (pk t29 t33 (.bool false)) fun t34 =>
 some ⟨.nm,ux46 e 34 t34,h⟩) fun e h =>
 br (e.s k46 34) (bd (binK 0 .mul (e.s k46 7) (e.s k46 4)) fun t38 =>
 bd (binK 0 .add t38 (e.s k46 8)) fun t40 =>
 bf (bs h 3 1 [(.int .i64 0)] [(some (0,1),t40)]) fun t41 h1 =>
 bf (apZ 3 1 8 h1 (e.s k46 5) t41) fun t42 h2 =>
 some ⟨.nm,(ux46 e 5 t42).st 4 t42,h2⟩)
 (some ⟨.nm,e,h⟩))) fun e h =>
 bd (binK 0 .add (e.s k46 7) (.int .i64 1)) fun t24 =>
 some ⟨.nm,(ux46 e 7 t24).st 6 t24,h⟩
def l46_1 (K:Oracle) (L:Looper) (e:E) (h:H):Out :=
 sq (sq (bd (binK 0 .mul (.int .i64 2) (e.s k46 4)) fun t15 =>
 bd (binK 0 .sub t15 (.int .i64 2)) fun t16 =>
 bd (binK 0 .leq (e.s k46 6) t16) fun t17 =>
 some ⟨.nm,ux46 e 17 t17,h⟩) fun e h =>
 br (e.s k46 17) (some ⟨.nm,e,h⟩)
 (some ⟨.ex 0,e,h⟩)) fun e h =>
 sq (blk 1 (sq (some ⟨.nm,(ux46 e 7 (.int .i64 0)).st 6 (.int .i64 0),h⟩) fun e h =>
 blk 2 (L (l46_0 K L) e h))) fun e h =>
 bd (binK 0 .add (e.s k46 6) (.int .i64 1)) fun t19 =>
 some ⟨.nm,(ux46 e 6 t19).st 5 t19,h⟩
def s46 (K:Oracle) (L:Looper) (e:E) (h:H):Out :=
 sq (some ⟨.nm,((ux46 e 3 (.int .i64 0)).st 1 .nils).st 2 (.int .i64 0),h⟩) fun e h =>
 sq (bc k46 [9,10,4] e (K 45 [e.s k46 0] h) fun t10 h1 =>
 some ⟨.nm,(ux46 e 4 t10).st 3 t10,h1⟩) fun e h =>
 sq (sq (bd (binK 0 .eql (e.s k46 4) (.int .i64 0)) fun t12 =>
 some ⟨.nm,ux46 e 12 t12,h⟩) fun e h =>
 br (e.s k46 12) (sq (some ⟨.nm,((ux46 e 3 (.int .i64 2)).st 1 .nils).st 2 (.int .i64 2),h⟩) fun e h =>
 some ⟨.rt,e,h⟩)
 (some ⟨.nm,e,h⟩)) fun e h =>
 sq (some ⟨.nm,(ux46 e 5 .nils).st 4 .nils,h⟩) fun e h =>
 sq (sq (some ⟨.nm,(ux46 e 6 (.int .i64 0)).st 5 (.int .i64 0),h⟩) fun e h =>
 blk 0 (L (l46_1 K L) e h)) fun e h =>
 sq (some ⟨.nm,((ux46 e 3 (.int .i64 0)).st 1 (e.s k46 5)).st 2 (.int .i64 0),h⟩) fun e h =>
 some ⟨.rt,e,h⟩
def f46 (K:Oracle) (L:Looper) (p0:V) (h:H):Option (Rv × H):=fin Tryz.prog k46 [.tmp 2,.tmp 3] (s46 K L ⟨[p0,V.und,V.und,V.und,V.und,V.und,V.und,V.und],0,p0⟩ h)
theorem r46:(fun K L p0 h=>runFF Tryz.prog kp K L 46 [p0] h)=f46:=by kernel_rfl
@[simp] def k47:List Nat:=[0,2]
@[simp] def ux47 (e:E) (t:Nat) (v:V):E:=⟨[e.s k47 0,e.s k47 2],t,v⟩
def s47 (K:Oracle) (L:Looper) (e:E) (h:H):Out :=
 sq (some ⟨.nm,(ux47 e 2 (.bool false)).st 1 (.bool false),h⟩) fun e h =>
 sq (bd (nilC (e.s k47 0)) fun t4 =>
 bd (fa 0 t4) fun t5 =>
 bd (ld h t5) fun t6 =>
 bd (binK 2 .neq t6 .nilp) fun t7 =>
 some ⟨.nm,(ux47 e 2 t7).st 1 t7,h⟩) fun e h =>
 some ⟨.rt,e,h⟩
def f47 (K:Oracle) (L:Looper) (p0:V) (h:H):Option (Rv × H):=fin Tryz.prog k47 [.tmp 2] (s47 K L ⟨[p0,V.und],0,p0⟩ h)
theorem r47:(fun K L p0 h=>runFF Tryz.prog kp K L 47 [p0] h)=f47:=by kernel_rfl
@[simp] def k48:List Nat:=[0,1,2,3,8,9,10,11,12,13,14,15,17,19,20,22]
@[simp] def ux48 (e:E) (t:Nat) (v:V):E:=⟨[e.s k48 0,e.s k48 1,e.s k48 2,e.s k48 3,e.s k48 8,e.s k48 9,e.s k48 10,e.s k48 11,e.s k48 12,e.s k48 13,e.s k48 14,e.s k48 15,e.s k48 17,e.s k48 19,e.s k48 20,e.s k48 22],t,v⟩
def s48 (K:Oracle) (L:Looper) (e:E) (h:H):Out :=
 sq (some ⟨.nm,((ux48 e 9 (.int .i64 0)).st 4 (.int .i64 0)).st 5 (.int .i64 0),h⟩) fun e h =>
 sq (bc k48 [25,26,24,27,28,29,10,11,12] e (K 73 [e.s k48 1] h) fun t26 h1 =>
 bd (exV t26 0) fun t27 =>
 bd (exV t26 1) fun t28 =>
 bd (exV t26 2) fun t29 =>
 some ⟨.nm,(((ux48 e 12 t29).st 6 t27).st 7 t28).st 8 t29,h1⟩) fun e h =>
 sq (sq (bd (binK 0 .neq (e.s k48 12) (.int .i64 0)) fun t31 =>
 some ⟨.nm,ux48 e 31 t31,h⟩) fun e h =>
 br (e.s k48 31) (sq (some ⟨.nm,((ux48 e 9 (e.s k48 12)).st 4 (.int .i64 0)).st 5 (e.s k48 12),h⟩) fun e h =>
 some ⟨.rt,e,h⟩)
 (some ⟨.nm,e,h⟩)) fun e h =>
 sq (sq (bd (binK 0 .lss (e.s k48 2) (.int .i64 0)) fun t34 =>
 bd (gl t34 false (some (e.s k48 2))) fun t36 =>
 bd (gl t34 false (some (e.s k48 10))) fun t37 =>
 bd (gl t34 false (binK 0 .geq t36 t37)) fun t38 =>
 bd (pk t34 (.bool true) t38) fun t39 =>
 bd (gl t39 false (some (e.s k48 0))) fun t41 =>
 bd (gl t39 false (nilC t41)) fun t42 =>
 bd (gl t39 false (fa 0 t42)) fun t43 =>
 bd (gl t39 false (ld h t43)) fun t44 =>
 bd (gl t39 false (binK 2 .neq t44 .nilp)) fun t45 =>
 bd (gl t39 false (some t45)) fun t46 =>
 bd (gl t46 true (some (e.s k48 3))) fun t47 =>
 bd (gl t46 true (binK 0 .lss t47 (.int .i64 0))) fun t48 =>
 bd (gl t46 true (some t48)) fun t49 =>
 bd (gl t49 false (some (e.s k48 3))) fun t50 =>
 bd (gl t49 false (some (e.s k48 11))) fun t51 =>
 bd (gl t49 false (binK 0 .geq t50 t51)) fun t52 =>
 bd (gl t46 true (pk t49 (.bool true) t52)) fun t53 =>
 bd (gl t39 false (pk t46 t53 (.bool false))) fun t54 =>
 bd (pk t39 (.bool true) t54) fun t55 =>
 some ⟨.nm,ux48 e 55 t55,h⟩) fun e h =>
 br (e.s k48 55) (sq (some ⟨.nm,((ux48 e 9 (.int .i64 2)).st 4 (.int .i64 0)).st 5 (.int .i64 2),h⟩) fun e h =>
 some ⟨.rt,e,h⟩)
 (some ⟨.nm,e,h⟩)) fun e h =>
 sq (bd (nilC (e.s k48 0)) fun t57 =>
 bd (fa 2 t57) fun t58 =>
 bd (fa 0 t58) fun t59 =>
 bd (ld h t59) fun t60 =>
 bd (iaS 1 t60 (e.s k48 1)) fun t62 =>
 bd (ld h t62) fun t63 =>
 bd (iaS 2 t63 (e.s k48 2)) fun t65 =>
 bd (ldn 2 h t65) fun t66 =>
 bf (nw h 76 [.nils,(.int .i64 0)]) fun t13 h1 =>
 bf (stZ 2 h1 t13 t66) fun _ h2 =>
 some ⟨.nm,(ux48 e 0 (e.s k48 0)).st 9 t13,h2⟩) fun e h =>
 sq (sq (bd (nilC (e.s k48 0)) fun t68 =>
 bd (fa 0 t68) fun t69 =>
 bd (ld h t69) fun t70 =>
 bd (binK 2 .neq t70 .nilp) fun t71 =>
 some ⟨.nm,ux48 e 71 t71,h⟩) fun e h =>
 br (e.s k48 71) (sq (bd (ldn 2 h (e.s k48 13)) fun t73 =>
 bc k48 [73,74,75,72,76,77,78,14,15,16] e (K 74 [t73,e.s k48 3] h) fun t75 h1 =>
 bd (exV t75 0) fun t76 =>
 bd (exV t75 1) fun t77 =>
 bd (exV t75 2) fun t78 =>
 some ⟨.nm,((ux48 e 16 t78).st 10 t76).st 11 t77,h1⟩) fun e h =>
 bd (nilC (e.s k48 0)) fun t80 =>
 bd (fa 0 t80) fun t81 =>
 bd (ld h t81) fun t82 =>
 bc k48 [79,80,81,82,83,84,85] e (K 75 [t82,e.s k48 14,e.s k48 15] h) fun t85 h1 =>
 some ⟨.nm,ux48 e 85 t85,h1⟩)
 (sq (bd (nilC (e.s k48 0)) fun t88 =>
 bd (fa 1 t88) fun t89 =>
 bd (ld h t89) fun t90 =>
 bc k48 [87,88,89,90,91,86,92,93,17,18] e (K 76 [t90] h) fun t91 h1 =>
 bd (exV t91 0) fun t92 =>
 bd (exV t91 1) fun t93 =>
 some ⟨.nm,(ux48 e 18 t93).st 12 t92,h1⟩) fun e h =>
 sq (bd (ldn 2 h (e.s k48 13)) fun t95 =>
 bc k48 [95,96,97,94,98,99,3] e (K 77 [t95,e.s k48 17] h) fun t97 h1 =>
 bd (exV t97 0) fun t98 =>
 bd (exV t97 1) fun t99 =>
 some ⟨.nm,(ux48 e 3 t98).st 3 t98,h1⟩) fun e h =>
 sq (bd (ldn 2 h (e.s k48 13)) fun t101 =>
 bc k48 [101,102,103,100,104,105,106,19,20,21] e (K 74 [t101,e.s k48 3] h) fun t103 h1 =>
 bd (exV t103 0) fun t104 =>
 bd (exV t103 1) fun t105 =>
 bd (exV t103 2) fun t106 =>
 some ⟨.nm,((ux48 e 21 t106).st 13 t104).st 14 t105,h1⟩) fun e h =>
 bd (nilC (e.s k48 0)) fun t108 =>
 bd (fa 1 t108) fun t109 =>
 bd (ld h t109) fun t110 =>
 bc k48 [107,108,109,110,111,112,113] e (K 78 [t110,e.s k48 19,e.s k48 20] h) fun t113 h1 =>
 some ⟨.nm,ux48 e 113 t113,h1⟩)) fun e h =>
 sq (sq (bd (nilC (e.s k48 0)) fun t115 =>
 bd (fa 3 t115) fun t116 =>
 bd (ld h t116) fun t117 =>
 some ⟨.nm,ux48 e 117 t117,h⟩) fun e h =>
 br (e.s k48 117) (sq (bd (ldn 2 h (e.s k48 13)) fun t119 =>
 bc k48 [119,120,121,118,122,123,22,23] e (K 79 [t119,e.s k48 3] h) fun t121 h1 =>
 bd (exV t121 0) fun t122 =>
 bd (exV t121 1) fun t123 =>
 bf (nw h1 76 [.nils,(.int .i64 0)]) fun t22 h2 =>
 bf (stZ 2 h2 t22 t122) fun _ h3 =>
 some ⟨.nm,(ux48 e 23 t123).st 15 t22,h3⟩) fun e h =>
 bd (nilC (e.s k48 0)) fun t125 =>
 bd (fa 2 t125) fun t126 =>
 bd (fa 0 t126) fun t127 =>
 bd (ld h t127) fun t128 =>
 bd (iaS 1 t128 (e.s k48 1)) fun t130 =>
 bd (ld h t130) fun t131 =>
 bd (ldn 2 h (e.s k48 22)) fun t133 =>
 bd (iaS 2 t131 (e.s k48 2)) fun t134 =>
 bf (stZ 2 h t134 t133) fun _ h1 =>
 ck (ld h t127) t128 (ck (ld h t130) t131 (ck (ldn 2 h (e.s k48 22)) t133 (some ⟨.nm,ux48 e 0 (e.s k48 0),h1⟩))))
 (some ⟨.nm,e,h⟩)) fun e h =>
 sq (bd (nilC (e.s k48 0)) fun t137 =>
 bd (fa 4 t137) fun t138 =>
 bd (ld h t138) fun t139 =>
 bd (binK 0 .add t139 (.int .i64 1)) fun t140 =>
 bd (nilC (e.s k48 0)) fun t141 =>
 bd (fa 4 t141) fun t142 =>
 bf (stZ 1 h t142 t140) fun _ h1 =>
 some ⟨.nm,ux48 e 0 (e.s k48 0),h1⟩) fun e h =>
 sq (some ⟨.nm,((ux48 e 9 (.int .i64 0)).st 4 (e.s k48 3)).st 5 (.int .i64 0),h⟩) fun e h =>
 some ⟨.rt,e,h⟩
def f48 (K:Oracle) (L:Looper) (p0 p1 p2 p3:V) (h:H):Option (Rv × H):=fin Tryz.prog k48 [.tmp 8,.tmp 9] (s48 K L ⟨[p0,p1,p2,p3,V.und,V.und,V.und,V.und,V.und,V.und,V.und,V.und,V.und,V.und,V.und,V.und],0,p0⟩ h)
theorem r48:(fun K L p0 p1 p2 p3 h=>runFF Tryz.prog kp K L 48 [p0,p1,p2,p3] h)=f48:=by kernel_rfl
@[simp] def k49:List Nat:=[0,2,3,4,5,6,7]
@[simp] def ux49 (e:E) (t:Nat) (v:V):E:=⟨[e.s k49 0,e.s k49 2,e.s k49 3,e.s k49 4,e.s k49 5,e.s k49 6,e.s k49 7],t,v⟩
def l49_0 (K:Oracle) (L:Looper) (e:E) (h:H):Out :=
 sq (sq (bd (binK 0 .sub (e.s k49 7) (.int .i64 1)) fun t18 =>
 bd (binK 0 .mul (.int .i64 2) t18) fun t19 =>
 bd (binK 0 .gtr (e.s k49 0) t19) fun t20 =>
 some ⟨.nm,ux49 e 20 t20,h⟩) fun e h =>
 br (e.s k49 20) (some ⟨.nm,e,h⟩)
 (some ⟨.ex 0,e,h⟩)) fun e h =>
 blk 1 (sq (bd (binK 0 .sub (e.s k49 7) (.int .i64 1)) fun t22 =>
 bd (binK 0 .mul (.int .i64 2) t22) fun t23 =>
 bd (binK 0 .add t23 (.int .i64 1)) fun t24 =>
 some ⟨.nm,(ux49 e 7 t24).st 6 t24,h⟩) fun e h =>
 bd (binK 0 .add (e.s k49 6) (.int .i64 1)) fun t26 =>
 some ⟨.nm,(ux49 e 6 t26).st 5 t26,h⟩)
def s49 (K:Oracle) (L:Looper) (e:E) (h:H):Out :=
 sq (some ⟨.nm,((((ux49 e 5 (.int .i64 0)).st 1 (.int .i64 0)).st 2 (.int .i64 0)).st 3 (.int .i64 0)).st 4 (.int .i64 0),h⟩) fun e h =>
 sq (sq (bd (binK 0 .lss (e.s k49 0) (.int .i64 1)) fun t9 =>
 bd (gl t9 false (some (e.s k49 0))) fun t11 =>
 bd (gl t9 false (binK 0 .gtr t11 (.int .i64 1024))) fun t12 =>
 bd (pk t9 (.bool true) t12) fun t13 =>
 some ⟨.nm,ux49 e 13 t13,h⟩) fun e h =>
 br (e.s k49 13) (sq (some ⟨.nm,((((ux49 e 5 (.int .i64 2)).st 1 (.int .i64 0)).st 2 (.int .i64 0)).st 3 (.int .i64 0)).st 4 (.int .i64 2),h⟩) fun e h =>
 some ⟨.rt,e,h⟩)
 (some ⟨.nm,e,h⟩)) fun e h =>
 sq (sq (bd (binK 0 .eql (e.s k49 0) (.int .i64 1)) fun t15 =>
 some ⟨.nm,ux49 e 15 t15,h⟩) fun e h =>
 br (e.s k49 15) (sq (some ⟨.nm,((((ux49 e 5 (.int .i64 0)).st 1 (.int .i64 0)).st 2 (.int .i64 0)).st 3 (.int .i64 0)).st 4 (.int .i64 0),h⟩) fun e h =>
 some ⟨.rt,e,h⟩)
 (some ⟨.nm,e,h⟩)) fun e h =>
 sq (some ⟨.nm,(ux49 e 6 (.int .i64 1)).st 5 (.int .i64 1),h⟩) fun e h =>
 sq (some ⟨.nm,(ux49 e 7 (.int .i64 2)).st 6 (.int .i64 2),h⟩) fun e h =>
 sq (blk 0 (L (l49_0 K L) e h)) fun e h =>
 sq (bd (binK 0 .sub (e.s k49 6) (.int .i64 1)) fun t29 =>
 bd (binK 0 .sub (e.s k49 0) (e.s k49 7)) fun t32 =>
 some ⟨.nm,((((ux49 e 5 (.int .i64 0)).st 1 (e.s k49 6)).st 2 t29).st 3 t32).st 4 (.int .i64 0),h⟩) fun e h =>
 some ⟨.rt,e,h⟩
def f49 (K:Oracle) (L:Looper) (p0:V) (h:H):Option (Rv × H):=fin Tryz.prog k49 [.tmp 2,.tmp 3,.tmp 4,.tmp 5] (s49 K L ⟨[p0,V.und,V.und,V.und,V.und,V.und,V.und],0,p0⟩ h)
theorem r49:(fun K L p0 h=>runFF Tryz.prog kp K L 49 [p0] h)=f49:=by kernel_rfl
@[simp] def k50:List Nat:=[0,2,3]
@[simp] def ux50 (e:E) (t:Nat) (v:V):E:=⟨[e.s k50 0,e.s k50 2,e.s k50 3],t,v⟩
def s50 (K:Oracle) (L:Looper) (e:E) (h:H):Out :=
 sq (some ⟨.nm,(ux50 e 2 (.int .i64 0)).st 1 (.int .i64 0),h⟩) fun e h =>
 sq (sq (some ⟨.nm,(ux50 e 3 (e.s k50 0)).st 2 (e.s k50 0),h⟩) fun e h =>
 blk 0 (sq (bd (binK 0 .eql (e.s k50 3) (.int .i64 4)) fun t5 =>
 some ⟨.nm,ux50 e 4 t5,h⟩) fun e h =>
 br (e.s k50 4) (sq (some ⟨.nm,(ux50 e 2 (.int .i64 23)).st 1 (.int .i64 23),h⟩) fun e h =>
 some ⟨.rt,e,h⟩)
 (sq (bd (binK 0 .eql (e.s k50 3) (.int .i64 8)) fun t7 =>
 some ⟨.nm,ux50 e 6 t7,h⟩) fun e h =>
 br (e.s k50 6) (sq (some ⟨.nm,(ux50 e 2 (.int .i64 24)).st 1 (.int .i64 24),h⟩) fun e h =>
 some ⟨.rt,e,h⟩)
 (sq (bd (binK 0 .eql (e.s k50 3) (.int .i64 16)) fun t9 =>
 some ⟨.nm,ux50 e 8 t9,h⟩) fun e h =>
 br (e.s k50 8) (sq (some ⟨.nm,(ux50 e 2 (.int .i64 25)).st 1 (.int .i64 25),h⟩) fun e h =>
 some ⟨.rt,e,h⟩)
 (some ⟨.nm,e,h⟩))))) fun e h =>
 sq (some ⟨.nm,(ux50 e 2 (.int .i64 26)).st 1 (.int .i64 26),h⟩) fun e h =>
 some ⟨.rt,e,h⟩
def f50 (K:Oracle) (L:Looper) (p0:V) (h:H):Option (Rv × H):=fin Tryz.prog k50 [.tmp 2] (s50 K L ⟨[p0,V.und,V.und],0,p0⟩ h)
theorem r50:(fun K L p0 h=>runFF Tryz.prog kp K L 50 [p0] h)=f50:=by kernel_rfl
@[simp] def k51:List Nat:=[0,1,2,6,7,8,9,10,11]
@[simp] def ux51 (e:E) (t:Nat) (v:V):E:=⟨[e.s k51 0,e.s k51 1,e.s k51 2,e.s k51 6,e.s k51 7,e.s k51 8,e.s k51 9,e.s k51 10,e.s k51 11],t,v⟩
def l51_0 (K:Oracle) (L:Looper) (e:E) (h:H):Out :=
 sq (sq (bd (binK 0 .geq (e.s k51 9) (.int .i64 0)) fun t39 =>
 some ⟨.nm,ux51 e 39 t39,h⟩) fun e h =>
 br (e.s k51 39) (some ⟨.nm,e,h⟩)
 (some ⟨.ex 0,e,h⟩)) fun e h =>
 sq (blk 1 (sq (some ⟨.nm,(ux51 e 10 (.int .i64 0)).st 7 (.int .i64 0),h⟩) fun e h =>
 sq (sq (bd (nilC (e.s k51 0)) fun t43 =>
 bd (fa 0 t43) fun t44 =>
 bd (ld h t44) fun t45 =>
 bd (binK 2 .neq t45 .nilp) fun t46 =>
 some ⟨.nm,ux51 e 46 t46,h⟩) fun e h =>
 br (e.s k51 46) (sq (bd (binK 0 .shr (e.s k51 2) (e.s k51 9)) fun t49 =>
 bd (binK 0 .rem t49 (.int .i64 2)) fun t50 =>
 some ⟨.nm,(ux51 e 10 t50).st 7 t50,h⟩) fun e h =>
 bd (nilC (e.s k51 0)) fun t52 =>
 bd (fa 0 t52) fun t53 =>
 bd (ld h t53) fun t54 =>
 bd (cv .u32 (e.s k51 10)) fun t56 =>
 bd (binK 0 .mul t56 (.int .u32 16384)) fun t57 =>
 bd (binK 0 .add (e.s k51 10) (.int .i64 1)) fun t59 =>
 bd (cv .u32 t59) fun t60 =>
 bd (binK 0 .mul t60 (.int .u32 16384)) fun t61 =>
 bc k51 [51,52,53,54,55,56,57,58,59,60,61,62] e (K 75 [t54,t57,t61] h) fun t62 h1 =>
 some ⟨.nm,ux51 e 62 t62,h1⟩)
 (sq (bd (nilC (e.s k51 0)) fun t65 =>
 bd (fa 1 t65) fun t66 =>
 bd (ld h t66) fun t67 =>
 bc k51 [64,65,66,67,68,63,69,70,11,12] e (K 76 [t67] h) fun t68 h1 =>
 bd (exV t68 0) fun t69 =>
 bd (exV t68 1) fun t70 =>
 some ⟨.nm,(ux51 e 12 t70).st 8 t69,h1⟩) fun e h =>
 sq (bd (binK 0 .quo (e.s k51 11) (.int .u32 16384)) fun t72 =>
 bd (cv .i64 t72) fun t73 =>
 some ⟨.nm,(ux51 e 10 t73).st 7 t73,h⟩) fun e h =>
 bd (nilC (e.s k51 0)) fun t75 =>
 bd (fa 1 t75) fun t76 =>
 bd (ld h t76) fun t77 =>
 bd (cv .u32 (e.s k51 10)) fun t79 =>
 bd (binK 0 .mul t79 (.int .u32 16384)) fun t80 =>
 bd (binK 0 .add (e.s k51 10) (.int .i64 1)) fun t82 =>
 bd (cv .u32 t82) fun t83 =>
 bd (binK 0 .mul t83 (.int .u32 16384)) fun t84 =>
 bc k51 [74,75,76,77,78,79,80,81,82,83,84,85] e (K 78 [t77,t80,t84] h) fun t85 h1 =>
 some ⟨.nm,ux51 e 85 t85,h1⟩)) fun e h =>
 bd (binK 0 .mul (e.s k51 8) (.int .i64 2)) fun t87 =>
 bd (binK 0 .add t87 (e.s k51 10)) fun t89 =>
 some ⟨.nm,(ux51 e 8 t89).st 5 t89,h⟩)) fun e h =>
 bd (binK 0 .sub (e.s k51 9) (.int .i64 1)) fun t41 =>
 some ⟨.nm,(ux51 e 9 t41).st 6 t41,h⟩
def s51 (K:Oracle) (L:Looper) (e:E) (h:H):Out :=
 sq (some ⟨.nm,((ux51 e 7 (.int .i64 0)).st 3 (.int .i64 0)).st 4 (.int .i64 0),h⟩) fun e h =>
 sq (sq (bd (binK 0 .lss (e.s k51 1) (.int .i64 0)) fun t14 =>
 bd (gl t14 false (some (e.s k51 1))) fun t16 =>
 bd (gl t14 false (binK 0 .gtr t16 (.int .i64 30))) fun t17 =>
 bd (pk t14 (.bool true) t17) fun t18 =>
 bd (gl t18 false (some (e.s k51 0))) fun t20 =>
 bd (gl t18 false (nilC t20)) fun t21 =>
 bd (gl t18 false (fa 0 t21)) fun t22 =>
 bd (gl t18 false (ld h t22)) fun t23 =>
 bd (gl t18 false (binK 2 .neq t23 .nilp)) fun t24 =>
 bd (gl t18 false (some t24)) fun t25 =>
 bd (gl t25 true (some (e.s k51 2))) fun t26 =>
 bd (gl t25 true (binK 0 .lss t26 (.int .i64 0))) fun t27 =>
 bd (gl t25 true (some t27)) fun t28 =>
 bd (gl t28 false (some (e.s k51 2))) fun t29 =>
 bd (gl t28 false (some (e.s k51 1))) fun t30 =>
 bd (gl t28 false (binK 0 .shl (.int .i64 1) t30)) fun t31 =>
 bd (gl t28 false (binK 0 .geq t29 t31)) fun t32 =>
 bd (gl t25 true (pk t28 (.bool true) t32)) fun t33 =>
 bd (gl t18 false (pk t25 t33 (.bool false))) fun t34 =>
 bd (pk t18 (.bool true) t34) fun t35 =>
 some ⟨.nm,ux51 e 35 t35,h⟩) fun e h =>
 br (e.s k51 35) (sq (some ⟨.nm,((ux51 e 7 (.int .i64 2)).st 3 (.int .i64 0)).st 4 (.int .i64 2),h⟩) fun e h =>
 some ⟨.rt,e,h⟩)
 (some ⟨.nm,e,h⟩)) fun e h =>
 sq (some ⟨.nm,(ux51 e 8 (.int .i64 0)).st 5 (.int .i64 0),h⟩) fun e h =>
 sq (sq (bd (binK 0 .sub (e.s k51 1) (.int .i64 1)) fun t37 =>
 some ⟨.nm,(ux51 e 9 t37).st 6 t37,h⟩) fun e h =>
 blk 0 (L (l51_0 K L) e h)) fun e h =>
 sq (bd (nilC (e.s k51 0)) fun t92 =>
 bd (fa 4 t92) fun t93 =>
 bd (ld h t93) fun t94 =>
 bd (binK 0 .add t94 (e.s k51 1)) fun t96 =>
 bd (nilC (e.s k51 0)) fun t97 =>
 bd (fa 4 t97) fun t98 =>
 bf (stZ 1 h t98 t96) fun _ h1 =>
 some ⟨.nm,ux51 e 0 (e.s k51 0),h1⟩) fun e h =>
 sq (some ⟨.nm,((ux51 e 7 (.int .i64 0)).st 3 (e.s k51 8)).st 4 (.int .i64 0),h⟩) fun e h =>
 some ⟨.rt,e,h⟩
def f51 (K:Oracle) (L:Looper) (p0 p1 p2:V) (h:H):Option (Rv × H):=fin Tryz.prog k51 [.tmp 6,.tmp 7] (s51 K L ⟨[p0,p1,p2,V.und,V.und,V.und,V.und,V.und,V.und],0,p0⟩ h)
theorem r51:(fun K L p0 p1 p2 h=>runFF Tryz.prog kp K L 51 [p0,p1,p2] h)=f51:=by kernel_rfl
@[simp] def k52:List Nat:=[0,2]
@[simp] def ux52 (e:E) (t:Nat) (v:V):E:=⟨[e.s k52 0,e.s k52 2],t,v⟩
def s52 (K:Oracle) (L:Looper) (e:E) (h:H):Out :=
 sq (some ⟨.nm,(ux52 e 2 (.int .i64 0)).st 1 (.int .i64 0),h⟩) fun e h =>
 sq (sq (bd (binK 0 .lss (e.s k52 0) (.int .i64 0)) fun t4 =>
 some ⟨.nm,ux52 e 4 t4,h⟩) fun e h =>
 br (e.s k52 4) (sq (bd (unV .neg (e.s k52 0)) fun t6 =>
 some ⟨.nm,(ux52 e 2 t6).st 1 t6,h⟩) fun e h =>
 some ⟨.rt,e,h⟩)
 (some ⟨.nm,e,h⟩)) fun e h =>
 sq (some ⟨.nm,(ux52 e 2 (e.s k52 0)).st 1 (e.s k52 0),h⟩) fun e h =>
 some ⟨.rt,e,h⟩
def f52 (K:Oracle) (L:Looper) (p0:V) (h:H):Option (Rv × H):=fin Tryz.prog k52 [.tmp 2] (s52 K L ⟨[p0,V.und],0,p0⟩ h)
theorem r52:(fun K L p0 h=>runFF Tryz.prog kp K L 52 [p0] h)=f52:=by kernel_rfl
@[simp] def k53:List Nat:=[0,1,2,6,7,8,9,10,11]
@[simp] def ux53 (e:E) (t:Nat) (v:V):E:=⟨[e.s k53 0,e.s k53 1,e.s k53 2,e.s k53 6,e.s k53 7,e.s k53 8,e.s k53 9,e.s k53 10,e.s k53 11],t,v⟩
def s53 (K:Oracle) (L:Looper) (e:E) (h:H):Out :=
 sq (some ⟨.nm,((ux53 e 7 (.int .i64 0)).st 3 (.int .i64 0)).st 4 (.int .i64 0),h⟩) fun e h =>
 sq (sq (bc k53 [12,13,14,15,16] e (K 80 [e.s k53 0,e.s k53 1,e.s k53 2] h) fun t15 h1 =>
 bd (unV .not t15) fun t16 =>
 some ⟨.nm,ux53 e 16 t16,h1⟩) fun e h =>
 br (e.s k53 16) (sq (some ⟨.nm,((ux53 e 7 (.int .i64 2)).st 3 (.int .i64 0)).st 4 (.int .i64 2),h⟩) fun e h =>
 some ⟨.rt,e,h⟩)
 (some ⟨.nm,e,h⟩)) fun e h =>
 sq (bc k53 [17,18,8] e (K 45 [e.s k53 1] h) fun t18 h1 =>
 some ⟨.nm,(ux53 e 8 t18).st 5 t18,h1⟩) fun e h =>
 sq (bd (binK 0 .quo (e.s k53 2) (e.s k53 8)) fun t21 =>
 bd (binK 0 .rem (e.s k53 2) (e.s k53 8)) fun t24 =>
 some ⟨.nm,((ux53 e 10 t24).st 6 t21).st 7 t24,h⟩) fun e h =>
 sq (bd (binK 0 .add (e.s k53 10) (.int .i64 1)) fun t29 =>
 bc k53 [25,26,27,28,29,30,31,32,33,34,35,36,37,38,39,40,41,42,43,44,45,46,47,48,49,50,51,52,53,54,55,56,57,58,59,11] e (K 81 [e.s k53 0,e.s k53 8,e.s k53 9,t29,(.int .i64 3)] h) fun t30 h1 =>
 bd (binK 0 .add (e.s k53 9) (.int .i64 1)) fun t34 =>
 bc k53 [25,26,27,28,29,30,31,32,33,34,35,36,37,38,39,40,41,42,43,44,45,46,47,48,49,50,51,52,53,54,55,56,57,58,59,11] e (K 81 [e.s k53 0,e.s k53 8,t34,e.s k53 10,(.int .i64 3)] h1) fun t36 h2 =>
 bd (binK 0 .add t30 t36) fun t37 =>
 bd (binK 0 .add (e.s k53 9) (.int .i64 1)) fun t41 =>
 bd (binK 0 .add (e.s k53 10) (.int .i64 1)) fun t43 =>
 bc k53 [25,26,27,28,29,30,31,32,33,34,35,36,37,38,39,40,41,42,43,44,45,46,47,48,49,50,51,52,53,54,55,56,57,58,59,11] e (K 81 [e.s k53 0,e.s k53 8,t41,t43,(.int .i64 3)] h2) fun t44 h3 =>
 bd (binK 0 .add t37 t44) fun t45 =>
 bd (binK 0 .add (e.s k53 10) (.int .i64 2)) fun t50 =>
 bc k53 [25,26,27,28,29,30,31,32,33,34,35,36,37,38,39,40,41,42,43,44,45,46,47,48,49,50,51,52,53,54,55,56,57,58,59,11] e (K 81 [e.s k53 0,e.s k53 8,e.s k53 9,t50,(.int .i64 3)] h3) fun t51 h4 =>
 bd (binK 0 .add t45 t51) fun t52 =>
 bd (binK 0 .add (e.s k53 9) (.int .i64 2)) fun t56 =>
 bc k53 [25,26,27,28,29,30,31,32,33,34,35,36,37,38,39,40,41,42,43,44,45,46,47,48,49,50,51,52,53,54,55,56,57,58,59,11] e (K 81 [e.s k53 0,e.s k53 8,t56,e.s k53 10,(.int .i64 3)] h4) fun t58 h5 =>
 bd (binK 0 .add t52 t58) fun t59 =>
 some ⟨.nm,(ux53 e 11 t59).st 8 t59,h5⟩) fun e h =>
 sq (bd (binK 0 .add (e.s k53 11) (.int .i64 1)) fun t61 =>
 bd (binK 0 .quo t61 (.int .i64 2)) fun t62 =>
 bd (minV [(.int .i64 4),t62]) fun t63 =>
 some ⟨.nm,((ux53 e 7 (.int .i64 0)).st 3 t63).st 4 (.int .i64 0),h⟩) fun e h =>
 some ⟨.rt,e,h⟩
def f53 (K:Oracle) (L:Looper) (p0 p1 p2:V) (h:H):Option (Rv × H):=fin Tryz.prog k53 [.tmp 6,.tmp 7] (s53 K L ⟨[p0,p1,p2,V.und,V.und,V.und,V.und,V.und,V.und],0,p0⟩ h)
theorem r53:(fun K L p0 p1 p2 h=>runFF Tryz.prog kp K L 53 [p0,p1,p2] h)=f53:=by kernel_rfl
@[simp] def k54:List Nat:=[0,1,2,6,7,8,9,10,11]
@[simp] def ux54 (e:E) (t:Nat) (v:V):E:=⟨[e.s k54 0,e.s k54 1,e.s k54 2,e.s k54 6,e.s k54 7,e.s k54 8,e.s k54 9,e.s k54 10,e.s k54 11],t,v⟩
def s54 (K:Oracle) (L:Looper) (e:E) (h:H):Out :=
 sq (some ⟨.nm,((ux54 e 7 (.int .i64 0)).st 3 (.int .i64 0)).st 4 (.int .i64 0),h⟩) fun e h =>
 sq (sq (bc k54 [12,13,14,15,16] e (K 80 [e.s k54 0,e.s k54 1,e.s k54 2] h) fun t15 h1 =>
 bd (unV .not t15) fun t16 =>
 some ⟨.nm,ux54 e 16 t16,h1⟩) fun e h =>
 br (e.s k54 16) (sq (some ⟨.nm,((ux54 e 7 (.int .i64 2)).st 3 (.int .i64 0)).st 4 (.int .i64 2),h⟩) fun e h =>
 some ⟨.rt,e,h⟩)
 (some ⟨.nm,e,h⟩)) fun e h =>
 sq (bc k54 [17,18,8] e (K 45 [e.s k54 1] h) fun t18 h1 =>
 some ⟨.nm,(ux54 e 8 t18).st 5 t18,h1⟩) fun e h =>
 sq (bd (binK 0 .quo (e.s k54 2) (e.s k54 8)) fun t21 =>
 bd (binK 0 .rem (e.s k54 2) (e.s k54 8)) fun t24 =>
 some ⟨.nm,((ux54 e 10 t24).st 6 t21).st 7 t24,h⟩) fun e h =>
 sq (bd (binK 0 .add (e.s k54 10) (.int .i64 1)) fun t29 =>
 bc k54 [25,26,27,28,29,30,31,32,33,34,35,36,37,38,39,40,41,42,43,44,45,11] e (K 81 [e.s k54 0,e.s k54 8,e.s k54 9,t29,(.int .i64 15)] h) fun t30 h1 =>
 bd (binK 0 .add (e.s k54 9) (.int .i64 1)) fun t34 =>
 bc k54 [25,26,27,28,29,30,31,32,33,34,35,36,37,38,39,40,41,42,43,44,45,11] e (K 81 [e.s k54 0,e.s k54 8,t34,e.s k54 10,(.int .i64 15)] h1) fun t36 h2 =>
 bd (binK 0 .add t30 t36) fun t37 =>
 bd (binK 0 .add (e.s k54 9) (.int .i64 1)) fun t41 =>
 bd (binK 0 .add (e.s k54 10) (.int .i64 1)) fun t43 =>
 bc k54 [25,26,27,28,29,30,31,32,33,34,35,36,37,38,39,40,41,42,43,44,45,11] e (K 81 [e.s k54 0,e.s k54 8,t41,t43,(.int .i64 15)] h2) fun t44 h3 =>
 bd (binK 0 .add t37 t44) fun t45 =>
 some ⟨.nm,(ux54 e 11 t45).st 8 t45,h3⟩) fun e h =>
 sq (bd (binK 0 .add (e.s k54 11) (.int .i64 1)) fun t47 =>
 bd (binK 0 .quo t47 (.int .i64 2)) fun t48 =>
 bd (minV [(.int .i64 6),t48]) fun t49 =>
 some ⟨.nm,((ux54 e 7 (.int .i64 0)).st 3 t49).st 4 (.int .i64 0),h⟩) fun e h =>
 some ⟨.rt,e,h⟩
def f54 (K:Oracle) (L:Looper) (p0 p1 p2:V) (h:H):Option (Rv × H):=fin Tryz.prog k54 [.tmp 6,.tmp 7] (s54 K L ⟨[p0,p1,p2,V.und,V.und,V.und,V.und,V.und,V.und],0,p0⟩ h)
theorem r54:(fun K L p0 p1 p2 h=>runFF Tryz.prog kp K L 54 [p0,p1,p2] h)=f54:=by kernel_rfl
@[simp] def k55:List Nat:=[0,1,2,3,8,9,10,11,12,14,15]
@[simp] def ux55 (e:E) (t:Nat) (v:V):E:=⟨[e.s k55 0,e.s k55 1,e.s k55 2,e.s k55 3,e.s k55 8,e.s k55 9,e.s k55 10,e.s k55 11,e.s k55 12,e.s k55 14,e.s k55 15],t,v⟩
def l55_0 (K:Oracle) (L:Looper) (e:E) (h:H):Out :=
 sq (sq (bd (binK 0 .lss (e.s k55 11) (.int .i64 4)) fun t20 =>
 some ⟨.nm,ux55 e 20 t20,h⟩) fun e h =>
 br (e.s k55 20) (some ⟨.nm,e,h⟩)
 (some ⟨.ex 0,e,h⟩)) fun e h =>
 sq (blk 1 (sq (bd (binK 0 .sub (e.s k55 3) (e.s k55 10)) fun t28 =>
 bc k55 [24,25,26,27,28,29,30,23,31,32,12,13] e (K 82 [t28,(.int .i64 0),(.int .i64 3)] h) fun t29 h1 =>
 bc k55 [24,25,26,27,28,29,30,23,31,32,12,13] e (K 48 [e.s k55 0,(.int .i64 29),e.s k55 2,t29] h1) fun t30 h2 =>
 bd (exV t30 0) fun t31 =>
 bd (exV t30 1) fun t32 =>
 some ⟨.nm,(ux55 e 13 t32).st 8 t31,h2⟩) fun e h =>
 sq (bd (binK 0 .add (e.s k55 10) (e.s k55 12)) fun t35 =>
 some ⟨.nm,(ux55 e 10 t35).st 6 t35,h⟩) fun e h =>
 sq (bd (binK 0 .lss (e.s k55 12) (.int .i64 3)) fun t37 =>
 some ⟨.nm,ux55 e 37 t37,h⟩) fun e h =>
 br (e.s k55 37) (sq (some ⟨.nm,((ux55 e 9 (.int .i64 0)).st 4 (e.s k55 10)).st 5 (.int .i64 0),h⟩) fun e h =>
 some ⟨.rt,e,h⟩)
 (some ⟨.nm,e,h⟩))) fun e h =>
 bd (binK 0 .add (e.s k55 11) (.int .i64 1)) fun t22 =>
 some ⟨.nm,(ux55 e 11 t22).st 7 t22,h⟩
def s55 (K:Oracle) (L:Looper) (e:E) (h:H):Out :=
 sq (some ⟨.nm,((ux55 e 9 (.int .i64 0)).st 4 (.int .i64 0)).st 5 (.int .i64 0),h⟩) fun e h =>
 sq (sq (bd (binK 0 .lss (e.s k55 1) (.int .i64 3)) fun t17 =>
 some ⟨.nm,ux55 e 17 t17,h⟩) fun e h =>
 br (e.s k55 17) (sq (some ⟨.nm,((ux55 e 9 (.int .i64 0)).st 4 (e.s k55 1)).st 5 (.int .i64 0),h⟩) fun e h =>
 some ⟨.rt,e,h⟩)
 (some ⟨.nm,e,h⟩)) fun e h =>
 sq (some ⟨.nm,(ux55 e 10 (.int .i64 3)).st 6 (.int .i64 3),h⟩) fun e h =>
 sq (sq (some ⟨.nm,(ux55 e 11 (.int .i64 0)).st 7 (.int .i64 0),h⟩) fun e h =>
 blk 0 (L (l55_0 K L) e h)) fun e h =>
 sq (bd (binK 0 .sub (e.s k55 3) (.int .i64 15)) fun t42 =>
 bd (maxV [t42,(.int .i64 0)]) fun t43 =>
 bc k55 [40,41,42,43,44,39,45,46,14,15] e (K 83 [e.s k55 0,t43] h) fun t44 h1 =>
 bd (exV t44 0) fun t45 =>
 bd (exV t44 1) fun t46 =>
 some ⟨.nm,((ux55 e 15 t46).st 9 t45).st 10 t46,h1⟩) fun e h =>
 sq (bd (binK 0 .add (.int .i64 15) (e.s k55 14)) fun t48 =>
 some ⟨.nm,((ux55 e 9 (e.s k55 15)).st 4 t48).st 5 (e.s k55 15),h⟩) fun e h =>
 some ⟨.rt,e,h⟩
def f55 (K:Oracle) (L:Looper) (p0 p1 p2 p3:V) (h:H):Option (Rv × H):=fin Tryz.prog k55 [.tmp 8,.tmp 9] (s55 K L ⟨[p0,p1,p2,p3,V.und,V.und,V.und,V.und,V.und,V.und,V.und],0,p0⟩ h)
theorem r55:(fun K L p0 p1 p2 p3 h=>runFF Tryz.prog kp K L 55 [p0,p1,p2,p3] h)=f55:=by kernel_rfl
@[simp] def k56:List Nat:=[0,2]
@[simp] def ux56 (e:E) (t:Nat) (v:V):E:=⟨[e.s k56 0,e.s k56 2],t,v⟩
def s56 (K:Oracle) (L:Looper) (e:E) (h:H):Out :=
 sq (some ⟨.nm,(ux56 e 2 (.bool false)).st 1 (.bool false),h⟩) fun e h =>
 sq (bd (binK 2 .eql (e.s k56 0) .nilp) fun t4 =>
 bd (gl t4 false (some (e.s k56 0))) fun t6 =>
 bd (gl t4 false (nilC t6)) fun t7 =>
 bd (gl t4 false (fa 0 t7)) fun t8 =>
 bd (gl t4 false (ld h t8)) fun t9 =>
 bd (gl t4 false (binK 2 .eql t9 .nilp)) fun t10 =>
 bd (gl t4 false (some t10)) fun t11 =>
 bd (gl t11 true (some (e.s k56 0))) fun t12 =>
 bd (gl t11 true (nilC t12)) fun t13 =>
 bd (gl t11 true (fa 1 t13)) fun t14 =>
 bd (gl t11 true (ld h t14)) fun t15 =>
 bd (gl t11 true (binK 2 .eql t15 .nilp)) fun t16 =>
 bd (gl t4 false (pk t11 t16 (.bool false))) fun t17 =>
 bd (pk t4 (.bool true) t17) fun t18 =>
 some ⟨.nm,(ux56 e 2 t18).st 1 t18,h⟩) fun e h =>
 some ⟨.rt,e,h⟩
def f56 (K:Oracle) (L:Looper) (p0:V) (h:H):Option (Rv × H):=fin Tryz.prog k56 [.tmp 2] (s56 K L ⟨[p0,V.und],0,p0⟩ h)
theorem r56:(fun K L p0 h=>runFF Tryz.prog kp K L 56 [p0] h)=f56:=by kernel_rfl
@[simp] def k57:List Nat:=[0,2,3,4,24]
@[simp] def ux57 (e:E) (t:Nat) (v:V):E:=⟨[e.s k57 0,e.s k57 2,e.s k57 3,e.s k57 4,e.s k57 24],t,v⟩
def l57_0 (K:Oracle) (L:Looper) (e:E) (h:H):Out :=
 sq (bd (binK 0 .lss (e.s k57 24) (.int .i64 4)) fun t25 =>
 some ⟨.nm,ux57 e 25 t25,h⟩) fun e h =>
 sq (br (e.s k57 25) (some ⟨.nm,e,h⟩)
 (some ⟨.ex 0,e,h⟩)) fun e h =>
 sq (blk 1 (bc k57 [26] e (K 85 [e.s k57 3] h) fun t26 h1 =>
 some ⟨.nm,ux57 e 26 t26,h1⟩)) fun e h =>
 bd (binK 0 .add (e.s k57 24) (.int .i64 1)) fun t27 =>
 some ⟨.nm,(ux57 e 24 t27).st 4 t27,h⟩
def l57_1 (K:Oracle) (L:Looper) (e:E) (h:H):Out :=
 sq (sq (bd (binK 0 .gtr (e.s k57 4) (.int .i64 0)) fun t32 =>
 bd (gl t32 true (fa 0 (e.s k57 3))) fun t34 =>
 bd (gl t32 true (ld h t34)) fun t35 =>
 bd (gl t32 true (some (e.s k57 4))) fun t36 =>
 bd (gl t32 true (binK 0 .sub t36 (.int .i64 1))) fun t37 =>
 bd (gl t32 true (iaS 1 t35 t37)) fun t38 =>
 bd (gl t32 true (ld h t38)) fun t39 =>
 bd (gl t32 true (binK 0 .eql t39 (.int .u8 0))) fun t40 =>
 bd (pk t32 t40 (.bool false)) fun t41 =>
 some ⟨.nm,ux57 e 41 t41,h⟩) fun e h =>
 br (e.s k57 41) (some ⟨.nm,e,h⟩)
 (some ⟨.ex 2,e,h⟩)) fun e h =>
 blk 3 (bd (binK 0 .sub (e.s k57 4) (.int .i64 1)) fun t43 =>
 some ⟨.nm,(ux57 e 4 t43).st 3 t43,h⟩)
def s57 (K:Oracle) (L:Looper) (e:E) (h:H):Out :=
 sq (some ⟨.nm,(ux57 e 2 .nils).st 1 .nils,h⟩) fun e h =>
 sq (sq (bd (binK 2 .eql (e.s k57 0) .nilp) fun t6 =>
 bd (gl t6 false (some (e.s k57 0))) fun t8 =>
 bd (gl t6 false (nilC t8)) fun t9 =>
 bd (gl t6 false (fa 2 t9)) fun t10 =>
 bd (gl t6 false (ld h t10)) fun t11 =>
 bd (gl t6 false (binK 0 .eql t11 (.int .u32 0))) fun t12 =>
 bd (pk t6 (.bool true) t12) fun t13 =>
 some ⟨.nm,ux57 e 13 t13,h⟩) fun e h =>
 br (e.s k57 13) (sq (some ⟨.nm,(ux57 e 2 .nils).st 1 .nils,h⟩) fun e h =>
 some ⟨.rt,e,h⟩)
 (some ⟨.nm,e,h⟩)) fun e h =>
 sq (bd (nilC (e.s k57 0)) fun t15 =>
 bd (fa 0 t15) fun t16 =>
 bd (ld h t16) fun t17 =>
 bn (K 84 [t17] h) fun t18 h1 =>
 bd (nilC (e.s k57 0)) fun t20 =>
 bd (fa 1 t20) fun t21 =>
 bd (ld h1 t21) fun t22 =>
 bd (bl [.nils,(.int .u64 0),(.int .u32 0)] [(some (0,1),t18),(some (1,1),t22)]) fun t23 =>
 bf (nw h1 104 [.nils,(.int .u64 0),(.int .u32 0)]) fun t3 h2 =>
 bf (stZ 3 h2 t3 t23) fun _ h3 =>
 ck (ld h t16) t17 (ck (ld h t21) t22 (ck (ld h1 t21) t22 (some ⟨.nm,(ux57 e 0 (e.s k57 0)).st 2 t3,h3⟩)))) fun e h =>
 sq (sq (some ⟨.nm,(ux57 e 24 (.int .i64 0)).st 4 (.int .i64 0),h⟩) fun e h =>
 blk 0 (L (l57_0 K L) e h)) fun e h =>
 sq (bd (fa 0 (e.s k57 3)) fun t28 =>
 bd (ld h t28) fun t29 =>
 bd (lnS t29) fun t30 =>
 some ⟨.nm,(ux57 e 4 t30).st 3 t30,h⟩) fun e h =>
 sq (blk 2 (L (l57_1 K L) e h)) fun e h =>
 sq (bd (fa 0 (e.s k57 3)) fun t44 =>
 bd (ld h t44) fun t45 =>
 bd (slS 1 t45 none (some (e.s k57 4)) (some (e.s k57 4))) fun t48 =>
 some ⟨.nm,(ux57 e 2 t48).st 1 t48,h⟩) fun e h =>
 some ⟨.rt,e,h⟩
def f57 (K:Oracle) (L:Looper) (p0:V) (h:H):Option (Rv × H):=fin Tryz.prog k57 [.tmp 2] (s57 K L ⟨[p0,V.und,V.und,V.und,V.und],0,p0⟩ h)
theorem r57:(fun K L p0 h=>runFF Tryz.prog kp K L 57 [p0] h)=f57:=by kernel_rfl
@[simp] def k58:List Nat:=[0,2,3,4,5]
@[simp] def ux58 (e:E) (t:Nat) (v:V):E:=⟨[e.s k58 0,e.s k58 2,e.s k58 3,e.s k58 4,e.s k58 5],t,v⟩
def l58_0 (K:Oracle) (L:Looper) (e:E) (h:H):Out :=
 sq (sq (bd (binK 0 .lss (e.s k58 4) (.int .i64 4)) fun t25 =>
 some ⟨.nm,ux58 e 25 t25,h⟩) fun e h =>
 br (e.s k58 25) (some ⟨.nm,e,h⟩)
 (some ⟨.ex 0,e,h⟩)) fun e h =>
 sq (blk 1 (bc k58 [28,29] e (K 86 [e.s k58 3] h) fun t29 h1 =>
 some ⟨.nm,ux58 e 29 t29,h1⟩)) fun e h =>
 bd (binK 0 .add (e.s k58 4) (.int .i64 1)) fun t27 =>
 some ⟨.nm,(ux58 e 4 t27).st 3 t27,h⟩
def l58_1 (K:Oracle) (L:Looper) (e:E) (h:H):Out :=
 sq (sq (bd (binK 0 .gtr (e.s k58 5) (.int .i64 0)) fun t36 =>
 bd (gl t36 true (some (e.s k58 3))) fun t38 =>
 bd (gl t36 true (nilC t38)) fun t39 =>
 bd (gl t36 true (fa 0 t39)) fun t40 =>
 bd (gl t36 true (ld h t40)) fun t41 =>
 bd (gl t36 true (some (e.s k58 5))) fun t42 =>
 bd (gl t36 true (binK 0 .sub t42 (.int .i64 1))) fun t43 =>
 bd (gl t36 true (iaS 1 t41 t43)) fun t44 =>
 bd (gl t36 true (ld h t44)) fun t45 =>
 bd (gl t36 true (binK 0 .eql t45 (.int .u8 0))) fun t46 =>
 bd (pk t36 t46 (.bool false)) fun t47 =>
 some ⟨.nm,ux58 e 47 t47,h⟩) fun e h =>
 br (e.s k58 47) (some ⟨.nm,e,h⟩)
 (some ⟨.ex 2,e,h⟩)) fun e h =>
 blk 3 (bd (binK 0 .sub (e.s k58 5) (.int .i64 1)) fun t49 =>
 some ⟨.nm,(ux58 e 5 t49).st 4 t49,h⟩)
def s58 (K:Oracle) (L:Looper) (e:E) (h:H):Out :=
 sq (some ⟨.nm,(ux58 e 2 .nils).st 1 .nils,h⟩) fun e h =>
 sq (bd (nilC (e.s k58 0)) fun t7 =>
 bd (fa 1 t7) fun t8 =>
 bd (ld h t8) fun t9 =>
 bd (bl [.nils,(.int .u64 0),(.int .u64 0)] [(some (1,1),t9)]) fun t10 =>
 bf (bx h 108 t10) fun t11 h1 =>
 some ⟨.nm,(ux58 e 3 t11).st 2 t11,h1⟩) fun e h =>
 sq (bd (nilC (e.s k58 3)) fun t14 =>
 bd (fa 0 t14) fun t15 =>
 bd (ld h t15) fun t16 =>
 bd (nilC (e.s k58 0)) fun t18 =>
 bd (fa 0 t18) fun t19 =>
 bd (ld h t19) fun t20 =>
 bf (apZ 5 1 1 h t16 t20) fun t21 h1 =>
 bd (nilC (e.s k58 3)) fun t22 =>
 bd (fa 0 t22) fun t23 =>
 bf (stZ 1 h1 t23 t21) fun _ h2 =>
 ck (ld h t15) t16 (ck (ld h t19) t20 (some ⟨.nm,ux58 e 0 (e.s k58 0),h2⟩))) fun e h =>
 sq (sq (some ⟨.nm,(ux58 e 4 (.int .i64 0)).st 3 (.int .i64 0),h⟩) fun e h =>
 blk 0 (L (l58_0 K L) e h)) fun e h =>
 sq (bd (nilC (e.s k58 3)) fun t31 =>
 bd (fa 0 t31) fun t32 =>
 bd (ld h t32) fun t33 =>
 bd (lnS t33) fun t34 =>
 some ⟨.nm,(ux58 e 5 t34).st 4 t34,h⟩) fun e h =>
 sq (blk 2 (L (l58_1 K L) e h)) fun e h =>
 sq (bd (nilC (e.s k58 3)) fun t51 =>
 bd (fa 0 t51) fun t52 =>
 bd (ld h t52) fun t53 =>
 bd (slS 1 t53 none (some (e.s k58 5)) none) fun t55 =>
 some ⟨.nm,(ux58 e 2 t55).st 1 t55,h⟩) fun e h =>
 some ⟨.rt,e,h⟩
def f58 (K:Oracle) (L:Looper) (p0:V) (h:H):Option (Rv × H):=fin Tryz.prog k58 [.tmp 2] (s58 K L ⟨[p0,V.und,V.und,V.und,V.und],0,p0⟩ h)
theorem r58:(fun K L p0 h=>runFF Tryz.prog kp K L 58 [p0] h)=f58:=by kernel_rfl
@[simp] def k59:List Nat:=[0,2,3,8]
@[simp] def ux59 (e:E) (t:Nat) (v:V):E:=⟨[e.s k59 0,e.s k59 2,e.s k59 3,e.s k59 8],t,v⟩
def l59_0 (K:Oracle) (L:Looper) (e:E) (h:H):Out :=
 sq (bd (binK 0 .lss (e.s k59 8) (.int .i64 4)) fun t9 =>
 some ⟨.nm,ux59 e 9 t9,h⟩) fun e h =>
 sq (br (e.s k59 9) (some ⟨.nm,e,h⟩)
 (some ⟨.ex 0,e,h⟩)) fun e h =>
 sq (blk 1 (bc k59 [10,11] e (K 87 [e.s k59 3] h) fun t11 h1 =>
 some ⟨.nm,ux59 e 11 t11,h1⟩)) fun e h =>
 bd (binK 0 .add (e.s k59 8) (.int .i64 1)) fun t12 =>
 some ⟨.nm,(ux59 e 8 t12).st 3 t12,h⟩
def s59 (K:Oracle) (L:Looper) (e:E) (h:H):Out :=
 sq (some ⟨.nm,(ux59 e 2 .nilp).st 1 .nilp,h⟩) fun e h =>
 sq (bc k59 [4,5,6,7,3] e (K 84 [e.s k59 0] h) fun t5 h1 =>
 bd (bl [.nils,(.int .u32 0),(.int .u32 0)] [(some (0,1),t5),(some (2,1),(.int .u32 4294967295))]) fun t6 =>
 bf (bx h1 129 t6) fun t7 h2 =>
 some ⟨.nm,(ux59 e 3 t7).st 2 t7,h2⟩) fun e h =>
 sq (sq (some ⟨.nm,(ux59 e 8 (.int .i64 0)).st 3 (.int .i64 0),h⟩) fun e h =>
 blk 0 (L (l59_0 K L) e h)) fun e h =>
 sq (bd (nilC (e.s k59 3)) fun t15 =>
 bd (fa 1 t15) fun t16 =>
 bd (ld h t16) fun t17 =>
 bd (minV [t17,(.int .u32 4294967294)]) fun t18 =>
 bd (nilC (e.s k59 3)) fun t19 =>
 bd (fa 1 t19) fun t20 =>
 bf (stZ 1 h t20 t18) fun _ h1 =>
 some ⟨.nm,ux59 e 0 (e.s k59 0),h1⟩) fun e h =>
 sq (some ⟨.nm,(ux59 e 2 (e.s k59 3)).st 1 (e.s k59 3),h⟩) fun e h =>
 some ⟨.rt,e,h⟩
def f59 (K:Oracle) (L:Looper) (p0:V) (h:H):Option (Rv × H):=fin Tryz.prog k59 [.tmp 2] (s59 K L ⟨[p0,V.und,V.und,V.und],0,p0⟩ h)
theorem r59:(fun K L p0 h=>runFF Tryz.prog kp K L 59 [p0] h)=f59:=by kernel_rfl
@[simp] def k60:List Nat:=[0,2,3,4]
@[simp] def ux60 (e:E) (t:Nat) (v:V):E:=⟨[e.s k60 0,e.s k60 2,e.s k60 3,e.s k60 4],t,v⟩
def l60_0 (K:Oracle) (L:Looper) (e:E) (h:H):Out :=
 sq (sq (bd (binK 0 .lss (e.s k60 4) (.int .i64 4)) fun t17 =>
 some ⟨.nm,ux60 e 17 t17,h⟩) fun e h =>
 br (e.s k60 17) (some ⟨.nm,e,h⟩)
 (some ⟨.ex 0,e,h⟩)) fun e h =>
 sq (blk 1 (bd (some (e.s k60 3)) fun t26 =>
 bk (K 88 [t26] h) (fun tp hp =>
 bd (some (e.s k60 3)) fun t20 =>
 bd (some (e.s k60 3)) fun t21 =>
 bd (nilC t21) fun t22 =>
 bd (fa 2 t22) fun t23 =>
 bd (ld h t23) fun t24 =>
 bd (binK 0 .mul t24 (.int .u64 256)) fun t25 =>
 some ⟨.pn tp,fgE k60 [20,21,22,23,24,25,26,27,28,29,30] e,hp⟩) fun _ _ =>
 bn (K 88 [e.s k60 3] h) fun t27 h1 =>
 bd (nilC (e.s k60 3)) fun t22 =>
 bd (fa 2 t22) fun t23 =>
 bd (ld h1 t23) fun t24 =>
 bd (binK 0 .mul t24 (.int .u64 256)) fun t25 =>
 bd (binK 0 .add t25 t27) fun t28 =>
 bd (nilC (e.s k60 3)) fun t29 =>
 bd (fa 2 t29) fun t30 =>
 bf (stZ 1 h1 t30 t28) fun _ h2 =>
 ck (ld h t23) t24 (ck (ld h1 t23) t24 (some ⟨.nm,ux60 e 0 (e.s k60 0),h2⟩)))) fun e h =>
 bd (binK 0 .add (e.s k60 4) (.int .i64 1)) fun t19 =>
 some ⟨.nm,(ux60 e 4 t19).st 3 t19,h⟩
def s60 (K:Oracle) (L:Looper) (e:E) (h:H):Out :=
 sq (some ⟨.nm,(ux60 e 2 .nilp).st 1 .nilp,h⟩) fun e h =>
 sq (bd (bl [.nils,(.int .i64 0),(.int .u64 0),(.int .u64 0)] [(some (3,1),(.int .u64 4294967295))]) fun t5 =>
 bf (bx h 131 t5) fun t6 h1 =>
 some ⟨.nm,(ux60 e 3 t6).st 2 t6,h1⟩) fun e h =>
 sq (bd (nilC (e.s k60 3)) fun t9 =>
 bd (fa 0 t9) fun t10 =>
 bd (ld h t10) fun t11 =>
 bf (apZ 5 1 1 h t11 (e.s k60 0)) fun t13 h1 =>
 bd (nilC (e.s k60 3)) fun t14 =>
 bd (fa 0 t14) fun t15 =>
 bf (stZ 1 h1 t15 t13) fun _ h2 =>
 some ⟨.nm,ux60 e 0 (e.s k60 0),h2⟩) fun e h =>
 sq (sq (some ⟨.nm,(ux60 e 4 (.int .i64 0)).st 3 (.int .i64 0),h⟩) fun e h =>
 blk 0 (L (l60_0 K L) e h)) fun e h =>
 sq (bd (nilC (e.s k60 3)) fun t33 =>
 bd (fa 2 t33) fun t34 =>
 bd (ld h t34) fun t35 =>
 bd (minV [t35,(.int .u64 4294967294)]) fun t36 =>
 bd (nilC (e.s k60 3)) fun t37 =>
 bd (fa 2 t37) fun t38 =>
 bf (stZ 1 h t38 t36) fun _ h1 =>
 some ⟨.nm,ux60 e 0 (e.s k60 0),h1⟩) fun e h =>
 sq (some ⟨.nm,(ux60 e 2 (e.s k60 3)).st 1 (e.s k60 3),h⟩) fun e h =>
 some ⟨.rt,e,h⟩
def f60 (K:Oracle) (L:Looper) (p0:V) (h:H):Option (Rv × H):=fin Tryz.prog k60 [.tmp 2] (s60 K L ⟨[p0,V.und,V.und,V.und],0,p0⟩ h)
theorem r60:(fun K L p0 h=>runFF Tryz.prog kp K L 60 [p0] h)=f60:=by kernel_rfl
@[simp] def k61:List Nat:=[0,1,2,3,8,9,10,11,12,13,14]
@[simp] def ux61 (e:E) (t:Nat) (v:V):E:=⟨[e.s k61 0,e.s k61 1,e.s k61 2,e.s k61 3,e.s k61 8,e.s k61 9,e.s k61 10,e.s k61 11,e.s k61 12,e.s k61 13,e.s k61 14],t,v⟩
def s61 (K:Oracle) (L:Looper) (e:E) (h:H):Out :=
 sq (some ⟨.nm,((ux61 e 9 (.int .i64 0)).st 4 (.int .i64 0)).st 5 (.int .i64 0),h⟩) fun e h =>
 sq (sq (bc k61 [15,16] e (K 56 [e.s k61 0] h) fun t16 h1 =>
 some ⟨.nm,ux61 e 16 t16,h1⟩) fun e h =>
 br (e.s k61 16) (sq (some ⟨.nm,((ux61 e 9 (.int .i64 1)).st 4 (.int .i64 0)).st 5 (.int .i64 1),h⟩) fun e h =>
 some ⟨.rt,e,h⟩)
 (some ⟨.nm,e,h⟩)) fun e h =>
 sq (bc k61 [18,19,17,20,21,22,10,11,12] e (K 89 [e.s k61 1] h) fun t19 h1 =>
 bd (exV t19 0) fun t20 =>
 bd (exV t19 1) fun t21 =>
 bd (exV t19 2) fun t22 =>
 some ⟨.nm,(((ux61 e 12 t22).st 6 t20).st 7 t21).st 8 t22,h1⟩) fun e h =>
 sq (blk 0 (sq (bd (binK 0 .neq (e.s k61 12) (.int .i64 0)) fun t25 =>
 some ⟨.nm,ux61 e 23 t25,h⟩) fun e h =>
 br (e.s k61 23) (sq (some ⟨.nm,((ux61 e 9 (e.s k61 12)).st 4 (.int .i64 0)).st 5 (e.s k61 12),h⟩) fun e h =>
 some ⟨.rt,e,h⟩)
 (sq (bd (binK 0 .lss (e.s k61 2) (.int .i64 0)) fun t29 =>
 bd (gl t29 false (some (e.s k61 2))) fun t31 =>
 bd (gl t29 false (some (e.s k61 10))) fun t32 =>
 bd (gl t29 false (binK 0 .geq t31 t32)) fun t33 =>
 bd (pk t29 (.bool true) t33) fun t34 =>
 bd (gl t34 false (some (e.s k61 0))) fun t36 =>
 bc k61 [28,29,30,31,32,33,34,35,36,37,38,39,40,41,42,43,44,45,46,47,27] e (gk t34 false h (K 40 [t36] h)) fun t37 h1 =>
 bd (gl t34 false (some t37)) fun t38 =>
 bd (gl t38 true (some (e.s k61 3))) fun t39 =>
 bd (gl t38 true (binK 0 .lss t39 (.int .i64 0))) fun t40 =>
 bd (gl t38 true (some t40)) fun t41 =>
 bd (gl t41 false (some (e.s k61 3))) fun t42 =>
 bd (gl t41 false (some (e.s k61 11))) fun t43 =>
 bd (gl t41 false (binK 0 .geq t42 t43)) fun t44 =>
 bd (gl t38 true (pk t41 (.bool true) t44)) fun t45 =>
 bd (gl t34 false (pk t38 t45 (.bool false))) fun t46 =>
 bd (pk t34 (.bool true) t46) fun t47 =>
 some ⟨.nm,ux61 e 27 t47,h1⟩) fun e h =>
 br (e.s k61 27) (sq (some ⟨.nm,((ux61 e 9 (.int .i64 2)).st 4 (.int .i64 0)).st 5 (.int .i64 2),h⟩) fun e h =>
 some ⟨.rt,e,h⟩)
 (some ⟨.nm,e,h⟩)))) fun e h =>
 sq (bd (nilC (e.s k61 0)) fun t49 =>
 bd (fa 2 t49) fun t50 =>
 bd (fa 0 t50) fun t51 =>
 bd (ld h t51) fun t52 =>
 bd (iaS 1 t52 (e.s k61 1)) fun t54 =>
 bd (ld h t54) fun t55 =>
 bd (iaS 2 t55 (e.s k61 2)) fun t57 =>
 some ⟨.nm,(ux61 e 13 t57).st 9 t57,h⟩) fun e h =>
 sq (bd (nilC (e.s k61 13)) fun t61 =>
 bd (ldn 2 h t61) fun t62 =>
 bc k61 [59,60,61,62,63,64,58,65,66,14,12] e (K 90 [e.s k61 0,t62,e.s k61 3] h) fun t64 h1 =>
 bd (exV t64 0) fun t65 =>
 bd (exV t64 1) fun t66 =>
 some ⟨.nm,((ux61 e 12 t66).st 8 t66).st 10 t65,h1⟩) fun e h =>
 sq (sq (bd (binK 0 .neq (e.s k61 12) (.int .i64 0)) fun t68 =>
 some ⟨.nm,ux61 e 68 t68,h⟩) fun e h =>
 br (e.s k61 68) (sq (some ⟨.nm,((ux61 e 9 (e.s k61 12)).st 4 (.int .i64 0)).st 5 (e.s k61 12),h⟩) fun e h =>
 some ⟨.rt,e,h⟩)
 (some ⟨.nm,e,h⟩)) fun e h =>
 sq (sq (bd (nilC (e.s k61 0)) fun t71 =>
 bd (fa 3 t71) fun t72 =>
 bd (ld h t72) fun t73 =>
 some ⟨.nm,ux61 e 73 t73,h⟩) fun e h =>
 br (e.s k61 73) (bd (nilC (e.s k61 13)) fun t77 =>
 bd (ldn 2 h t77) fun t78 =>
 bc k61 [75,76,77,78,79,80,74,81,82,83,12] e (K 91 [t78,e.s k61 14] h) fun t80 h1 =>
 bd (exV t80 0) fun t81 =>
 bd (exV t80 1) fun t82 =>
 bd (nilC (e.s k61 13)) fun t83 =>
 bf (stZ 2 h1 t83 t81) fun _ h2 =>
 some ⟨.nm,(ux61 e 12 t82).st 8 t82,h2⟩)
 (some ⟨.nm,e,h⟩)) fun e h =>
 sq (bd (nilC (e.s k61 0)) fun t85 =>
 bd (fa 4 t85) fun t86 =>
 bd (ld h t86) fun t87 =>
 bd (binK 0 .add t87 (.int .i64 1)) fun t88 =>
 bd (nilC (e.s k61 0)) fun t89 =>
 bd (fa 4 t89) fun t90 =>
 bf (stZ 1 h t90 t88) fun _ h1 =>
 some ⟨.nm,ux61 e 0 (e.s k61 0),h1⟩) fun e h =>
 sq (some ⟨.nm,((ux61 e 9 (e.s k61 12)).st 4 (e.s k61 14)).st 5 (e.s k61 12),h⟩) fun e h =>
 some ⟨.rt,e,h⟩
def f61 (K:Oracle) (L:Looper) (p0 p1 p2 p3:V) (h:H):Option (Rv × H):=fin Tryz.prog k61 [.tmp 8,.tmp 9] (s61 K L ⟨[p0,p1,p2,p3,V.und,V.und,V.und,V.und,V.und,V.und,V.und],0,p0⟩ h)
theorem r61:(fun K L p0 p1 p2 p3 h=>runFF Tryz.prog kp K L 61 [p0,p1,p2,p3] h)=f61:=by kernel_rfl
@[simp] def k62:List Nat:=[0,1,2]
@[simp] def ux62 (e:E) (t:Nat) (v:V):E:=⟨[e.s k62 0,e.s k62 1,e.s k62 2],t,v⟩
def s62 (K:Oracle) (L:Looper) (e:E) (h:H):Out :=
 sq (bf (bx h 76 (e.s k62 0)) fun t1 h1 =>
 some ⟨.nm,((ux62 e 2 (.int .i64 0)).st 1 t1).st 2 (.int .i64 0),h1⟩) fun e h =>
 sq (blk 0 (sq (sq (bd (fa 0 (e.s k62 1)) fun t4 =>
 bd (ld h t4) fun t5 =>
 bd (lnS t5) fun t6 =>
 bc k62 [4,5,6,7,8,3] e (K 65 [t6] h) fun t7 h1 =>
 bd (unV .not t7) fun t8 =>
 some ⟨.nm,ux62 e 3 t8,h1⟩) fun e h =>
 br (e.s k62 3) (some ⟨.nm,e,h⟩)
 (sq (bd (fa 1 (e.s k62 1)) fun t9 =>
 bd (ld h t9) fun t10 =>
 bd (binK 0 .lss t10 (.int .i64 0)) fun t11 =>
 some ⟨.nm,ux62 e 3 t11,h⟩) fun e h =>
 br (e.s k62 3) (some ⟨.nm,e,h⟩)
 (bd (fa 1 (e.s k62 1)) fun t12 =>
 bd (ld h t12) fun t13 =>
 bd (binK 0 .gtr t13 (.int .i64 32)) fun t14 =>
 some ⟨.nm,ux62 e 3 t14,h⟩))) fun e h =>
 br (e.s k62 3) (sq (some ⟨.nm,(ux62 e 2 (.int .i64 2)).st 2 (.int .i64 2),h⟩) fun e h =>
 some ⟨.rt,e,h⟩)
 (sq (sq (bd (fa 0 (e.s k62 1)) fun t16 =>
 bd (ld h t16) fun t17 =>
 bc k62 [16,17,18,19,15] e (K 92 [t17] h) fun t18 h1 =>
 bd (unV .not t18) fun t19 =>
 some ⟨.nm,ux62 e 15 t19,h1⟩) fun e h =>
 br (e.s k62 15) (some ⟨.nm,e,h⟩)
 (bd (fa 0 (e.s k62 1)) fun t20 =>
 bd (ld h t20) fun t21 =>
 bd (fa 0 (e.s k62 1)) fun t22 =>
 bd (ld h t22) fun t23 =>
 bd (lnS t23) fun t24 =>
 bd (binK 0 .sub t24 (.int .i64 1)) fun t25 =>
 bd (iaS 1 t21 t25) fun t26 =>
 bd (ld h t26) fun t27 =>
 bd (binK 0 .neq t27 (.int .u16 32768)) fun t28 =>
 some ⟨.nm,ux62 e 15 t28,h⟩)) fun e h =>
 br (e.s k62 15) (sq (some ⟨.nm,(ux62 e 2 (.int .i64 2)).st 2 (.int .i64 2),h⟩) fun e h =>
 some ⟨.rt,e,h⟩)
 (some ⟨.nm,e,h⟩)))) fun e h =>
 sq (some ⟨.nm,(ux62 e 2 (.int .i64 0)).st 2 (.int .i64 0),h⟩) fun e h =>
 some ⟨.rt,e,h⟩
def f62 (K:Oracle) (L:Looper) (p0:V) (h:H):Option (Rv × H):=fin Tryz.prog k62 [.tmp 2] (s62 K L ⟨[p0,V.und,V.und],0,p0⟩ h)
theorem r62:(fun K L p0 h=>runFF Tryz.prog kp K L 62 [p0] h)=f62:=by kernel_rfl
@[simp] def k63:List Nat:=[0,2]
@[simp] def ux63 (e:E) (t:Nat) (v:V):E:=⟨[e.s k63 0,e.s k63 2],t,v⟩
def s63 (K:Oracle) (L:Looper) (e:E) (h:H):Out :=
 sq (some ⟨.nm,(ux63 e 2 .nils).st 1 .nils,h⟩) fun e h =>
 sq (sq (bd (binK 3 .eql (e.s k63 0) .nils) fun t4 =>
 some ⟨.nm,ux63 e 4 t4,h⟩) fun e h =>
 br (e.s k63 4) (sq (some ⟨.nm,(ux63 e 2 .nils).st 1 .nils,h⟩) fun e h =>
 some ⟨.rt,e,h⟩)
 (some ⟨.nm,e,h⟩)) fun e h =>
 sq (bf (bs h 76 0 [] []) fun t5 h1 =>
 bf (apZ 76 2 32 h1 t5 (e.s k63 0)) fun t7 h2 =>
 some ⟨.nm,(ux63 e 2 t7).st 1 t7,h2⟩) fun e h =>
 some ⟨.rt,e,h⟩
def f63 (K:Oracle) (L:Looper) (p0:V) (h:H):Option (Rv × H):=fin Tryz.prog k63 [.tmp 2] (s63 K L ⟨[p0,V.und],0,p0⟩ h)
theorem r63:(fun K L p0 h=>runFF Tryz.prog kp K L 63 [p0] h)=f63:=by kernel_rfl
@[simp] def k64:List Nat:=[0,2]
@[simp] def ux64 (e:E) (t:Nat) (v:V):E:=⟨[e.s k64 0,e.s k64 2],t,v⟩
def s64 (K:Oracle) (L:Looper) (e:E) (h:H):Out :=
 sq (some ⟨.nm,(ux64 e 2 .nils).st 1 .nils,h⟩) fun e h =>
 sq (sq (bd (binK 3 .eql (e.s k64 0) .nils) fun t4 =>
 some ⟨.nm,ux64 e 4 t4,h⟩) fun e h =>
 br (e.s k64 4) (sq (some ⟨.nm,(ux64 e 2 .nils).st 1 .nils,h⟩) fun e h =>
 some ⟨.rt,e,h⟩)
 (some ⟨.nm,e,h⟩)) fun e h =>
 sq (bf (bs h 97 0 [] []) fun t5 h1 =>
 bf (apZ 97 1 2 h1 t5 (e.s k64 0)) fun t7 h2 =>
 some ⟨.nm,(ux64 e 2 t7).st 1 t7,h2⟩) fun e h =>
 some ⟨.rt,e,h⟩
def f64 (K:Oracle) (L:Looper) (p0:V) (h:H):Option (Rv × H):=fin Tryz.prog k64 [.tmp 2] (s64 K L ⟨[p0,V.und],0,p0⟩ h)
theorem r64:(fun K L p0 h=>runFF Tryz.prog kp K L 64 [p0] h)=f64:=by kernel_rfl
@[simp] def k65:List Nat:=[0,2]
@[simp] def ux65 (e:E) (t:Nat) (v:V):E:=⟨[e.s k65 0,e.s k65 2],t,v⟩
def s65 (K:Oracle) (L:Looper) (e:E) (h:H):Out :=
 sq (some ⟨.nm,(ux65 e 2 (.bool false)).st 1 (.bool false),h⟩) fun e h =>
 sq (bd (binK 0 .geq (e.s k65 0) (.int .i64 2)) fun t4 =>
 bd (gl t4 true (some (e.s k65 0))) fun t6 =>
 bd (gl t4 true (binK 0 .leq t6 (.int .i64 16))) fun t7 =>
 bd (pk t4 t7 (.bool false)) fun t8 =>
 some ⟨.nm,(ux65 e 2 t8).st 1 t8,h⟩) fun e h =>
 some ⟨.rt,e,h⟩
def f65 (K:Oracle) (L:Looper) (p0:V) (h:H):Option (Rv × H):=fin Tryz.prog k65 [.tmp 2] (s65 K L ⟨[p0,V.und],0,p0⟩ h)
theorem r65:(fun K L p0 h=>runFF Tryz.prog kp K L 65 [p0] h)=f65:=by kernel_rfl
@[simp] def k66:List Nat:=[0,1,2,3,4]
@[simp] def ux66 (e:E) (t:Nat) (v:V):E:=⟨[e.s k66 0,e.s k66 1,e.s k66 2,e.s k66 3,e.s k66 4],t,v⟩
def l66_0 (K:Oracle) (L:Looper) (e:E) (h:H):Out :=
 sq (sq (bd (binK 0 .lss (e.s k66 4) (e.s k66 3)) fun t35 =>
 some ⟨.nm,ux66 e 35 t35,h⟩) fun e h =>
 br (e.s k66 35) (some ⟨.nm,e,h⟩)
 (some ⟨.ex 0,e,h⟩)) fun e h =>
 sq (blk 1 (sq (bd (fa 0 (e.s k66 1)) fun t38 =>
 bd (ld h t38) fun t39 =>
 bd (iaS 1 t39 (e.s k66 4)) fun t41 =>
 bd (ld h t41) fun t42 =>
 bd (fa 0 (e.s k66 1)) fun t43 =>
 bd (ld h t43) fun t44 =>
 bd (binK 0 .sub (e.s k66 4) (.int .i64 1)) fun t46 =>
 bd (iaS 1 t44 t46) fun t47 =>
 bd (ld h t47) fun t48 =>
 bd (binK 0 .lss t42 t48) fun t49 =>
 ck (ld h t38) t39 (ck (ld h t41) t42 (ck (ld h t43) t44 (ck (ld h t47) t48 (some ⟨.nm,ux66 e 49 t49,h⟩))))) fun e h =>
 br (e.s k66 49) (sq (some ⟨.nm,(ux66 e 2 (.int .i64 2)).st 2 (.int .i64 2),h⟩) fun e h =>
 some ⟨.rt,e,h⟩)
 (some ⟨.nm,e,h⟩))) fun e h =>
 bd (binK 0 .add (e.s k66 4) (.int .i64 1)) fun t37 =>
 some ⟨.nm,(ux66 e 4 t37).st 4 t37,h⟩
def s66 (K:Oracle) (L:Looper) (e:E) (h:H):Out :=
 sq (bf (bx h 76 (e.s k66 0)) fun t1 h1 =>
 some ⟨.nm,((ux66 e 2 (.int .i64 0)).st 1 t1).st 2 (.int .i64 0),h1⟩) fun e h =>
 sq (bd (fa 0 (e.s k66 1)) fun t5 =>
 bd (ld h t5) fun t6 =>
 bd (lnS t6) fun t7 =>
 some ⟨.nm,(ux66 e 3 t7).st 3 t7,h⟩) fun e h =>
 sq (sq (bd (binK 0 .lss (e.s k66 3) (.int .i64 2)) fun t9 =>
 bd (gl t9 false (some (e.s k66 3))) fun t11 =>
 bd (gl t9 false (binK 0 .gtr t11 (.int .i64 16))) fun t12 =>
 bd (pk t9 (.bool true) t12) fun t13 =>
 bd (gl t13 false (fa 1 (e.s k66 1))) fun t15 =>
 bd (gl t13 false (ld h t15)) fun t16 =>
 bd (gl t13 false (binK 0 .lss t16 (.int .i64 0))) fun t17 =>
 bd (pk t13 (.bool true) t17) fun t18 =>
 bd (gl t18 false (fa 1 (e.s k66 1))) fun t20 =>
 bd (gl t18 false (ld h t20)) fun t21 =>
 bd (gl t18 false (binK 0 .gtr t21 (.int .i64 32))) fun t22 =>
 bd (pk t18 (.bool true) t22) fun t23 =>
 bd (gl t23 false (fa 0 (e.s k66 1))) fun t25 =>
 bd (gl t23 false (ld h t25)) fun t26 =>
 bd (gl t23 false (some (e.s k66 3))) fun t27 =>
 bd (gl t23 false (binK 0 .sub t27 (.int .i64 1))) fun t28 =>
 bd (gl t23 false (iaS 1 t26 t28)) fun t29 =>
 bd (gl t23 false (ld h t29)) fun t30 =>
 bd (gl t23 false (binK 0 .neq t30 (.int .u16 32768))) fun t31 =>
 bd (pk t23 (.bool true) t31) fun t32 =>
 some ⟨.nm,ux66 e 32 t32,h⟩) fun e h =>
 br (e.s k66 32) (sq (some ⟨.nm,(ux66 e 2 (.int .i64 2)).st 2 (.int .i64 2),h⟩) fun e h =>
 some ⟨.rt,e,h⟩)
 (some ⟨.nm,e,h⟩)) fun e h =>
 sq (sq (some ⟨.nm,(ux66 e 4 (.int .i64 1)).st 4 (.int .i64 1),h⟩) fun e h =>
 blk 0 (L (l66_0 K L) e h)) fun e h =>
 sq (some ⟨.nm,(ux66 e 2 (.int .i64 0)).st 2 (.int .i64 0),h⟩) fun e h =>
 some ⟨.rt,e,h⟩
def f66 (K:Oracle) (L:Looper) (p0:V) (h:H):Option (Rv × H):=fin Tryz.prog k66 [.tmp 2] (s66 K L ⟨[p0,V.und,V.und,V.und,V.und],0,p0⟩ h)
theorem r66:(fun K L p0 h=>runFF Tryz.prog kp K L 66 [p0] h)=f66:=by kernel_rfl
@[simp] def k67:List Nat:=[0,1,4,5,6,7,8]
@[simp] def ux67 (e:E) (t:Nat) (v:V):E:=⟨[e.s k67 0,e.s k67 1,e.s k67 4,e.s k67 5,e.s k67 6,e.s k67 7,e.s k67 8],t,v⟩
def s67 (K:Oracle) (L:Looper) (e:E) (h:H):Out :=
 sq (some ⟨.nm,((ux67 e 5 (.int .i64 0)).st 2 (.int .i64 0)).st 3 (.int .i64 0),h⟩) fun e h =>
 sq (sq (bc k67 [9,10,11] e (K 40 [e.s k67 0] h) fun t10 h1 =>
 bd (unV .not t10) fun t11 =>
 some ⟨.nm,ux67 e 11 t11,h1⟩) fun e h =>
 br (e.s k67 11) (sq (bd (nilC (e.s k67 0)) fun t14 =>
 bd (fa 1 t14) fun t15 =>
 bd (ld h t15) fun t16 =>
 bc k67 [13,14,15,16,17,12,18,19,6,7] e (K 93 [t16] h) fun t17 h1 =>
 bd (exV t17 0) fun t18 =>
 bd (exV t17 1) fun t19 =>
 some ⟨.nm,((ux67 e 7 t19).st 4 t18).st 5 t19,h1⟩) fun e h =>
 sq (sq (bd (binK 0 .neq (e.s k67 7) (.int .i64 0)) fun t21 =>
 some ⟨.nm,ux67 e 21 t21,h⟩) fun e h =>
 br (e.s k67 21) (sq (some ⟨.nm,((ux67 e 5 (e.s k67 7)).st 2 (.int .i64 0)).st 3 (e.s k67 7),h⟩) fun e h =>
 some ⟨.rt,e,h⟩)
 (some ⟨.nm,e,h⟩)) fun e h =>
 bd (binK 0 .quo (e.s k67 6) (.int .u32 16384)) fun t24 =>
 bd (cv .i64 t24) fun t25 =>
 some ⟨.nm,(ux67 e 1 t25).st 1 t25,h⟩)
 (some ⟨.nm,e,h⟩)) fun e h =>
 sq (bd (cv .u32 (e.s k67 1)) fun t27 =>
 bd (binK 0 .mul t27 (.int .u32 16384)) fun t28 =>
 some ⟨.nm,(ux67 e 8 t28).st 6 t28,h⟩) fun e h =>
 sq (sq (bc k67 [29,30] e (K 40 [e.s k67 0] h) fun t30 h1 =>
 some ⟨.nm,ux67 e 30 t30,h1⟩) fun e h =>
 br (e.s k67 30) (sq (bd (nilC (e.s k67 0)) fun t33 =>
 bd (fa 0 t33) fun t34 =>
 bd (ld h t34) fun t35 =>
 bd (binK 0 .add (e.s k67 8) (.int .u32 16384)) fun t38 =>
 bc k67 [31,32,33,34,35,36,37,38,39,4,5] e (K 94 [t35,e.s k67 8,t38] h) fun t39 h1 =>
 some ⟨.nm,((ux67 e 5 t39).st 2 (e.s k67 1)).st 3 t39,h1⟩) fun e h =>
 some ⟨.rt,e,h⟩)
 (some ⟨.nm,e,h⟩)) fun e h =>
 sq (bd (nilC (e.s k67 0)) fun t42 =>
 bd (fa 1 t42) fun t43 =>
 bd (ld h t43) fun t44 =>
 bd (binK 0 .add (e.s k67 8) (.int .u32 16384)) fun t47 =>
 bc k67 [40,41,42,43,44,45,46,47,48,4,5] e (K 95 [t44,e.s k67 8,t47] h) fun t48 h1 =>
 some ⟨.nm,((ux67 e 5 t48).st 2 (e.s k67 1)).st 3 t48,h1⟩) fun e h =>
 some ⟨.rt,e,h⟩
def f67 (K:Oracle) (L:Looper) (p0 p1:V) (h:H):Option (Rv × H):=fin Tryz.prog k67 [.tmp 4,.tmp 5] (s67 K L ⟨[p0,p1,V.und,V.und,V.und,V.und,V.und],0,p0⟩ h)
theorem r67:(fun K L p0 p1 h=>runFF Tryz.prog kp K L 67 [p0,p1] h)=f67:=by kernel_rfl
@[simp] def k68:List Nat:=[0,2,3]
@[simp] def ux68 (e:E) (t:Nat) (v:V):E:=⟨[e.s k68 0,e.s k68 2,e.s k68 3],t,v⟩
def s68 (K:Oracle) (L:Looper) (e:E) (h:H):Out :=
 sq (some ⟨.nm,(ux68 e 2 (.int .i64 0)).st 1 (.int .i64 0),h⟩) fun e h =>
 sq (sq (some ⟨.nm,(ux68 e 3 (e.s k68 0)).st 2 (e.s k68 0),h⟩) fun e h =>
 blk 0 (sq (sq (bd (binK 0 .eql (e.s k68 3) (.int .i64 4)) fun t5 =>
 some ⟨.nm,ux68 e 4 t5,h⟩) fun e h =>
 br (e.s k68 4) (some ⟨.nm,e,h⟩)
 (sq (bd (binK 0 .eql (e.s k68 3) (.int .i64 8)) fun t6 =>
 some ⟨.nm,ux68 e 4 t6,h⟩) fun e h =>
 br (e.s k68 4) (some ⟨.nm,e,h⟩)
 (sq (bd (binK 0 .eql (e.s k68 3) (.int .i64 16)) fun t7 =>
 some ⟨.nm,ux68 e 4 t7,h⟩) fun e h =>
 br (e.s k68 4) (some ⟨.nm,e,h⟩)
 (bd (binK 0 .eql (e.s k68 3) (.int .i64 32)) fun t8 =>
 some ⟨.nm,ux68 e 4 t8,h⟩)))) fun e h =>
 br (e.s k68 4) (sq (some ⟨.nm,(ux68 e 2 (e.s k68 0)).st 1 (e.s k68 0),h⟩) fun e h =>
 some ⟨.rt,e,h⟩)
 (sq (bd (binK 0 .eql (e.s k68 3) (.int .i64 64)) fun t11 =>
 some ⟨.nm,ux68 e 10 t11,h⟩) fun e h =>
 br (e.s k68 10) (sq (bd (binK 0 .quo (e.s k68 0) (.int .i64 2)) fun t13 =>
 some ⟨.nm,(ux68 e 2 t13).st 1 t13,h⟩) fun e h =>
 some ⟨.rt,e,h⟩)
 (some ⟨.nm,e,h⟩)))) fun e h =>
 sq (some ⟨.nm,(ux68 e 2 (.int .i64 0)).st 1 (.int .i64 0),h⟩) fun e h =>
 some ⟨.rt,e,h⟩
def f68 (K:Oracle) (L:Looper) (p0:V) (h:H):Option (Rv × H):=fin Tryz.prog k68 [.tmp 2] (s68 K L ⟨[p0,V.und,V.und],0,p0⟩ h)
theorem r68:(fun K L p0 h=>runFF Tryz.prog kp K L 68 [p0] h)=f68:=by kernel_rfl
@[simp] def k70:List Nat:=[0,2,3,4,5,6,8,13,14,15]
@[simp] def ux70 (e:E) (t:Nat) (v:V):E:=⟨[e.s k70 0,e.s k70 2,e.s k70 3,e.s k70 4,e.s k70 5,e.s k70 6,e.s k70 8,e.s k70 13,e.s k70 14,e.s k70 15],t,v⟩
def l70_0 (K:Oracle) (L:Looper) (e:E) (h:H):Out :=
 sq (bd (binK 0 .lss (e.s k70 15) (e.s k70 14)) fun t16 =>
 some ⟨.nm,ux70 e 16 t16,h⟩) fun e h =>
 sq (br (e.s k70 16) (some ⟨.nm,e,h⟩)
 (some ⟨.ex 0,e,h⟩)) fun e h =>
 sq (blk 1 (sq (bd (iaS 1 (e.s k70 13) (e.s k70 15)) fun t18 =>
 bd (ld h t18) fun t19 =>
 some ⟨.nm,((ux70 e 5 t19).st 3 (e.s k70 15)).st 4 t19,h⟩) fun e h =>
 sq (bd (nilC (e.s k70 0)) fun t21 =>
 bd (fa 5 t21) fun t22 =>
 bd (ld h t22) fun t23 =>
 bd (iaS 1 t23 (e.s k70 5)) fun t25 =>
 bd (ld h t25) fun t26 =>
 bd (binK 0 .neq t26 (.int .i64 0)) fun t27 =>
 some ⟨.nm,ux70 e 27 t27,h⟩) fun e h =>
 br (e.s k70 27) (bd (binK 0 .add (e.s k70 4) (.int .i64 1)) fun t29 =>
 some ⟨.nm,(ux70 e 3 t29).st 2 t29,h⟩)
 (some ⟨.nm,e,h⟩))) fun e h =>
 bd (binK 0 .add (e.s k70 15) (.int .i64 1)) fun t30 =>
 some ⟨.nm,(ux70 e 15 t30).st 9 t30,h⟩
def s70 (K:Oracle) (L:Looper) (e:E) (h:H):Out :=
 sq (some ⟨.nm,(ux70 e 2 (.int .i64 0)).st 1 (.int .i64 0),h⟩) fun e h =>
 sq (some ⟨.nm,(ux70 e 3 (.int .i64 0)).st 2 (.int .i64 0),h⟩) fun e h =>
 sq (sq (bd (nilC (e.s k70 0)) fun t11 =>
 bd (fa 4 t11) fun t12 =>
 bd (ld h t12) fun t13 =>
 bd (lnS t13) fun t14 =>
 some ⟨.nm,(((ux70 e 15 (.int .i64 0)).st 7 t13).st 8 t14).st 9 (.int .i64 0),h⟩) fun e h =>
 blk 0 (L (l70_0 K L) e h)) fun e h =>
 sq (sq (bd (some (e.s k70 0)) fun t37 =>
 bd (nilC t37) fun t38 =>
 bd (fa 1 t38) fun t39 =>
 bd (ld h t39) fun t40 =>
 bd (binK 0 .gtr t40 (.int .i64 8)) fun t41 =>
 bk (K 97 [t41] h) (fun tp hp =>
 bd (some (e.s k70 3)) fun t44 =>
 bd (binK 0 .eql t44 (.int .i64 0)) fun t45 =>
 bd (some (e.s k70 0)) fun t31 =>
 bd (some (e.s k70 0)) fun t32 =>
 bd (nilC t32) fun t33 =>
 bd (fa 2 t33) fun t34 =>
 bd (ld h t34) fun t35 =>
 bd (binK 0 .mul (.int .i64 2) t35) fun t36 =>
 some ⟨.pn tp,fgE k70 [31,32,33,34,35,36,37,38,39,40,41,42,43,44,45,46,47,48] e,hp⟩) fun _ _ =>
 bd (nilC (e.s k70 0)) fun t38 =>
 bd (fa 1 t38) fun t39 =>
 bd (ld h t39) fun t40 =>
 bd (binK 0 .gtr t40 (.int .i64 8)) fun t41 =>
 bn (K 97 [t41] h) fun t42 h1 =>
 bd (binK 0 .eql (e.s k70 3) (.int .i64 0)) fun t45 =>
 bn (K 97 [t45] h1) fun t46 h2 =>
 bd (nilC (e.s k70 0)) fun t33 =>
 bd (fa 2 t33) fun t34 =>
 bd (ld h2 t34) fun t35 =>
 bd (binK 0 .mul (.int .i64 2) t35) fun t36 =>
 bd (binK 0 .add t36 t42) fun t43 =>
 bn (K 96 [e.s k70 0,(.int .i64 22),t43,t46] h2) fun t47 h3 =>
 bd (binK 0 .eql t47 (.int .i64 1)) fun t48 =>
 ck (ld h t34) t35 (ck (ld h1 t34) t35 (ck (ld h2 t34) t35 (ck (ld h t39) t40 (some ⟨.nm,ux70 e 48 t48,h3⟩))))) fun e h =>
 br (e.s k70 48) (sq (some ⟨.nm,(ux70 e 2 (.int .i64 0)).st 1 (.int .i64 0),h⟩) fun e h =>
 some ⟨.rt,e,h⟩)
 (some ⟨.nm,e,h⟩)) fun e h =>
 sq (bd (maxV [e.s k70 3,(.int .i64 1)]) fun t51 =>
 bc k70 [50,51,52,49,53,54,55,56,6,7,8,9] e (K 98 [t51] h) fun t52 h1 =>
 bd (exV t52 0) fun t53 =>
 bd (exV t52 1) fun t54 =>
 bd (exV t52 2) fun t55 =>
 bd (exV t52 3) fun t56 =>
 some ⟨.nm,((ux70 e 9 t56).st 5 t53).st 6 t55,h1⟩) fun e h =>
 sq (bd (some (e.s k70 0)) fun t58 =>
 bd (nilC t58) fun t59 =>
 bd (fa 1 t59) fun t60 =>
 bd (ld h t60) fun t61 =>
 bk (K 99 [t61] h) (fun tp hp =>
 bd (some (e.s k70 0)) fun t57 =>
 bd (some (e.s k70 0)) fun t63 =>
 bd (nilC t63) fun t64 =>
 bd (fa 2 t64) fun t65 =>
 bd (ld h t65) fun t66 =>
 bd (some (e.s k70 6)) fun t67 =>
 some ⟨.pn tp,fgE k70 [57,58,59,60,61,62,63,64,65,66,67,68,6] e,hp⟩) fun _ _ =>
 bd (nilC (e.s k70 0)) fun t59 =>
 bd (fa 1 t59) fun t60 =>
 bd (ld h t60) fun t61 =>
 bn (K 99 [t61] h) fun t62 h1 =>
 bd (nilC (e.s k70 0)) fun t64 =>
 bd (fa 2 t64) fun t65 =>
 bd (ld h1 t65) fun t66 =>
 bn (K 96 [e.s k70 0,t62,t66,e.s k70 6] h1) fun t68 h2 =>
 ck (ld h t60) t61 (ck (ld h t65) t66 (ck (ld h1 t65) t66 (some ⟨.nm,(ux70 e 6 t68).st 5 t68,h2⟩)))) fun e h =>
 sq (sq (bd (binK 0 .eql (e.s k70 6) (.int .i64 0)) fun t70 =>
 some ⟨.nm,ux70 e 70 t70,h⟩) fun e h =>
 br (e.s k70 70) (sq (some ⟨.nm,(ux70 e 2 (.int .i64 1)).st 1 (.int .i64 1),h⟩) fun e h =>
 some ⟨.rt,e,h⟩)
 (some ⟨.nm,e,h⟩)) fun e h =>
 sq (bd (some (e.s k70 0)) fun t75 =>
 bd (some (e.s k70 6)) fun t76 =>
 bd (binK 0 .sub t76 (.int .i64 1)) fun t77 =>
 bd (some (e.s k70 8)) fun t78 =>
 bk (K 100 [t75,t77,t78] h) (fun tp hp =>
 bd (some (e.s k70 6)) fun t71 =>
 bd (binK 0 .sub t71 (.int .i64 1)) fun t72 =>
 bd (binK 0 .shl (.int .i64 1) t72) fun t73 =>
 bd (binK 0 .add t73 (.int .i64 1)) fun t74 =>
 some ⟨.pn tp,fgE k70 [71,72,73,74,75,76,77,78,79,80,2] e,hp⟩) fun _ _ =>
 bd (binK 0 .sub (e.s k70 6) (.int .i64 1)) fun t77 =>
 bn (K 100 [e.s k70 0,t77,e.s k70 8] h) fun t79 h1 =>
 bd (binK 0 .sub (e.s k70 6) (.int .i64 1)) fun t72 =>
 bd (binK 0 .shl (.int .i64 1) t72) fun t73 =>
 bd (binK 0 .add t73 (.int .i64 1)) fun t74 =>
 bd (binK 0 .add t74 t79) fun t80 =>
 some ⟨.nm,(ux70 e 2 t80).st 1 t80,h1⟩) fun e h =>
 some ⟨.rt,e,h⟩
def f70 (K:Oracle) (L:Looper) (p0:V) (h:H):Option (Rv × H):=fin Tryz.prog k70 [.tmp 2] (s70 K L ⟨[p0,V.und,V.und,V.und,V.und,V.und,V.und,V.und,V.und,V.und],0,p0⟩ h)
theorem r70:(fun K L p0 h=>runFF Tryz.prog kp K L 70 [p0] h)=f70:=by kernel_rfl
@[simp] def k71:List Nat:=[0,1,4,5,6,7,8]
@[simp] def ux71 (e:E) (t:Nat) (v:V):E:=⟨[e.s k71 0,e.s k71 1,e.s k71 4,e.s k71 5,e.s k71 6,e.s k71 7,e.s k71 8],t,v⟩
def l71_0 (K:Oracle) (L:Looper) (e:E) (h:H):Out :=
 sq (sq (bd (binK 0 .geq (e.s k71 4) (.int .i64 0)) fun t13 =>
 some ⟨.nm,ux71 e 13 t13,h⟩) fun e h =>
 br (e.s k71 13) (some ⟨.nm,e,h⟩)
 (some ⟨.ex 0,e,h⟩)) fun e h =>
 sq (blk 1 (sq (bd (nilC (e.s k71 0)) fun t17 =>
 bd (fa 4 t17) fun t18 =>
 bd (ld h t18) fun t19 =>
 bd (iaS 1 t19 (e.s k71 4)) fun t21 =>
 bd (ld h t21) fun t22 =>
 some ⟨.nm,(ux71 e 5 t22).st 3 t22,h⟩) fun e h =>
 sq (bd (nilC (e.s k71 0)) fun t24 =>
 bd (fa 5 t24) fun t25 =>
 bd (ld h t25) fun t26 =>
 bd (iaS 1 t26 (e.s k71 5)) fun t28 =>
 bd (ld h t28) fun t29 =>
 bd (nilC (e.s k71 0)) fun t31 =>
 bd (fa 5 t31) fun t32 =>
 bd (ld h t32) fun t33 =>
 bd (iaS 1 t33 (e.s k71 5)) fun t35 =>
 bd (ld h t35) fun t36 =>
 bd (unV .neg t36) fun t37 =>
 bd (maxV [t29,t37]) fun t38 =>
 bd (minV [t38,(.int .i64 3)]) fun t39 =>
 ck (ld h t25) t26 (ck (ld h t28) t29 (ck (ld h t32) t33 (ck (ld h t35) t36 (some ⟨.nm,(ux71 e 6 t39).st 4 t39,h⟩))))) fun e h =>
 sq (some ⟨.nm,(ux71 e 7 (.int .i64 0)).st 5 (.int .i64 0),h⟩) fun e h =>
 sq (sq (bd (binK 0 .sub (e.s k71 1) (.int .i64 1)) fun t42 =>
 bd (binK 0 .eql (e.s k71 4) t42) fun t43 =>
 some ⟨.nm,ux71 e 43 t43,h⟩) fun e h =>
 br (e.s k71 43) (bd (nilC (e.s k71 0)) fun t46 =>
 bd (fa 2 t46) fun t47 =>
 bd (ld h t47) fun t48 =>
 bd (binK 0 .sub (e.s k71 6) (.int .i64 1)) fun t50 =>
 bd (maxV [t50,(.int .i64 0)]) fun t51 =>
 bc k71 [44,45,46,47,48,49,50,51,52,53,7] e (K 96 [e.s k71 0,(.int .i64 27),t48,t51] h) fun t52 h1 =>
 bd (binK 0 .add (.int .i64 1) t52) fun t53 =>
 some ⟨.nm,(ux71 e 7 t53).st 5 t53,h1⟩)
 (sq (bd (some (e.s k71 0)) fun t55 =>
 bd (nilC t55) fun t56 =>
 bd (fa 6 t56) fun t57 =>
 bd (ld h t57) fun t58 =>
 bd (some (e.s k71 0)) fun t59 =>
 bd (nilC t59) fun t60 =>
 bd (fa 1 t60) fun t61 =>
 bd (ld h t61) fun t62 =>
 bd (some (e.s k71 5)) fun t63 =>
 bk (K 101 [t58,t62,t63] h) (fun tp hp =>
 some ⟨.pn tp,fgE k71 [55,56,57,58,59,60,61,62,63,64,54,65,66,8,9] e,hp⟩) fun _ _ =>
 bd (nilC (e.s k71 0)) fun t56 =>
 bd (fa 6 t56) fun t57 =>
 bd (ld h t57) fun t58 =>
 bd (nilC (e.s k71 0)) fun t60 =>
 bd (fa 1 t60) fun t61 =>
 bd (ld h t61) fun t62 =>
 bn (K 101 [t58,t62,e.s k71 5] h) fun t64 h1 =>
 bd (exV t64 0) fun t65 =>
 bd (exV t64 1) fun t66 =>
 ck (ld h t57) t58 (ck (ld h t61) t62 (some ⟨.nm,(ux71 e 9 t66).st 6 t65,h1⟩))) fun e h =>
 bd (nilC (e.s k71 0)) fun t69 =>
 bd (fa 2 t69) fun t70 =>
 bd (ld h t70) fun t71 =>
 bd (binK 0 .mul (.int .i64 5) t71) fun t72 =>
 bd (binK 0 .add t72 (e.s k71 8)) fun t74 =>
 bc k71 [67,68,69,70,71,72,73,74,75,76,7] e (K 96 [e.s k71 0,(.int .i64 28),t74,e.s k71 6] h) fun t76 h1 =>
 some ⟨.nm,(ux71 e 7 t76).st 5 t76,h1⟩)) fun e h =>
 bd (some (e.s k71 0)) fun t82 =>
 bd (some (e.s k71 5)) fun t83 =>
 bd (some (e.s k71 7)) fun t84 =>
 bk (K 102 [t82,t83,t84] h) (fun tp hp =>
 bd (some (e.s k71 0)) fun t77 =>
 bd (nilC t77) fun t78 =>
 bd (fa 6 t78) fun t79 =>
 bd (ld h t79) fun t80 =>
 bd (some (e.s k71 5)) fun t81 =>
 some ⟨.pn tp,fgE k71 [77,78,79,80,81,82,83,84,85,86] e,hp⟩) fun _ _ =>
 bn (K 102 [e.s k71 0,e.s k71 5,e.s k71 7] h) fun t85 h1 =>
 bd (nilC (e.s k71 0)) fun t78 =>
 bd (fa 6 t78) fun t79 =>
 bd (ld h1 t79) fun t80 =>
 bd (iaS 1 t80 (e.s k71 5)) fun t86 =>
 bf (stZ 1 h1 t86 t85) fun _ h2 =>
 ck (ld h t79) t80 (ck (ld h1 t79) t80 (some ⟨.nm,ux71 e 0 (e.s k71 0),h2⟩)))) fun e h =>
 bd (binK 0 .sub (e.s k71 4) (.int .i64 1)) fun t15 =>
 some ⟨.nm,(ux71 e 4 t15).st 2 t15,h⟩
def s71 (K:Oracle) (L:Looper) (e:E) (h:H):Out :=
 sq (bd (binK 0 .sub (e.s k71 1) (.int .i64 1)) fun t11 =>
 some ⟨.nm,(ux71 e 4 t11).st 2 t11,h⟩) fun e h =>
 blk 0 (L (l71_0 K L) e h)
def f71 (K:Oracle) (L:Looper) (p0 p1:V) (h:H):Option (Rv × H):=fin Tryz.prog k71 [] (s71 K L ⟨[p0,p1,V.und,V.und,V.und,V.und,V.und],0,p0⟩ h)
theorem r71:(fun K L p0 p1 h=>runFF Tryz.prog kp K L 71 [p0,p1] h)=f71:=by kernel_rfl
@[simp] def k72:List Nat:=[0,1,5,6,12,13,14]
@[simp] def ux72 (e:E) (t:Nat) (v:V):E:=⟨[e.s k72 0,e.s k72 1,e.s k72 5,e.s k72 6,e.s k72 12,e.s k72 13,e.s k72 14],t,v⟩
def l72_0 (K:Oracle) (L:Looper) (e:E) (h:H):Out :=
 sq (bd (binK 0 .lss (e.s k72 14) (e.s k72 13)) fun t15 =>
 some ⟨.nm,ux72 e 15 t15,h⟩) fun e h =>
 sq (br (e.s k72 15) (some ⟨.nm,e,h⟩)
 (some ⟨.ex 0,e,h⟩)) fun e h =>
 sq (blk 1 (sq (bd (iaS 1 (e.s k72 12) (e.s k72 14)) fun t16 =>
 bd (ld h t16) fun t17 =>
 some ⟨.nm,(ux72 e 5 t17).st 2 t17,h⟩) fun e h =>
 sq (sq (bd (nilC (e.s k72 0)) fun t19 =>
 bd (fa 6 t19) fun t20 =>
 bd (ld h t20) fun t21 =>
 bd (iaS 1 t21 (e.s k72 5)) fun t23 =>
 bd (ld h t23) fun t24 =>
 bd (binK 0 .eql t24 (.int .i64 0)) fun t25 =>
 some ⟨.nm,ux72 e 25 t25,h⟩) fun e h =>
 br (e.s k72 25) (some ⟨.ex 1,e,h⟩)
 (some ⟨.nm,e,h⟩)) fun e h =>
 sq (bd (nilC (e.s k72 0)) fun t27 =>
 bd (fa 5 t27) fun t28 =>
 bd (ld h t28) fun t29 =>
 bd (iaS 1 t29 (e.s k72 5)) fun t31 =>
 bd (ld h t31) fun t32 =>
 bd (binK 0 .lss t32 (.int .i64 0)) fun t33 =>
 bc k72 [26,27,28,29,30,31,32,33,34,6] e (K 97 [t33] h) fun t34 h1 =>
 some ⟨.nm,(ux72 e 6 t34).st 3 t34,h1⟩) fun e h =>
 sq (sq (bd (binK 0 .eql (e.s k72 5) (.int .i64 0)) fun t36 =>
 some ⟨.nm,ux72 e 36 t36,h⟩) fun e h =>
 br (e.s k72 36) (bd (some (e.s k72 0)) fun t37 =>
 bd (some (e.s k72 0)) fun t38 =>
 bd (nilC t38) fun t39 =>
 bd (fa 2 t39) fun t40 =>
 bd (ld h t40) fun t41 =>
 bd (binK 0 .mul (.int .i64 3) t41) fun t42 =>
 bd (some (e.s k72 0)) fun t43 =>
 bd (nilC t43) fun t44 =>
 bd (fa 3 t44) fun t45 =>
 bd (ld h t45) fun t46 =>
 bd (binK 0 .add t42 t46) fun t47 =>
 bd (some (e.s k72 6)) fun t48 =>
 bk (K 96 [t37,(.int .i64 30),t47,t48] h) (fun tp hp =>
 some ⟨.pn tp,fgE k72 [37,38,39,40,41,42,43,44,45,46,47,48,49,6] e,hp⟩) fun _ _ =>
 bd (nilC (e.s k72 0)) fun t39 =>
 bd (fa 2 t39) fun t40 =>
 bd (ld h t40) fun t41 =>
 bd (binK 0 .mul (.int .i64 3) t41) fun t42 =>
 bd (nilC (e.s k72 0)) fun t44 =>
 bd (fa 3 t44) fun t45 =>
 bd (ld h t45) fun t46 =>
 bd (binK 0 .add t42 t46) fun t47 =>
 bn (K 96 [e.s k72 0,(.int .i64 30),t47,e.s k72 6] h) fun t49 h1 =>
 ck (ld h t40) t41 (ck (ld h t45) t46 (some ⟨.nm,(ux72 e 6 t49).st 3 t49,h1⟩)))
 (bc k72 [50,51,52,6] e (K 100 [e.s k72 0,(.int .i64 1),e.s k72 6] h) fun t52 h1 =>
 some ⟨.nm,(ux72 e 6 t52).st 3 t52,h1⟩)) fun e h =>
 sq (bd (binK 0 .eql (e.s k72 6) (.int .i64 1)) fun t54 =>
 some ⟨.nm,ux72 e 54 t54,h⟩) fun e h =>
 br (e.s k72 54) (bd (nilC (e.s k72 0)) fun t56 =>
 bd (fa 6 t56) fun t57 =>
 bd (ld h t57) fun t58 =>
 bd (nilC (e.s k72 0)) fun t61 =>
 bd (fa 6 t61) fun t62 =>
 bd (ld h t62) fun t63 =>
 bd (iaS 1 t63 (e.s k72 5)) fun t65 =>
 bd (ld h t65) fun t66 =>
 bd (unV .neg t66) fun t67 =>
 bd (iaS 1 t58 (e.s k72 5)) fun t68 =>
 bf (stZ 1 h t68 t67) fun _ h1 =>
 ck (ld h t57) t58 (ck (ld h t62) t63 (ck (ld h t65) t66 (some ⟨.nm,ux72 e 0 (e.s k72 0),h1⟩))))
 (some ⟨.nm,e,h⟩))) fun e h =>
 bd (binK 0 .add (e.s k72 14) (.int .i64 1)) fun t69 =>
 some ⟨.nm,(ux72 e 14 t69).st 6 t69,h⟩
def s72 (K:Oracle) (L:Looper) (e:E) (h:H):Out :=
 sq (bd (nilC (e.s k72 0)) fun t8 =>
 bd (fa 4 t8) fun t9 =>
 bd (ld h t9) fun t10 =>
 bd (slS 1 t10 none (some (e.s k72 1)) none) fun t12 =>
 bd (lnS t12) fun t13 =>
 some ⟨.nm,(((ux72 e 14 (.int .i64 0)).st 4 t12).st 5 t13).st 6 (.int .i64 0),h⟩) fun e h =>
 blk 0 (L (l72_0 K L) e h)
def f72 (K:Oracle) (L:Looper) (p0 p1:V) (h:H):Option (Rv × H):=fin Tryz.prog k72 [] (s72 K L ⟨[p0,p1,V.und,V.und,V.und,V.und,V.und],0,p0⟩ h)
theorem r72:(fun K L p0 p1 h=>runFF Tryz.prog kp K L 72 [p0,p1] h)=f72:=by kernel_rfl
@[simp] def k73:List Nat:=[0,2,3,4,5]
@[simp] def ux73 (e:E) (t:Nat) (v:V):E:=⟨[e.s k73 0,e.s k73 2,e.s k73 3,e.s k73 4,e.s k73 5],t,v⟩
def s73 (K:Oracle) (L:Looper) (e:E) (h:H):Out :=
 sq (some ⟨.nm,(((ux73 e 4 (.int .i64 0)).st 1 (.int .i64 0)).st 2 (.int .i64 0)).st 3 (.int .i64 0),h⟩) fun e h =>
 sq (sq (bd (binK 0 .lss (e.s k73 0) (.int .i64 0)) fun t7 =>
 bd (gl t7 false (some (e.s k73 0))) fun t9 =>
 bd (gl t7 false (binK 0 .geq t9 (.int .i64 32))) fun t10 =>
 bd (pk t7 (.bool true) t10) fun t11 =>
 some ⟨.nm,ux73 e 11 t11,h⟩) fun e h =>
 br (e.s k73 11) (sq (some ⟨.nm,(((ux73 e 4 (.int .i64 41)).st 1 (.int .i64 0)).st 2 (.int .i64 0)).st 3 (.int .i64 41),h⟩) fun e h =>
 some ⟨.rt,e,h⟩)
 (some ⟨.nm,e,h⟩)) fun e h =>
 sq (bc k73 [12,13,14,15,5] e (K 35 [] h) fun t12 h1 =>
 bd (iaS 3 t12 (e.s k73 0)) fun t14 =>
 bd (ldn 3 h1 t14) fun t15 =>
 bf (nw h1 81 [(.int .i64 0),(.int .i64 0),(.int .i64 0)]) fun t5 h2 =>
 bf (stZ 3 h2 t5 t15) fun _ h3 =>
 some ⟨.nm,(ux73 e 0 (e.s k73 0)).st 4 t5,h3⟩) fun e h =>
 sq (bd (iaA 3 1 (e.s k73 5) (.int .i64 0)) fun t16 =>
 bd (ld h t16) fun t17 =>
 bd (iaA 3 1 (e.s k73 5) (.int .i64 1)) fun t18 =>
 bd (ld h t18) fun t19 =>
 ck (ld h t16) t17 (ck (ld h t18) t19 (some ⟨.nm,(((ux73 e 4 (.int .i64 0)).st 1 t17).st 2 t19).st 3 (.int .i64 0),h⟩))) fun e h =>
 some ⟨.rt,e,h⟩
def f73 (K:Oracle) (L:Looper) (p0:V) (h:H):Option (Rv × H):=fin Tryz.prog k73 [.tmp 2,.tmp 3,.tmp 4] (s73 K L ⟨[p0,V.und,V.und,V.und,V.und],0,p0⟩ h)
theorem r73:(fun K L p0 h=>runFF Tryz.prog kp K L 73 [p0] h)=f73:=by kernel_rfl
@[simp] def k74:List Nat:=[0,1,2,4,5,6]
@[simp] def ux74 (e:E) (t:Nat) (v:V):E:=⟨[e.s k74 0,e.s k74 1,e.s k74 2,e.s k74 4,e.s k74 5,e.s k74 6],t,v⟩
def s74 (K:Oracle) (L:Looper) (e:E) (h:H):Out :=
 sq (bf (bx h 76 (e.s k74 0)) fun t2 h1 =>
 some ⟨.nm,((((ux74 e 6 (.int .i64 0)).st 2 t2).st 3 (.int .u32 0)).st 4 (.int .u32 0)).st 5 (.int .i64 0),h1⟩) fun e h =>
 sq (sq (bd (ldn 2 h (e.s k74 2)) fun t7 =>
 bc k74 [7,8,9,10,11,12,13,14,15,16,17,18,19,20] e (K 66 [t7] h) fun t8 h1 =>
 bd (binK 0 .neq t8 (.int .i64 0)) fun t9 =>
 bd (gl t9 false (some (e.s k74 1))) fun t11 =>
 bd (gl t9 false (binK 0 .lss t11 (.int .i64 0))) fun t12 =>
 bd (pk t9 (.bool true) t12) fun t13 =>
 bd (gl t13 false (some (e.s k74 1))) fun t15 =>
 bd (gl t13 false (fa 0 (e.s k74 2))) fun t16 =>
 bd (gl t13 false (ld h1 t16)) fun t17 =>
 bd (gl t13 false (lnS t17)) fun t18 =>
 bd (gl t13 false (binK 0 .geq t15 t18)) fun t19 =>
 bd (pk t13 (.bool true) t19) fun t20 =>
 some ⟨.nm,ux74 e 20 t20,h1⟩) fun e h =>
 br (e.s k74 20) (sq (some ⟨.nm,(((ux74 e 6 (.int .i64 2)).st 3 (.int .u32 0)).st 4 (.int .u32 0)).st 5 (.int .i64 2),h⟩) fun e h =>
 some ⟨.rt,e,h⟩)
 (some ⟨.nm,e,h⟩)) fun e h =>
 sq (bd (ldn 2 h (e.s k74 2)) fun t21 =>
 bd (some (e.s k74 1)) fun t22 =>
 bd (binK 0 .sub t22 (.int .i64 1)) fun t23 =>
 bk (K 103 [t21,t23] h) (fun tp hp =>
 bd (ldn 2 h (e.s k74 2)) fun t26 =>
 bd (some (e.s k74 1)) fun t27 =>
 some ⟨.pn tp,fgE k74 [21,22,23,24,25,26,27,28,29,4,5,6] e,hp⟩) fun _ _ =>
 bd (ldn 2 h (e.s k74 2)) fun t21 =>
 bd (binK 0 .sub (e.s k74 1) (.int .i64 1)) fun t23 =>
 bn (K 103 [t21,t23] h) fun t24 h1 =>
 bd (ldn 2 h1 (e.s k74 2)) fun t26 =>
 bn (K 103 [t26,e.s k74 1] h1) fun t28 h2 =>
 bd (cv .u32 t24) fun t25 =>
 bd (cv .u32 t28) fun t29 =>
 ck (ldn 2 h (e.s k74 2)) t21 (ck (ldn 2 h (e.s k74 2)) t26 (ck (ldn 2 h1 (e.s k74 2)) t26 (some ⟨.nm,(((ux74 e 6 (.int .i64 0)).st 3 t25).st 4 t29).st 5 (.int .i64 0),h2⟩)))) fun e h =>
 some ⟨.rt,e,h⟩
def f74 (K:Oracle) (L:Looper) (p0 p1:V) (h:H):Option (Rv × H):=fin Tryz.prog k74 [.tmp 4,.tmp 5,.tmp 6] (s74 K L ⟨[p0,p1,V.und,V.und,V.und,V.und],0,p0⟩ h)
theorem r74:(fun K L p0 p1 h=>runFF Tryz.prog kp K L 74 [p0,p1] h)=f74:=by kernel_rfl
@[simp] def k75:List Nat:=[0,1,2,6,7,8]
@[simp] def ux75 (e:E) (t:Nat) (v:V):E:=⟨[e.s k75 0,e.s k75 1,e.s k75 2,e.s k75 6,e.s k75 7,e.s k75 8],t,v⟩
def l75_0 (K:Oracle) (L:Looper) (e:E) (h:H):Out :=
 sq (sq (bd (nilC (e.s k75 0)) fun t40 =>
 bd (fa 2 t40) fun t41 =>
 bd (ld h t41) fun t42 =>
 bd (binK 0 .lss t42 (.int .u64 16777216)) fun t43 =>
 some ⟨.nm,ux75 e 43 t43,h⟩) fun e h =>
 br (e.s k75 43) (some ⟨.nm,e,h⟩)
 (some ⟨.ex 0,e,h⟩)) fun e h =>
 blk 1 (sq (bc k75 [44,45] e (K 86 [e.s k75 0] h) fun t45 h1 =>
 some ⟨.nm,ux75 e 45 t45,h1⟩) fun e h =>
 bd (nilC (e.s k75 0)) fun t48 =>
 bd (fa 2 t48) fun t49 =>
 bd (ld h t49) fun t50 =>
 bd (binK 0 .mul t50 (.int .u64 256)) fun t51 =>
 bd (nilC (e.s k75 0)) fun t52 =>
 bd (fa 2 t52) fun t53 =>
 bf (stZ 1 h t53 t51) fun _ h1 =>
 some ⟨.nm,ux75 e 0 (e.s k75 0),h1⟩)
def s75 (K:Oracle) (L:Looper) (e:E) (h:H):Out :=
 sq (some ⟨.nm,(ux75 e 6 (.int .i64 0)).st 3 (.int .i64 0),h⟩) fun e h =>
 sq (sq (bd (binK 0 .geq (e.s k75 1) (e.s k75 2)) fun t11 =>
 bd (gl t11 false (some (e.s k75 2))) fun t13 =>
 bd (gl t11 false (binK 0 .gtr t13 (.int .u32 32768))) fun t14 =>
 bd (pk t11 (.bool true) t14) fun t15 =>
 some ⟨.nm,ux75 e 15 t15,h⟩) fun e h =>
 br (e.s k75 15) (sq (some ⟨.nm,(ux75 e 6 (.int .i64 2)).st 3 (.int .i64 2),h⟩) fun e h =>
 some ⟨.rt,e,h⟩)
 (some ⟨.nm,e,h⟩)) fun e h =>
 sq (bd (nilC (e.s k75 0)) fun t18 =>
 bd (fa 2 t18) fun t19 =>
 bd (ld h t19) fun t20 =>
 bc k75 [17,18,19,20,21,22,23,16,24,25,7,8] e (K 104 [t20,e.s k75 1,e.s k75 2] h) fun t23 h1 =>
 bd (exV t23 0) fun t24 =>
 bd (exV t23 1) fun t25 =>
 some ⟨.nm,((ux75 e 8 t25).st 4 t24).st 5 t25,h1⟩) fun e h =>
 sq (bd (nilC (e.s k75 0)) fun t28 =>
 bd (fa 1 t28) fun t29 =>
 bd (ld h t29) fun t30 =>
 bd (binK 0 .add t30 (e.s k75 7)) fun t32 =>
 bd (nilC (e.s k75 0)) fun t33 =>
 bd (fa 1 t33) fun t34 =>
 bf (stZ 1 h t34 t32) fun _ h1 =>
 some ⟨.nm,ux75 e 0 (e.s k75 0),h1⟩) fun e h =>
 sq (bd (nilC (e.s k75 0)) fun t37 =>
 bd (fa 2 t37) fun t38 =>
 bf (stZ 1 h t38 (e.s k75 8)) fun _ h1 =>
 some ⟨.nm,ux75 e 0 (e.s k75 0),h1⟩) fun e h =>
 sq (blk 0 (L (l75_0 K L) e h)) fun e h =>
 sq (some ⟨.nm,(ux75 e 6 (.int .i64 0)).st 3 (.int .i64 0),h⟩) fun e h =>
 some ⟨.rt,e,h⟩
def f75 (K:Oracle) (L:Looper) (p0 p1 p2:V) (h:H):Option (Rv × H):=fin Tryz.prog k75 [.tmp 6] (s75 K L ⟨[p0,p1,p2,V.und,V.und,V.und],0,p0⟩ h)
theorem r75:(fun K L p0 p1 p2 h=>runFF Tryz.prog kp K L 75 [p0,p1,p2] h)=f75:=by kernel_rfl
@[simp] def k76:List Nat:=[0,2,3]
@[simp] def ux76 (e:E) (t:Nat) (v:V):E:=⟨[e.s k76 0,e.s k76 2,e.s k76 3],t,v⟩
def s76 (K:Oracle) (L:Looper) (e:E) (h:H):Out :=
 sq (some ⟨.nm,((ux76 e 3 (.int .i64 0)).st 1 (.int .u32 0)).st 2 (.int .i64 0),h⟩) fun e h =>
 sq (bd (nilC (e.s k76 0)) fun t5 =>
 bd (fa 2 t5) fun t6 =>
 bd (ld h t6) fun t7 =>
 bd (nilC (e.s k76 0)) fun t9 =>
 bd (fa 3 t9) fun t10 =>
 bd (ld h t10) fun t11 =>
 bd (binK 0 .quo t11 (.int .u64 32768)) fun t12 =>
 bd (binK 0 .quo t7 t12) fun t13 =>
 bd (minV [t13,(.int .u64 32767)]) fun t14 =>
 bd (cv .u32 t14) fun t15 =>
 ck (ld h t6) t7 (ck (ld h t10) t11 (some ⟨.nm,((ux76 e 3 (.int .i64 0)).st 1 t15).st 2 (.int .i64 0),h⟩))) fun e h =>
 some ⟨.rt,e,h⟩
def f76 (K:Oracle) (L:Looper) (p0:V) (h:H):Option (Rv × H):=fin Tryz.prog k76 [.tmp 2,.tmp 3] (s76 K L ⟨[p0,V.und,V.und],0,p0⟩ h)
theorem r76:(fun K L p0 h=>runFF Tryz.prog kp K L 76 [p0] h)=f76:=by kernel_rfl
@[simp] def k77:List Nat:=[0,1,2,4,5,6]
@[simp] def ux77 (e:E) (t:Nat) (v:V):E:=⟨[e.s k77 0,e.s k77 1,e.s k77 2,e.s k77 4,e.s k77 5,e.s k77 6],t,v⟩
def l77_0 (K:Oracle) (L:Looper) (e:E) (h:H):Out :=
 sq (sq (bd (ldn 2 h (e.s k77 2)) fun t14 =>
 bc k77 [14,15,16,17,18,19] e (K 103 [t14,e.s k77 6] h) fun t16 h1 =>
 bd (cv .i64 (e.s k77 1)) fun t18 =>
 bd (binK 0 .leq t16 t18) fun t19 =>
 some ⟨.nm,ux77 e 19 t19,h1⟩) fun e h =>
 br (e.s k77 19) (some ⟨.nm,e,h⟩)
 (some ⟨.ex 0,e,h⟩)) fun e h =>
 blk 1 (bd (binK 0 .add (e.s k77 6) (.int .i64 1)) fun t21 =>
 some ⟨.nm,(ux77 e 6 t21).st 5 t21,h⟩)
def s77 (K:Oracle) (L:Looper) (e:E) (h:H):Out :=
 sq (bf (bx h 76 (e.s k77 0)) fun t2 h1 =>
 some ⟨.nm,(((ux77 e 5 (.int .i64 0)).st 2 t2).st 3 (.int .i64 0)).st 4 (.int .i64 0),h1⟩) fun e h =>
 sq (sq (bd (ldn 2 h (e.s k77 2)) fun t7 =>
 bc k77 [7,8,9,10,11,12,13] e (K 66 [t7] h) fun t8 h1 =>
 bd (binK 0 .neq t8 (.int .i64 0)) fun t9 =>
 bd (gl t9 false (some (e.s k77 1))) fun t11 =>
 bd (gl t9 false (binK 0 .gtr t11 (.int .u32 32767))) fun t12 =>
 bd (pk t9 (.bool true) t12) fun t13 =>
 some ⟨.nm,ux77 e 13 t13,h1⟩) fun e h =>
 br (e.s k77 13) (sq (some ⟨.nm,((ux77 e 5 (.int .i64 2)).st 3 (.int .i64 0)).st 4 (.int .i64 2),h⟩) fun e h =>
 some ⟨.rt,e,h⟩)
 (some ⟨.nm,e,h⟩)) fun e h =>
 sq (some ⟨.nm,(ux77 e 6 (.int .i64 0)).st 5 (.int .i64 0),h⟩) fun e h =>
 sq (blk 0 (L (l77_0 K L) e h)) fun e h =>
 sq (some ⟨.nm,((ux77 e 5 (.int .i64 0)).st 3 (e.s k77 6)).st 4 (.int .i64 0),h⟩) fun e h =>
 some ⟨.rt,e,h⟩
def f77 (K:Oracle) (L:Looper) (p0 p1:V) (h:H):Option (Rv × H):=fin Tryz.prog k77 [.tmp 4,.tmp 5] (s77 K L ⟨[p0,p1,V.und,V.und,V.und,V.und],0,p0⟩ h)
theorem r77:(fun K L p0 p1 h=>runFF Tryz.prog kp K L 77 [p0,p1] h)=f77:=by kernel_rfl
@[simp] def k78:List Nat:=[0,1,2,6,7,9,10]
@[simp] def ux78 (e:E) (t:Nat) (v:V):E:=⟨[e.s k78 0,e.s k78 1,e.s k78 2,e.s k78 6,e.s k78 7,e.s k78 9,e.s k78 10],t,v⟩
def l78_0 (K:Oracle) (L:Looper) (e:E) (h:H):Out :=
 sq (sq (bd (nilC (e.s k78 0)) fun t52 =>
 bd (fa 3 t52) fun t53 =>
 bd (ld h t53) fun t54 =>
 bd (binK 0 .lss t54 (.int .u64 16777216)) fun t55 =>
 some ⟨.nm,ux78 e 55 t55,h⟩) fun e h =>
 br (e.s k78 55) (some ⟨.nm,e,h⟩)
 (some ⟨.ex 0,e,h⟩)) fun e h =>
 blk 1 (sq (bd (some (e.s k78 0)) fun t62 =>
 bk (K 88 [t62] h) (fun tp hp =>
 bd (some (e.s k78 0)) fun t56 =>
 bd (some (e.s k78 0)) fun t57 =>
 bd (nilC t57) fun t58 =>
 bd (fa 2 t58) fun t59 =>
 bd (ld h t59) fun t60 =>
 bd (binK 0 .mul t60 (.int .u64 256)) fun t61 =>
 some ⟨.pn tp,fgE k78 [56,57,58,59,60,61,62,63,64,65,66] e,hp⟩) fun _ _ =>
 bn (K 88 [e.s k78 0] h) fun t63 h1 =>
 bd (nilC (e.s k78 0)) fun t58 =>
 bd (fa 2 t58) fun t59 =>
 bd (ld h1 t59) fun t60 =>
 bd (binK 0 .mul t60 (.int .u64 256)) fun t61 =>
 bd (binK 0 .add t61 t63) fun t64 =>
 bd (nilC (e.s k78 0)) fun t65 =>
 bd (fa 2 t65) fun t66 =>
 bf (stZ 1 h1 t66 t64) fun _ h2 =>
 ck (ld h t59) t60 (ck (ld h1 t59) t60 (some ⟨.nm,ux78 e 0 (e.s k78 0),h2⟩))) fun e h =>
 bd (nilC (e.s k78 0)) fun t69 =>
 bd (fa 3 t69) fun t70 =>
 bd (ld h t70) fun t71 =>
 bd (binK 0 .mul t71 (.int .u64 256)) fun t72 =>
 bd (nilC (e.s k78 0)) fun t73 =>
 bd (fa 3 t73) fun t74 =>
 bf (stZ 1 h t74 t72) fun _ h1 =>
 some ⟨.nm,ux78 e 0 (e.s k78 0),h1⟩)
def s78 (K:Oracle) (L:Looper) (e:E) (h:H):Out :=
 sq (some ⟨.nm,(ux78 e 6 (.int .i64 0)).st 3 (.int .i64 0),h⟩) fun e h =>
 sq (bc k78 [12,13,11,14,15,7,8] e (K 76 [e.s k78 0] h) fun t13 h1 =>
 bd (exV t13 0) fun t14 =>
 bd (exV t13 1) fun t15 =>
 some ⟨.nm,(ux78 e 8 t15).st 4 t14,h1⟩) fun e h =>
 sq (sq (bd (binK 0 .gtr (e.s k78 1) (e.s k78 7)) fun t18 =>
 bd (gl t18 false (some (e.s k78 7))) fun t20 =>
 bd (gl t18 false (some (e.s k78 2))) fun t21 =>
 bd (gl t18 false (binK 0 .geq t20 t21)) fun t22 =>
 bd (pk t18 (.bool true) t22) fun t23 =>
 bd (gl t23 false (some (e.s k78 2))) fun t25 =>
 bd (gl t23 false (binK 0 .gtr t25 (.int .u32 32768))) fun t26 =>
 bd (pk t23 (.bool true) t26) fun t27 =>
 some ⟨.nm,ux78 e 27 t27,h⟩) fun e h =>
 br (e.s k78 27) (sq (some ⟨.nm,(ux78 e 6 (.int .i64 2)).st 3 (.int .i64 2),h⟩) fun e h =>
 some ⟨.rt,e,h⟩)
 (some ⟨.nm,e,h⟩)) fun e h =>
 sq (bd (nilC (e.s k78 0)) fun t30 =>
 bd (fa 3 t30) fun t31 =>
 bd (ld h t31) fun t32 =>
 bc k78 [29,30,31,32,33,34,35,28,36,37,9,10] e (K 104 [t32,e.s k78 1,e.s k78 2] h) fun t35 h1 =>
 bd (exV t35 0) fun t36 =>
 bd (exV t35 1) fun t37 =>
 some ⟨.nm,((ux78 e 10 t37).st 5 t36).st 6 t37,h1⟩) fun e h =>
 sq (bd (nilC (e.s k78 0)) fun t40 =>
 bd (fa 2 t40) fun t41 =>
 bd (ld h t41) fun t42 =>
 bd (binK 0 .sub t42 (e.s k78 9)) fun t44 =>
 bd (nilC (e.s k78 0)) fun t45 =>
 bd (fa 2 t45) fun t46 =>
 bf (stZ 1 h t46 t44) fun _ h1 =>
 some ⟨.nm,ux78 e 0 (e.s k78 0),h1⟩) fun e h =>
 sq (bd (nilC (e.s k78 0)) fun t49 =>
 bd (fa 3 t49) fun t50 =>
 bf (stZ 1 h t50 (e.s k78 10)) fun _ h1 =>
 some ⟨.nm,ux78 e 0 (e.s k78 0),h1⟩) fun e h =>
 sq (blk 0 (L (l78_0 K L) e h)) fun e h =>
 sq (some ⟨.nm,(ux78 e 6 (.int .i64 0)).st 3 (.int .i64 0),h⟩) fun e h =>
 some ⟨.rt,e,h⟩
def f78 (K:Oracle) (L:Looper) (p0 p1 p2:V) (h:H):Option (Rv × H):=fin Tryz.prog k78 [.tmp 6] (s78 K L ⟨[p0,p1,p2,V.und,V.und,V.und,V.und],0,p0⟩ h)
theorem r78:(fun K L p0 p1 p2 h=>runFF Tryz.prog kp K L 78 [p0,p1,p2] h)=f78:=by kernel_rfl
@[simp] def k79:List Nat:=[0,1,2,4,5,6,7,8,9,10,11,12]
@[simp] def ux79 (e:E) (t:Nat) (v:V):E:=⟨[e.s k79 0,e.s k79 1,e.s k79 2,e.s k79 4,e.s k79 5,e.s k79 6,e.s k79 7,e.s k79 8,e.s k79 9,e.s k79 10,e.s k79 11,e.s k79 12],t,v⟩
def l79_0 (K:Oracle) (L:Looper) (e:E) (h:H):Out :=
 sq (sq (bd (binK 0 .lss (e.s k79 9) (e.s k79 7)) fun t47 =>
 some ⟨.nm,ux79 e 47 t47,h⟩) fun e h =>
 br (e.s k79 47) (some ⟨.nm,e,h⟩)
 (some ⟨.ex 0,e,h⟩)) fun e h =>
 sq (blk 1 (bd (binK 0 .mul (e.s k79 8) (.int .i64 2)) fun t51 =>
 some ⟨.nm,(ux79 e 8 t51).st 7 t51,h⟩)) fun e h =>
 bd (binK 0 .add (e.s k79 9) (.int .i64 1)) fun t49 =>
 some ⟨.nm,(ux79 e 9 t49).st 8 t49,h⟩
def l79_1 (K:Oracle) (L:Looper) (e:E) (h:H):Out :=
 sq (sq (bd (binK 0 .lss (e.s k79 11) (e.s k79 6)) fun t59 =>
 some ⟨.nm,ux79 e 59 t59,h⟩) fun e h =>
 br (e.s k79 59) (some ⟨.nm,e,h⟩)
 (some ⟨.ex 2,e,h⟩)) fun e h =>
 sq (blk 3 (sq (bd (fa 0 (e.s k79 2)) fun t62 =>
 bd (ld h t62) fun t63 =>
 bd (iaS 1 t63 (e.s k79 11)) fun t65 =>
 bd (ld h t65) fun t66 =>
 bd (cv .i64 t66) fun t67 =>
 some ⟨.nm,(ux79 e 12 t67).st 11 t67,h⟩) fun e h =>
 sq (sq (bd (binK 0 .sub (e.s k79 6) (.int .i64 1)) fun t70 =>
 bd (binK 0 .lss (e.s k79 11) t70) fun t71 =>
 bd (gl t71 true (some (e.s k79 11))) fun t73 =>
 bd (gl t71 true (some (e.s k79 1))) fun t74 =>
 bd (gl t71 true (binK 0 .geq t73 t74)) fun t75 =>
 bd (pk t71 t75 (.bool false)) fun t76 =>
 some ⟨.nm,ux79 e 76 t76,h⟩) fun e h =>
 br (e.s k79 76) (bd (binK 0 .sub (.int .i64 32768) (e.s k79 12)) fun t79 =>
 bd (binK 0 .quo t79 (e.s k79 8)) fun t81 =>
 bd (binK 0 .add (e.s k79 12) t81) fun t82 =>
 some ⟨.nm,(ux79 e 12 t82).st 11 t82,h⟩)
 (sq (bd (binK 0 .sub (e.s k79 6) (.int .i64 1)) fun t85 =>
 bd (binK 0 .lss (e.s k79 11) t85) fun t86 =>
 some ⟨.nm,ux79 e 86 t86,h⟩) fun e h =>
 br (e.s k79 86) (bd (binK 0 .quo (e.s k79 12) (e.s k79 8)) fun t90 =>
 bd (binK 0 .sub (e.s k79 12) t90) fun t91 =>
 some ⟨.nm,(ux79 e 12 t91).st 11 t91,h⟩)
 (some ⟨.nm,e,h⟩))) fun e h =>
 bd (fa 0 (e.s k79 10)) fun t92 =>
 bd (ld h t92) fun t93 =>
 bd (cv .u16 (e.s k79 12)) fun t95 =>
 bf (bs h 97 1 [(.int .u16 0)] [(some (0,1),t95)]) fun t96 h1 =>
 bf (apZ 97 1 2 h1 t93 t96) fun t97 h2 =>
 bd (fa 0 (e.s k79 10)) fun t98 =>
 bf (stZ 1 h2 t98 t97) fun _ h3 =>
 some ⟨.nm,ux79 e 0 (e.s k79 0),h3⟩)) fun e h =>
 bd (binK 0 .add (e.s k79 11) (.int .i64 1)) fun t61 =>
 some ⟨.nm,(ux79 e 11 t61).st 10 t61,h⟩
def s79 (K:Oracle) (L:Looper) (e:E) (h:H):Out :=
 sq (bf (bx h 76 (e.s k79 0)) fun t2 h1 =>
 bf (nw h1 76 [.nils,(.int .i64 0)]) fun t4 h2 =>
 some ⟨.nm,(((ux79 e 5 (.int .i64 0)).st 2 t2).st 3 t4).st 4 (.int .i64 0),h2⟩) fun e h =>
 sq (sq (bd (ldn 2 h (e.s k79 2)) fun t13 =>
 bc k79 [13,14,15,16,17,18,19,20,21,22,23,24,25,26] e (K 66 [t13] h) fun t14 h1 =>
 bd (binK 0 .neq t14 (.int .i64 0)) fun t15 =>
 bd (gl t15 false (some (e.s k79 1))) fun t17 =>
 bd (gl t15 false (binK 0 .lss t17 (.int .i64 0))) fun t18 =>
 bd (pk t15 (.bool true) t18) fun t19 =>
 bd (gl t19 false (some (e.s k79 1))) fun t21 =>
 bd (gl t19 false (fa 0 (e.s k79 2))) fun t22 =>
 bd (gl t19 false (ld h1 t22)) fun t23 =>
 bd (gl t19 false (lnS t23)) fun t24 =>
 bd (gl t19 false (binK 0 .geq t21 t24)) fun t25 =>
 bd (pk t19 (.bool true) t25) fun t26 =>
 some ⟨.nm,ux79 e 26 t26,h1⟩) fun e h =>
 br (e.s k79 26) (sq (bd (bl [.nils,(.int .i64 0)] []) fun t27 =>
 bf (stZ 2 h (e.s k79 4) t27) fun _ h1 =>
 some ⟨.nm,(ux79 e 5 (.int .i64 2)).st 4 (.int .i64 2),h1⟩) fun e h =>
 some ⟨.rt,e,h⟩)
 (some ⟨.nm,e,h⟩)) fun e h =>
 sq (bd (fa 0 (e.s k79 2)) fun t28 =>
 bd (ld h t28) fun t29 =>
 bd (lnS t29) fun t30 =>
 some ⟨.nm,(ux79 e 6 t30).st 5 t30,h⟩) fun e h =>
 sq (bc k79 [31,32,33,34,7] e (K 105 [e.s k79 6] h) fun t32 h1 =>
 bd (minV [t32,(.int .i64 2)]) fun t33 =>
 bd (binK 0 .add (.int .i64 3) t33) fun t34 =>
 some ⟨.nm,(ux79 e 7 t34).st 6 t34,h1⟩) fun e h =>
 sq (sq (bd (fa 1 (e.s k79 2)) fun t35 =>
 bd (ld h t35) fun t36 =>
 bd (binK 0 .gtr t36 (.int .i64 15)) fun t37 =>
 some ⟨.nm,ux79 e 37 t37,h⟩) fun e h =>
 br (e.s k79 37) (bd (binK 0 .add (e.s k79 7) (.int .i64 1)) fun t39 =>
 some ⟨.nm,(ux79 e 7 t39).st 6 t39,h⟩)
 (some ⟨.nm,e,h⟩)) fun e h =>
 sq (sq (bd (fa 1 (e.s k79 2)) fun t40 =>
 bd (ld h t40) fun t41 =>
 bd (binK 0 .gtr t41 (.int .i64 31)) fun t42 =>
 some ⟨.nm,ux79 e 42 t42,h⟩) fun e h =>
 br (e.s k79 42) (bd (binK 0 .add (e.s k79 7) (.int .i64 1)) fun t44 =>
 some ⟨.nm,(ux79 e 7 t44).st 6 t44,h⟩)
 (some ⟨.nm,e,h⟩)) fun e h =>
 sq (some ⟨.nm,(ux79 e 8 (.int .i64 1)).st 7 (.int .i64 1),h⟩) fun e h =>
 sq (sq (some ⟨.nm,(ux79 e 9 (.int .i64 0)).st 8 (.int .i64 0),h⟩) fun e h =>
 blk 0 (L (l79_0 K L) e h)) fun e h =>
 sq (bd (fa 1 (e.s k79 2)) fun t52 =>
 bd (ld h t52) fun t53 =>
 bd (binK 0 .add t53 (.int .i64 1)) fun t54 =>
 bd (minV [t54,(.int .i64 32)]) fun t55 =>
 bd (bl [.nils,(.int .i64 0)] [(some (1,1),t55)]) fun t56 =>
 bf (nw h 76 [.nils,(.int .i64 0)]) fun t10 h1 =>
 bf (stZ 2 h1 t10 t56) fun _ h2 =>
 some ⟨.nm,(ux79 e 0 (e.s k79 0)).st 9 t10,h2⟩) fun e h =>
 sq (sq (some ⟨.nm,(ux79 e 11 (.int .i64 0)).st 10 (.int .i64 0),h⟩) fun e h =>
 blk 2 (L (l79_1 K L) e h)) fun e h =>
 sq (bd (ldn 2 h (e.s k79 10)) fun t99 =>
 bf (stZ 2 h (e.s k79 4) t99) fun _ h1 =>
 some ⟨.nm,(ux79 e 5 (.int .i64 0)).st 4 (.int .i64 0),h1⟩) fun e h =>
 some ⟨.rt,e,h⟩
def f79 (K:Oracle) (L:Looper) (p0 p1:V) (h:H):Option (Rv × H):=fin Tryz.prog k79 [.cell 4 76,.tmp 5] (s79 K L ⟨[p0,p1,V.und,V.und,V.und,V.und,V.und,V.und,V.und,V.und,V.und,V.und],0,p0⟩ h)
theorem r79:(fun K L p0 p1 h=>runFF Tryz.prog kp K L 79 [p0,p1] h)=f79:=by kernel_rfl
@[simp] def k80:List Nat:=[0,1,2,6,7]
@[simp] def ux80 (e:E) (t:Nat) (v:V):E:=⟨[e.s k80 0,e.s k80 1,e.s k80 2,e.s k80 6,e.s k80 7],t,v⟩
def s80 (K:Oracle) (L:Looper) (e:E) (h:H):Out :=
 sq (some ⟨.nm,(ux80 e 6 (.bool false)).st 3 (.bool false),h⟩) fun e h =>
 sq (bc k80 [8,9,7] e (K 45 [e.s k80 1] h) fun t9 h1 =>
 some ⟨.nm,(ux80 e 7 t9).st 4 t9,h1⟩) fun e h =>
 sq (bd (binK 0 .gtr (e.s k80 7) (.int .i64 0)) fun t11 =>
 bd (gl t11 true (some (e.s k80 0))) fun t13 =>
 bd (gl t11 true (lnS t13)) fun t14 =>
 bd (gl t11 true (some (e.s k80 7))) fun t15 =>
 bd (gl t11 true (some (e.s k80 7))) fun t16 =>
 bd (gl t11 true (binK 0 .mul t15 t16)) fun t17 =>
 bd (gl t11 true (binK 0 .eql t14 t17)) fun t18 =>
 bd (pk t11 t18 (.bool false)) fun t19 =>
 bd (gl t19 true (some (e.s k80 2))) fun t21 =>
 bd (gl t19 true (binK 0 .geq t21 (.int .i64 0))) fun t22 =>
 bd (pk t19 t22 (.bool false)) fun t23 =>
 bd (gl t23 true (some (e.s k80 2))) fun t25 =>
 bd (gl t23 true (some (e.s k80 7))) fun t26 =>
 bd (gl t23 true (some (e.s k80 7))) fun t27 =>
 bd (gl t23 true (binK 0 .mul t26 t27)) fun t28 =>
 bd (gl t23 true (binK 0 .lss t25 t28)) fun t29 =>
 bd (pk t23 t29 (.bool false)) fun t30 =>
 some ⟨.nm,(ux80 e 6 t30).st 3 t30,h⟩) fun e h =>
 some ⟨.rt,e,h⟩
def f80 (K:Oracle) (L:Looper) (p0 p1 p2:V) (h:H):Option (Rv × H):=fin Tryz.prog k80 [.tmp 6] (s80 K L ⟨[p0,p1,p2,V.und,V.und],0,p0⟩ h)
theorem r80:(fun K L p0 p1 p2 h=>runFF Tryz.prog kp K L 80 [p0,p1,p2] h)=f80:=by kernel_rfl
@[simp] def k81:List Nat:=[0,1,2,3,4,10,11]
@[simp] def ux81 (e:E) (t:Nat) (v:V):E:=⟨[e.s k81 0,e.s k81 1,e.s k81 2,e.s k81 3,e.s k81 4,e.s k81 10,e.s k81 11],t,v⟩
def s81 (K:Oracle) (L:Looper) (e:E) (h:H):Out :=
 sq (some ⟨.nm,(ux81 e 10 (.int .i64 0)).st 5 (.int .i64 0),h⟩) fun e h =>
 sq (sq (bd (binK 0 .geq (e.s k81 2) (e.s k81 1)) fun t14 =>
 bd (gl t14 false (some (e.s k81 3))) fun t16 =>
 bd (gl t14 false (some (e.s k81 1))) fun t17 =>
 bd (gl t14 false (binK 0 .geq t16 t17)) fun t18 =>
 bd (pk t14 (.bool true) t18) fun t19 =>
 some ⟨.nm,ux81 e 19 t19,h⟩) fun e h =>
 br (e.s k81 19) (sq (some ⟨.nm,(ux81 e 10 (.int .i64 0)).st 5 (.int .i64 0),h⟩) fun e h =>
 some ⟨.rt,e,h⟩)
 (some ⟨.nm,e,h⟩)) fun e h =>
 sq (bd (binK 0 .mul (e.s k81 2) (e.s k81 1)) fun t23 =>
 bd (binK 0 .add t23 (e.s k81 3)) fun t25 =>
 bd (iaS 1 (e.s k81 0) t25) fun t26 =>
 bd (ld h t26) fun t27 =>
 some ⟨.nm,(ux81 e 11 t27).st 6 t27,h⟩) fun e h =>
 sq (sq (bd (binK 0 .gtr (e.s k81 11) (e.s k81 4)) fun t30 =>
 bd (gl t30 false (some (e.s k81 11))) fun t32 =>
 bd (gl t30 false (some (e.s k81 4))) fun t33 =>
 bd (gl t30 false (unV .neg t33)) fun t34 =>
 bd (gl t30 false (binK 0 .lss t32 t34)) fun t35 =>
 bd (pk t30 (.bool true) t35) fun t36 =>
 some ⟨.nm,ux81 e 36 t36,h⟩) fun e h =>
 br (e.s k81 36) (sq (some ⟨.nm,(ux81 e 10 (e.s k81 4)).st 5 (e.s k81 4),h⟩) fun e h =>
 some ⟨.rt,e,h⟩)
 (some ⟨.nm,e,h⟩)) fun e h =>
 sq (sq (bd (binK 0 .lss (e.s k81 11) (.int .i64 0)) fun t39 =>
 some ⟨.nm,ux81 e 39 t39,h⟩) fun e h =>
 br (e.s k81 39) (sq (bd (unV .neg (e.s k81 11)) fun t41 =>
 some ⟨.nm,(ux81 e 10 t41).st 5 t41,h⟩) fun e h =>
 some ⟨.rt,e,h⟩)
 (some ⟨.nm,e,h⟩)) fun e h =>
 sq (some ⟨.nm,(ux81 e 10 (e.s k81 11)).st 5 (e.s k81 11),h⟩) fun e h =>
 some ⟨.rt,e,h⟩
def f81 (K:Oracle) (L:Looper) (p0 p1 p2 p3 p4:V) (h:H):Option (Rv × H):=fin Tryz.prog k81 [.tmp 10] (s81 K L ⟨[p0,p1,p2,p3,p4,V.und,V.und],0,p0⟩ h)
theorem r81:(fun K L p0 p1 p2 p3 p4 h=>runFF Tryz.prog kp K L 81 [p0,p1,p2,p3,p4] h)=f81:=by kernel_rfl
@[simp] def k82:List Nat:=[0,1,2,6]
@[simp] def ux82 (e:E) (t:Nat) (v:V):E:=⟨[e.s k82 0,e.s k82 1,e.s k82 2,e.s k82 6],t,v⟩
def s82 (K:Oracle) (L:Looper) (e:E) (h:H):Out :=
 sq (some ⟨.nm,(ux82 e 6 (.int .i64 0)).st 3 (.int .i64 0),h⟩) fun e h =>
 sq (sq (bd (binK 0 .lss (e.s k82 0) (e.s k82 1)) fun t9 =>
 some ⟨.nm,ux82 e 9 t9,h⟩) fun e h =>
 br (e.s k82 9) (sq (some ⟨.nm,(ux82 e 6 (e.s k82 1)).st 3 (e.s k82 1),h⟩) fun e h =>
 some ⟨.rt,e,h⟩)
 (some ⟨.nm,e,h⟩)) fun e h =>
 sq (sq (bd (binK 0 .gtr (e.s k82 0) (e.s k82 2)) fun t13 =>
 some ⟨.nm,ux82 e 13 t13,h⟩) fun e h =>
 br (e.s k82 13) (sq (some ⟨.nm,(ux82 e 6 (e.s k82 2)).st 3 (e.s k82 2),h⟩) fun e h =>
 some ⟨.rt,e,h⟩)
 (some ⟨.nm,e,h⟩)) fun e h =>
 sq (some ⟨.nm,(ux82 e 6 (e.s k82 0)).st 3 (e.s k82 0),h⟩) fun e h =>
 some ⟨.rt,e,h⟩
def f82 (K:Oracle) (L:Looper) (p0 p1 p2:V) (h:H):Option (Rv × H):=fin Tryz.prog k82 [.tmp 6] (s82 K L ⟨[p0,p1,p2,V.und],0,p0⟩ h)
theorem r82:(fun K L p0 p1 p2 h=>runFF Tryz.prog kp K L 82 [p0,p1,p2] h)=f82:=by kernel_rfl
@[simp] def k83:List Nat:=[0,1,4,5,6,7,8,9,11,12]
@[simp] def ux83 (e:E) (t:Nat) (v:V):E:=⟨[e.s k83 0,e.s k83 1,e.s k83 4,e.s k83 5,e.s k83 6,e.s k83 7,e.s k83 8,e.s k83 9,e.s k83 11,e.s k83 12],t,v⟩
def l83_0 (K:Oracle) (L:Looper) (e:E) (h:H):Out :=
 blk 1 (sq (some ⟨.nm,(ux83 e 8 (.int .i64 0)).st 6 (.int .i64 0),h⟩) fun e h =>
 sq (sq (bd (binK 0 .eql (e.s k83 6) (e.s k83 7)) fun t19 =>
 some ⟨.nm,ux83 e 19 t19,h⟩) fun e h =>
 br (e.s k83 19) (some ⟨.nm,(ux83 e 8 (.int .i64 1)).st 6 (.int .i64 1),h⟩)
 (some ⟨.nm,e,h⟩)) fun e h =>
 sq (bc k83 [21,22,23,20,24,25,9,10] e (K 51 [e.s k83 0,(.int .i64 1),e.s k83 8] h) fun t23 h1 =>
 bd (exV t23 0) fun t24 =>
 bd (exV t23 1) fun t25 =>
 some ⟨.nm,(ux83 e 10 t25).st 7 t24,h1⟩) fun e h =>
 sq (sq (bd (binK 0 .eql (e.s k83 9) (.int .i64 1)) fun t27 =>
 some ⟨.nm,ux83 e 27 t27,h⟩) fun e h =>
 br (e.s k83 27) (some ⟨.ex 0,e,h⟩)
 (some ⟨.nm,e,h⟩)) fun e h =>
 sq (bd (binK 0 .add (e.s k83 6) (.int .i64 1)) fun t29 =>
 some ⟨.nm,(ux83 e 6 t29).st 4 t29,h⟩) fun e h =>
 sq (bd (binK 0 .gtr (e.s k83 6) (.int .i64 20)) fun t31 =>
 some ⟨.nm,ux83 e 31 t31,h⟩) fun e h =>
 br (e.s k83 31) (sq (some ⟨.nm,((ux83 e 5 (.int .i64 4)).st 2 (.int .i64 0)).st 3 (.int .i64 4),h⟩) fun e h =>
 some ⟨.rt,e,h⟩)
 (some ⟨.nm,e,h⟩))
def s83 (K:Oracle) (L:Looper) (e:E) (h:H):Out :=
 sq (some ⟨.nm,((ux83 e 5 (.int .i64 0)).st 2 (.int .i64 0)).st 3 (.int .i64 0),h⟩) fun e h =>
 sq (some ⟨.nm,(ux83 e 6 (.int .i64 0)).st 4 (.int .i64 0),h⟩) fun e h =>
 sq (bd (binK 0 .add (e.s k83 1) (.int .i64 1)) fun t15 =>
 bc k83 [14,15,16,7] e (K 105 [t15] h) fun t16 h1 =>
 some ⟨.nm,(ux83 e 7 t16).st 5 t16,h1⟩) fun e h =>
 sq (blk 0 (L (l83_0 K L) e h)) fun e h =>
 sq (some ⟨.nm,(ux83 e 11 (.int .i64 0)).st 8 (.int .i64 0),h⟩) fun e h =>
 sq (sq (bc k83 [32,33] e (K 47 [e.s k83 0] h) fun t33 h1 =>
 some ⟨.nm,ux83 e 33 t33,h1⟩) fun e h =>
 br (e.s k83 33) (bd (binK 0 .add (e.s k83 1) (.int .i64 1)) fun t35 =>
 bd (binK 0 .shl (.int .i64 1) (e.s k83 6)) fun t37 =>
 bd (binK 0 .sub t35 t37) fun t38 =>
 some ⟨.nm,(ux83 e 11 t38).st 8 t38,h⟩)
 (some ⟨.nm,e,h⟩)) fun e h =>
 sq (bc k83 [40,41,42,43,39,44,45,12,13] e (K 51 [e.s k83 0,e.s k83 6,e.s k83 11] h) fun t43 h1 =>
 bd (exV t43 0) fun t44 =>
 bd (exV t43 1) fun t45 =>
 some ⟨.nm,(ux83 e 13 t45).st 9 t44,h1⟩) fun e h =>
 sq (bd (binK 0 .shl (.int .i64 1) (e.s k83 6)) fun t48 =>
 bd (binK 0 .add (e.s k83 12) t48) fun t49 =>
 bd (binK 0 .sub t49 (.int .i64 1)) fun t50 =>
 some ⟨.nm,((ux83 e 5 (.int .i64 0)).st 2 t50).st 3 (.int .i64 0),h⟩) fun e h =>
 some ⟨.rt,e,h⟩
def f83 (K:Oracle) (L:Looper) (p0 p1:V) (h:H):Option (Rv × H):=fin Tryz.prog k83 [.tmp 4,.tmp 5] (s83 K L ⟨[p0,p1,V.und,V.und,V.und,V.und,V.und,V.und,V.und,V.und],0,p0⟩ h)
theorem r83:(fun K L p0 p1 h=>runFF Tryz.prog kp K L 83 [p0,p1] h)=f83:=by kernel_rfl
@[simp] def k84:List Nat:=[0,2]
@[simp] def ux84 (e:E) (t:Nat) (v:V):E:=⟨[e.s k84 0,e.s k84 2],t,v⟩
def s84 (K:Oracle) (L:Looper) (e:E) (h:H):Out :=
 sq (some ⟨.nm,(ux84 e 2 .nils).st 1 .nils,h⟩) fun e h =>
 sq (sq (bd (binK 3 .eql (e.s k84 0) .nils) fun t4 =>
 some ⟨.nm,ux84 e 4 t4,h⟩) fun e h =>
 br (e.s k84 4) (sq (some ⟨.nm,(ux84 e 2 .nils).st 1 .nils,h⟩) fun e h =>
 some ⟨.rt,e,h⟩)
 (some ⟨.nm,e,h⟩)) fun e h =>
 sq (bf (bs h 5 0 [] []) fun t5 h1 =>
 bf (apZ 5 1 1 h1 t5 (e.s k84 0)) fun t7 h2 =>
 some ⟨.nm,(ux84 e 2 t7).st 1 t7,h2⟩) fun e h =>
 some ⟨.rt,e,h⟩
def f84 (K:Oracle) (L:Looper) (p0:V) (h:H):Option (Rv × H):=fin Tryz.prog k84 [.tmp 2] (s84 K L ⟨[p0,V.und],0,p0⟩ h)
theorem r84:(fun K L p0 h=>runFF Tryz.prog kp K L 84 [p0] h)=f84:=by kernel_rfl
@[simp] def k85:List Nat:=[0]
def s85 (K:Oracle) (L:Looper) (e:E) (h:H):Out :=
 sq (sq (bd (nilC (e.s k85 0)) fun t3 =>
 bd (fa 1 t3) fun t4 =>
 bd (ld h t4) fun t5 =>
 bd (binK 0 .gtr t5 (.int .u64 4294967295)) fun t6 =>
 some ⟨.nm,⟨[e.s k85 0],6,t6⟩,h⟩) fun e h =>
 br (e.s k85 6) (bc k85 [7,8] e (K 106 [e.s k85 0] h) fun t8 h1 =>
 some ⟨.nm,⟨[e.s k85 0],8,t8⟩,h1⟩)
 (some ⟨.nm,e,h⟩)) fun e h =>
 sq (bd (nilC (e.s k85 0)) fun t11 =>
 bd (fa 0 t11) fun t12 =>
 bd (ld h t12) fun t13 =>
 bd (nilC (e.s k85 0)) fun t15 =>
 bd (fa 1 t15) fun t16 =>
 bd (ld h t16) fun t17 =>
 bd (binK 0 .shr t17 (.int .u64 24)) fun t18 =>
 bd (cv .u8 t18) fun t19 =>
 bf (bs h 5 1 [(.int .u8 0)] [(some (0,1),t19)]) fun t20 h1 =>
 bf (apZ 5 1 1 h1 t13 t20) fun t21 h2 =>
 bd (nilC (e.s k85 0)) fun t22 =>
 bd (fa 0 t22) fun t23 =>
 bf (stZ 1 h2 t23 t21) fun _ h3 =>
 ck (ld h t12) t13 (ck (ld h t16) t17 (some ⟨.nm,⟨[e.s k85 0],0,(e.s k85 0)⟩,h3⟩))) fun e h =>
 bd (nilC (e.s k85 0)) fun t26 =>
 bd (fa 1 t26) fun t27 =>
 bd (ld h t27) fun t28 =>
 bd (binK 0 .and t28 (.int .u64 16777215)) fun t29 =>
 bd (binK 0 .shl t29 (.int .u64 8)) fun t30 =>
 bd (nilC (e.s k85 0)) fun t31 =>
 bd (fa 1 t31) fun t32 =>
 bf (stZ 1 h t32 t30) fun _ h1 =>
 some ⟨.nm,⟨[e.s k85 0],0,(e.s k85 0)⟩,h1⟩
def f85 (K:Oracle) (L:Looper) (p0:V) (h:H):Option (Rv × H):=fin Tryz.prog k85 [] (s85 K L ⟨[p0],0,p0⟩ h)
theorem r85:(fun K L p0 h=>runFF Tryz.prog kp K L 85 [p0] h)=f85:=by kernel_rfl
end
end Go.Proofs.YtbajipmhnoakeaaGreat
