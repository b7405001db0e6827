/- The functions of the cut, printed by a program of ours: each is shown to be the interpreter's run. -/
import Derived.Test.YtfjghgjkpenanaaKp
set_option linter.unusedVariables false
set_option linter.unusedSimpArgs false
namespace Go.Proofs.Ytfjghgjkpenanaa
open Go Go.Zf
/-- (*zoetrope/zoetroperef02.Encoder).Bytes -/
@[simp] def k47 : List Nat := [0, 2, 3, 4, 5]
noncomputable def l47_0 (K : Oracle) (L : Looper) (e : E) (h : H) : Out :=
 sq (sq (bd (binK 0 .lss (e.s k47 4) (.int .i64 4)) fun t25 =>
 some ⟨.nm, ⟨[(e.s k47 0), (e.s k47 2), (e.s k47 3), (e.s k47 4), (e.s k47 5)], 25, t25⟩, h⟩) fun e h =>
 br (e.s k47 25) (some ⟨.nm, e, h⟩)
 (some ⟨.ex 0, e, h⟩)) fun e h =>
 sq (blk 1 (bc k47 [28, 29] e (K 77 [(e.s k47 3)] h) fun t29 h1 =>
 some ⟨.nm, ⟨[(e.s k47 0), (e.s k47 2), (e.s k47 3), (e.s k47 4), (e.s k47 5)], 29, t29⟩, h1⟩)) fun e h =>
 bd (binK 0 .add (e.s k47 4) (.int .i64 1)) fun t27 =>
 some ⟨.nm, ⟨[(e.s k47 0), (e.s k47 2), (e.s k47 3), t27, (e.s k47 5)], 4, t27⟩, h⟩
noncomputable def l47_1 (K : Oracle) (L : Looper) (e : E) (h : H) : Out :=
 sq (sq (bd (binK 0 .gtr (e.s k47 5) (.int .i64 0)) fun t36 =>
 bd (gl t36 true (some (e.s k47 3))) fun t38 =>
 bd (gl t36 true (nilC t38)) fun t39 =>
 bd (gl t36 true (fa 0 t39)) fun t40 =>
 bd (gl t36 true (ld h t40)) fun t41 =>
 bd (gl t36 true (some (e.s k47 5))) fun t42 =>
 bd (gl t36 true (binK 0 .sub t42 (.int .i64 1))) fun t43 =>
 bd (gl t36 true (iaS 1 t41 t43)) fun t44 =>
 bd (gl t36 true (ld h t44)) fun t45 =>
 bd (gl t36 true (binK 0 .eql t45 (.int .u8 0))) fun t46 =>
 bd (pk t36 t46 (.bool false)) fun t47 =>
 some ⟨.nm, ⟨[(e.s k47 0), (e.s k47 2), (e.s k47 3), (e.s k47 4), (e.s k47 5)], 47, t47⟩, h⟩) fun e h =>
 br (e.s k47 47) (some ⟨.nm, e, h⟩)
 (some ⟨.ex 2, e, h⟩)) fun e h =>
 blk 3 (bd (binK 0 .sub (e.s k47 5) (.int .i64 1)) fun t49 =>
 some ⟨.nm, ⟨[(e.s k47 0), (e.s k47 2), (e.s k47 3), (e.s k47 4), t49], 5, t49⟩, h⟩)
noncomputable def s47 (K : Oracle) (L : Looper) (e : E) (h : H) : Out :=
 sq (some ⟨.nm, ⟨[(e.s k47 0), .nils, (e.s k47 3), (e.s k47 4), (e.s k47 5)], 2, .nils⟩, h⟩) fun e h =>
 sq (bd (nilC (e.s k47 0)) fun t7 =>
 bd (fa 1 t7) fun t8 =>
 bd (ld h t8) fun t9 =>
 bd (bl [.nils, (.int .u64 0), (.int .u64 0)] [(some (1, 1), t9)]) fun t10 =>
 bf (bx h 121 t10) fun t11 h1 =>
 some ⟨.nm, ⟨[(e.s k47 0), (e.s k47 2), t11, (e.s k47 4), (e.s k47 5)], 3, t11⟩, h1⟩) fun e h =>
 sq (bd (nilC (e.s k47 3)) fun t14 =>
 bd (fa 0 t14) fun t15 =>
 bd (ld h t15) fun t16 =>
 bd (nilC (e.s k47 0)) fun t18 =>
 bd (fa 0 t18) fun t19 =>
 bd (ld h t19) fun t20 =>
 bf (apZ 5 1 1 h t16 t20) fun t21 h1 =>
 bd (nilC (e.s k47 3)) fun t22 =>
 bd (fa 0 t22) fun t23 =>
 bf (stZ 1 h1 t23 t21) fun _ h2 =>
 ck (ld h t15) t16 (ck (ld h t19) t20 (some ⟨.nm, ⟨[(e.s k47 0), (e.s k47 2), (e.s k47 3), (e.s k47 4), (e.s k47 5)], 0, (e.s k47 0)⟩, h2⟩))) fun e h =>
 sq (sq (some ⟨.nm, ⟨[(e.s k47 0), (e.s k47 2), (e.s k47 3), (.int .i64 0), (e.s k47 5)], 4, (.int .i64 0)⟩, h⟩) fun e h =>
 blk 0 (L (l47_0 K L) e h)) fun e h =>
 sq (bd (nilC (e.s k47 3)) fun t31 =>
 bd (fa 0 t31) fun t32 =>
 bd (ld h t32) fun t33 =>
 bd (lnS t33) fun t34 =>
 some ⟨.nm, ⟨[(e.s k47 0), (e.s k47 2), (e.s k47 3), (e.s k47 4), t34], 5, t34⟩, h⟩) fun e h =>
 sq (blk 2 (L (l47_1 K L) e h)) fun e h =>
 sq (bd (nilC (e.s k47 3)) fun t51 =>
 bd (fa 0 t51) fun t52 =>
 bd (ld h t52) fun t53 =>
 bd (slS 1 t53 none (some (e.s k47 5)) none) fun t55 =>
 some ⟨.nm, ⟨[(e.s k47 0), t55, (e.s k47 3), (e.s k47 4), (e.s k47 5)], 2, t55⟩, h⟩) fun e h =>
 some ⟨.rt, e, h⟩
noncomputable def f47 (K : Oracle) (L : Looper) (p0 : V) (h : H) : Option (Rv × H) := fin Try.prog k47 [.tmp 2] (s47 K L ⟨[p0, V.und, V.und, V.und, V.und], 0, p0⟩ h)
theorem r47 : (fun K L p0 h => runFF Try.prog kp K L 47 [p0] h) = f47 := by kernel_rfl
theorem c47 (p0 : V) (h : H) : callZ Try.prog kp 47 [p0] h = f47 (callZ Try.prog kp) loopZ p0 h :=
  (callZ_eqF _ _ _ _ _).trans (congrFun (congrFun (congrFun (congrFun (r47) _) _) p0) h)

/-- zoetrope/zoetroperef04.rows -/
@[simp] def k48 : List Nat := [0]
noncomputable def s48 (K : Oracle) (L : Looper) (e : E) (h : H) : Out :=
 sq (some ⟨.nm, ⟨[.nils], 0, .nils⟩, h⟩) fun e h =>
 sq (bd (bl [(.int .i64 0), (.int .i64 0), (.int .i64 0)] [(some (0, 1), (.int .i64 8)), (some (1, 1), (.int .i64 10)), (some (2, 1), (.int .i64 0))]) fun t1 =>
 bd (bl [(.int .i64 0), (.int .i64 0), (.int .i64 0)] [(some (0, 1), (.int .i64 4)), (some (1, 1), (.int .i64 8)), (some (2, 1), (.int .i64 0))]) fun t2 =>
 bd (bl [(.int .i64 0), (.int .i64 0), (.int .i64 0)] [(some (0, 1), (.int .i64 3)), (some (1, 1), (.int .i64 2)), (some (2, 1), (.int .i64 0))]) fun t3 =>
 bd (bl [(.int .i64 0), (.int .i64 0), (.int .i64 0)] [(some (0, 1), (.int .i64 3)), (some (1, 1), (.int .i64 2)), (some (2, 1), (.int .i64 0))]) fun t4 =>
 bd (bl [(.int .i64 0), (.int .i64 0), (.int .i64 0)] [(some (0, 1), (.int .i64 4)), (some (1, 1), (.int .i64 13)), (some (2, 1), (.int .i64 0))]) fun t5 =>
 bd (bl [(.int .i64 0), (.int .i64 0), (.int .i64 0)] [(some (0, 1), (.int .i64 8)), (some (1, 1), (.int .i64 7)), (some (2, 1), (.int .i64 0))]) fun t6 =>
 bd (bl [(.int .i64 0), (.int .i64 0), (.int .i64 0)] [(some (0, 1), (.int .i64 1)), (some (1, 1), (.int .i64 13)), (some (2, 1), (.int .i64 0))]) fun t7 =>
 bd (bl [(.int .i64 0), (.int .i64 0), (.int .i64 0)] [(some (0, 1), (.int .i64 1)), (some (1, 1), (.int .i64 14)), (some (2, 1), (.int .i64 0))]) fun t8 =>
 bd (bl [(.int .i64 0), (.int .i64 0), (.int .i64 0)] [(some (0, 1), (.int .i64 1)), (some (1, 1), (.int .i64 8)), (some (2, 1), (.int .i64 0))]) fun t9 =>
 bd (bl [(.int .i64 0), (.int .i64 0), (.int .i64 0)] [(some (0, 1), (.int .i64 2)), (some (1, 1), (.int .i64 16)), (some (2, 1), (.int .i64 1))]) fun t10 =>
 bd (bl [(.int .i64 0), (.int .i64 0), (.int .i64 0)] [(some (0, 1), (.int .i64 1)), (some (1, 1), (.int .i64 2)), (some (2, 1), (.int .i64 0))]) fun t11 =>
 bd (bl [(.int .i64 0), (.int .i64 0), (.int .i64 0)] [(some (0, 1), (.int .i64 3)), (some (1, 1), (.int .i64 3)), (some (2, 1), (.int .i64 0))]) fun t12 =>
 bd (bl [(.int .i64 0), (.int .i64 0), (.int .i64 0)] [(some (0, 1), (.int .i64 3)), (some (1, 1), (.int .i64 9)), (some (2, 1), (.int .i64 0))]) fun t13 =>
 bd (bl [(.int .i64 0), (.int .i64 0), (.int .i64 0)] [(some (0, 1), (.int .i64 1)), (some (1, 1), (.int .i64 2)), (some (2, 1), (.int .i64 0))]) fun t14 =>
 bd (bl [(.int .i64 0), (.int .i64 0), (.int .i64 0)] [(some (0, 1), (.int .i64 3)), (some (1, 1), (.int .i64 3)), (some (2, 1), (.int .i64 0))]) fun t15 =>
 bd (bl [(.int .i64 0), (.int .i64 0), (.int .i64 0)] [(some (0, 1), (.int .i64 1)), (some (1, 1), (.int .i64 2)), (some (2, 1), (.int .i64 0))]) fun t16 =>
 bd (bl [(.int .i64 0), (.int .i64 0), (.int .i64 0)] [(some (0, 1), (.int .i64 3)), (some (1, 1), (.int .i64 4)), (some (2, 1), (.int .i64 0))]) fun t17 =>
 bd (bl [(.int .i64 0), (.int .i64 0), (.int .i64 0)] [(some (0, 1), (.int .i64 1)), (some (1, 1), (.int .i64 4)), (some (2, 1), (.int .i64 0))]) fun t18 =>
 bd (bl [(.int .i64 0), (.int .i64 0), (.int .i64 0)] [(some (0, 1), (.int .i64 2)), (some (1, 1), (.int .i64 11)), (some (2, 1), (.int .i64 1))]) fun t19 =>
 bd (bl [(.int .i64 0), (.int .i64 0), (.int .i64 0)] [(some (0, 1), (.int .i64 2)), (some (1, 1), (.int .i64 8)), (some (2, 1), (.int .i64 0))]) fun t20 =>
 bd (bl [(.int .i64 0), (.int .i64 0), (.int .i64 0)] [(some (0, 1), (.int .i64 1)), (some (1, 1), (.int .i64 3)), (some (2, 1), (.int .i64 0))]) fun t21 =>
 bd (bl [(.int .i64 0), (.int .i64 0), (.int .i64 0)] [(some (0, 1), (.int .i64 1)), (some (1, 1), (.int .i64 2)), (some (2, 1), (.int .i64 0))]) fun t22 =>
 bd (bl [(.int .i64 0), (.int .i64 0), (.int .i64 0)] [(some (0, 1), (.int .i64 4)), (some (1, 1), (.int .i64 2)), (some (2, 1), (.int .i64 0))]) fun t23 =>
 bd (bl [(.int .i64 0), (.int .i64 0), (.int .i64 0)] [(some (0, 1), (.int .i64 2)), (some (1, 1), (.int .i64 5)), (some (2, 1), (.int .i64 0))]) fun t24 =>
 bd (bl [(.int .i64 0), (.int .i64 0), (.int .i64 0)] [(some (0, 1), (.int .i64 2)), (some (1, 1), (.int .i64 7)), (some (2, 1), (.int .i64 0))]) fun t25 =>
 bd (bl [(.int .i64 0), (.int .i64 0), (.int .i64 0)] [(some (0, 1), (.int .i64 2)), (some (1, 1), (.int .i64 9)), (some (2, 1), (.int .i64 0))]) fun t26 =>
 bd (bl [(.int .i64 0), (.int .i64 0), (.int .i64 0)] [(some (0, 1), (.int .i64 2)), (some (1, 1), (.int .i64 11)), (some (2, 1), (.int .i64 0))]) fun t27 =>
 bd (bl [(.int .i64 0), (.int .i64 0), (.int .i64 0)] [(some (0, 1), (.int .i64 2)), (some (1, 1), (.int .i64 3)), (some (2, 1), (.int .i64 1))]) fun t28 =>
 bd (bl [(.int .i64 0), (.int .i64 0), (.int .i64 0)] [(some (0, 1), (.int .i64 10)), (some (1, 1), (.int .i64 4)), (some (2, 1), (.int .i64 1))]) fun t29 =>
 bd (bl [(.int .i64 0), (.int .i64 0), (.int .i64 0)] [(some (0, 1), (.int .i64 14)), (some (1, 1), (.int .i64 4)), (some (2, 1), (.int .i64 1))]) fun t30 =>
 bd (bl [(.int .i64 0), (.int .i64 0), (.int .i64 0)] [(some (0, 1), (.int .i64 6)), (some (1, 1), (.int .i64 2)), (some (2, 1), (.int .i64 0))]) fun t31 =>
 bd (bl [(.int .i64 0), (.int .i64 0), (.int .i64 0)] [(some (0, 1), (.int .i64 3)), (some (1, 1), (.int .i64 2)), (some (2, 1), (.int .i64 0))]) fun t32 =>
 bf (bs h 90 32 (List.replicate 96 (.int .i64 0)) [(some (0, 3), t1), (some (3, 3), t2), (some (6, 3), t3), (some (9, 3), t4), (some (12, 3), t5), (some (15, 3), t6), (some (18, 3), t7), (some (21, 3), t8), (some (24, 3), t9), (some (27, 3), t10), (some (30, 3), t11), (some (33, 3), t12), (some (36, 3), t13), (some (39, 3), t14), (some (42, 3), t15), (some (45, 3), t16), (some (48, 3), t17), (some (51, 3), t18), (some (54, 3), t19), (some (57, 3), t20), (some (60, 3), t21), (some (63, 3), t22), (some (66, 3), t23), (some (69, 3), t24), (some (72, 3), t25), (some (75, 3), t26), (some (78, 3), t27), (some (81, 3), t28), (some (84, 3), t29), (some (87, 3), t30), (some (90, 3), t31), (some (93, 3), t32)]) fun t33 h1 =>
 some ⟨.nm, ⟨[t33], 0, t33⟩, h1⟩) fun e h =>
 some ⟨.rt, e, h⟩
noncomputable def f48 (K : Oracle) (L : Looper) (h : H) : Option (Rv × H) := fin Try.prog k48 [.tmp 0] (s48 K L ⟨[V.und], 0, V.und⟩ h)
theorem r48 : (fun K L h => runFF Try.prog kp K L 48 [] h) = f48 := by kernel_rfl
theorem c48 (h : H) : callZ Try.prog kp 48 [] h = f48 (callZ Try.prog kp) loopZ h :=
  (callZ_eqF _ _ _ _ _).trans (congrFun (congrFun (congrFun (r48) _) _) h)

/-- zoetrope/zoetroperef03.Flat -/
@[simp] def k49 : List Nat := [0, 2, 3, 4, 5]
noncomputable def l49_0 (K : Oracle) (L : Looper) (e : E) (h : H) : Out :=
 sq (sq (bd (binK 0 .lss (e.s k49 5) (e.s k49 0)) fun t15 =>
 some ⟨.nm, ⟨[(e.s k49 0), (e.s k49 2), (e.s k49 3), (e.s k49 4), (e.s k49 5)], 15, t15⟩, h⟩) fun e h =>
 br (e.s k49 15) (some ⟨.nm, e, h⟩)
 (some ⟨.ex 0, e, h⟩)) fun e h =>
 sq (blk 1 (bd (fa 0 (e.s k49 4)) fun t18 =>
 bd (ld h t18) fun t19 =>
 bd (binK 0 .add (e.s k49 5) (.int .i64 1)) fun t21 =>
 bd (binK 0 .mul (.int .i64 32768) t21) fun t22 =>
 bd (binK 0 .quo t22 (e.s k49 0)) fun t24 =>
 bd (cv .u16 t24) fun t25 =>
 bf (bs h 38 1 [(.int .u16 0)] [(some (0, 1), t25)]) fun t26 h1 =>
 bf (apZ 38 1 2 h1 t19 t26) fun t27 h2 =>
 bd (fa 0 (e.s k49 4)) fun t28 =>
 bf (stZ 1 h2 t28 t27) fun _ h3 =>
 ck (ld h t18) t19 (some ⟨.nm, ⟨[(e.s k49 0), (e.s k49 2), (e.s k49 3), (e.s k49 4), (e.s k49 5)], 0, (e.s k49 0)⟩, h3⟩))) fun e h =>
 bd (binK 0 .add (e.s k49 5) (.int .i64 1)) fun t17 =>
 some ⟨.nm, ⟨[(e.s k49 0), (e.s k49 2), (e.s k49 3), (e.s k49 4), t17], 5, t17⟩, h⟩
noncomputable def s49 (K : Oracle) (L : Looper) (e : E) (h : H) : Out :=
 sq (bf (nw h 72 [.nils, (.int .i64 0)]) fun t2 h1 =>
 some ⟨.nm, ⟨[(e.s k49 0), t2, (.int .i64 0), (e.s k49 4), (e.s k49 5)], 3, (.int .i64 0)⟩, h1⟩) fun e h =>
 sq (sq (bd (binK 0 .lss (e.s k49 0) (.int .i64 2)) fun t7 =>
 bd (gl t7 false (some (e.s k49 0))) fun t9 =>
 bd (gl t7 false (binK 0 .gtr t9 (.int .i64 16))) fun t10 =>
 bd (pk t7 (.bool true) t10) fun t11 =>
 some ⟨.nm, ⟨[(e.s k49 0), (e.s k49 2), (e.s k49 3), (e.s k49 4), (e.s k49 5)], 11, t11⟩, h⟩) fun e h =>
 br (e.s k49 11) (sq (bd (bl [.nils, (.int .i64 0)] []) fun t12 =>
 bf (stZ 2 h (e.s k49 2) t12) fun _ h1 =>
 some ⟨.nm, ⟨[(e.s k49 0), (e.s k49 2), (.int .i64 2), (e.s k49 4), (e.s k49 5)], 3, (.int .i64 2)⟩, h1⟩) fun e h =>
 some ⟨.rt, e, h⟩)
 (some ⟨.nm, e, h⟩)) fun e h =>
 sq (bf (nw h 72 [.nils, (.int .i64 0)]) fun t4 h1 =>
 some ⟨.nm, ⟨[(e.s k49 0), (e.s k49 2), (e.s k49 3), t4, (e.s k49 5)], 4, t4⟩, h1⟩) fun e h =>
 sq (sq (some ⟨.nm, ⟨[(e.s k49 0), (e.s k49 2), (e.s k49 3), (e.s k49 4), (.int .i64 0)], 5, (.int .i64 0)⟩, h⟩) fun e h =>
 blk 0 (L (l49_0 K L) e h)) fun e h =>
 sq (bd (ldn 2 h (e.s k49 4)) fun t29 =>
 bf (stZ 2 h (e.s k49 2) t29) fun _ h1 =>
 some ⟨.nm, ⟨[(e.s k49 0), (e.s k49 2), (.int .i64 0), (e.s k49 4), (e.s k49 5)], 3, (.int .i64 0)⟩, h1⟩) fun e h =>
 some ⟨.rt, e, h⟩
noncomputable def f49 (K : Oracle) (L : Looper) (p0 : V) (h : H) : Option (Rv × H) := fin Try.prog k49 [.cell 2 72, .tmp 3] (s49 K L ⟨[p0, V.und, V.und, V.und, V.und], 0, p0⟩ h)
theorem r49 : (fun K L p0 h => runFF Try.prog kp K L 49 [p0] h) = f49 := by kernel_rfl
theorem c49 (p0 : V) (h : H) : callZ Try.prog kp 49 [p0] h = f49 (callZ Try.prog kp) loopZ p0 h :=
  (callZ_eqF _ _ _ _ _).trans (congrFun (congrFun (congrFun (congrFun (r49) _) _) p0) h)

/-- zoetrope/zoetroperef03.Steep -/
@[simp] def k50 : List Nat := [0, 2, 3, 4, 5, 6]
noncomputable def l50_0 (K : Oracle) (L : Looper) (e : E) (h : H) : Out :=
 sq (sq (bd (binK 0 .sub (e.s k50 0) (.int .i64 1)) fun t16 =>
 bd (binK 0 .lss (e.s k50 6) t16) fun t17 =>
 some ⟨.nm, ⟨[(e.s k50 0), (e.s k50 2), (e.s k50 3), (e.s k50 4), (e.s k50 5), (e.s k50 6)], 17, t17⟩, h⟩) fun e h =>
 br (e.s k50 17) (some ⟨.nm, e, h⟩)
 (some ⟨.ex 0, e, h⟩)) fun e h =>
 sq (blk 1 (sq (bd (binK 0 .quo (e.s k50 5) (.int .i64 2)) fun t21 =>
 some ⟨.nm, ⟨[(e.s k50 0), (e.s k50 2), (e.s k50 3), (e.s k50 4), t21, (e.s k50 6)], 5, t21⟩, h⟩) fun e h =>
 bd (fa 0 (e.s k50 4)) fun t22 =>
 bd (ld h t22) fun t23 =>
 bd (binK 0 .sub (.int .i64 32768) (e.s k50 5)) fun t25 =>
 bd (cv .u16 t25) fun t26 =>
 bf (bs h 38 1 [(.int .u16 0)] [(some (0, 1), t26)]) fun t27 h1 =>
 bf (apZ 38 1 2 h1 t23 t27) fun t28 h2 =>
 bd (fa 0 (e.s k50 4)) fun t29 =>
 bf (stZ 1 h2 t29 t28) fun _ h3 =>
 some ⟨.nm, ⟨[(e.s k50 0), (e.s k50 2), (e.s k50 3), (e.s k50 4), (e.s k50 5), (e.s k50 6)], 0, (e.s k50 0)⟩, h3⟩)) fun e h =>
 bd (binK 0 .add (e.s k50 6) (.int .i64 1)) fun t19 =>
 some ⟨.nm, ⟨[(e.s k50 0), (e.s k50 2), (e.s k50 3), (e.s k50 4), (e.s k50 5), t19], 6, t19⟩, h⟩
noncomputable def s50 (K : Oracle) (L : Looper) (e : E) (h : H) : Out :=
 sq (bf (nw h 72 [.nils, (.int .i64 0)]) fun t2 h1 =>
 some ⟨.nm, ⟨[(e.s k50 0), t2, (.int .i64 0), (e.s k50 4), (e.s k50 5), (e.s k50 6)], 3, (.int .i64 0)⟩, h1⟩) fun e h =>
 sq (sq (bd (binK 0 .lss (e.s k50 0) (.int .i64 2)) fun t8 =>
 bd (gl t8 false (some (e.s k50 0))) fun t10 =>
 bd (gl t8 false (binK 0 .gtr t10 (.int .i64 16))) fun t11 =>
 bd (pk t8 (.bool true) t11) fun t12 =>
 some ⟨.nm, ⟨[(e.s k50 0), (e.s k50 2), (e.s k50 3), (e.s k50 4), (e.s k50 5), (e.s k50 6)], 12, t12⟩, h⟩) fun e h =>
 br (e.s k50 12) (sq (bd (bl [.nils, (.int .i64 0)] []) fun t13 =>
 bf (stZ 2 h (e.s k50 2) t13) fun _ h1 =>
 some ⟨.nm, ⟨[(e.s k50 0), (e.s k50 2), (.int .i64 2), (e.s k50 4), (e.s k50 5), (e.s k50 6)], 3, (.int .i64 2)⟩, h1⟩) fun e h =>
 some ⟨.rt, e, h⟩)
 (some ⟨.nm, e, h⟩)) fun e h =>
 sq (bf (nw h 72 [.nils, (.int .i64 0)]) fun t4 h1 =>
 some ⟨.nm, ⟨[(e.s k50 0), (e.s k50 2), (e.s k50 3), t4, (e.s k50 5), (e.s k50 6)], 4, t4⟩, h1⟩) fun e h =>
 sq (some ⟨.nm, ⟨[(e.s k50 0), (e.s k50 2), (e.s k50 3), (e.s k50 4), (.int .i64 32768), (e.s k50 6)], 5, (.int .i64 32768)⟩, h⟩) fun e h =>
 sq (sq (some ⟨.nm, ⟨[(e.s k50 0), (e.s k50 2), (e.s k50 3), (e.s k50 4), (e.s k50 5), (.int .i64 0)], 6, (.int .i64 0)⟩, h⟩) fun e h =>
 blk 0 (L (l50_0 K L) e h)) fun e h =>
 sq (bd (fa 0 (e.s k50 4)) fun t30 =>
 bd (ld h t30) fun t31 =>
 bf (bs h 38 1 [(.int .u16 0)] [(some (0, 1), (.int .u16 32768))]) fun t32 h1 =>
 bf (apZ 38 1 2 h1 t31 t32) fun t33 h2 =>
 bd (fa 0 (e.s k50 4)) fun t34 =>
 bf (stZ 1 h2 t34 t33) fun _ h3 =>
 some ⟨.nm, ⟨[(e.s k50 0), (e.s k50 2), (e.s k50 3), (e.s k50 4), (e.s k50 5), (e.s k50 6)], 0, (e.s k50 0)⟩, h3⟩) fun e h =>
 sq (bd (ldn 2 h (e.s k50 4)) fun t35 =>
 bf (stZ 2 h (e.s k50 2) t35) fun _ h1 =>
 some ⟨.nm, ⟨[(e.s k50 0), (e.s k50 2), (.int .i64 0), (e.s k50 4), (e.s k50 5), (e.s k50 6)], 3, (.int .i64 0)⟩, h1⟩) fun e h =>
 some ⟨.rt, e, h⟩
noncomputable def f50 (K : Oracle) (L : Looper) (p0 : V) (h : H) : Option (Rv × H) := fin Try.prog k50 [.cell 2 72, .tmp 3] (s50 K L ⟨[p0, V.und, V.und, V.und, V.und, V.und], 0, p0⟩ h)
theorem r50 : (fun K L p0 h => runFF Try.prog kp K L 50 [p0] h) = f50 := by kernel_rfl
theorem c50 (p0 : V) (h : H) : callZ Try.prog kp 50 [p0] h = f50 (callZ Try.prog kp) loopZ p0 h :=
  (callZ_eqF _ _ _ _ _).trans (congrFun (congrFun (congrFun (congrFun (r50) _) _) p0) h)

/-- zoetrope/rac.Read -/
@[simp] def k51 : List Nat := [0, 2, 3, 8]
noncomputable def l51_0 (K : Oracle) (L : Looper) (e : E) (h : H) : Out :=
 sq (bd (binK 0 .lss (e.s k51 8) (.int .i64 4)) fun t9 =>
 some ⟨.nm, ⟨[(e.s k51 0), (e.s k51 2), (e.s k51 3), (e.s k51 8)], 9, t9⟩, h⟩) fun e h =>
 sq (br (e.s k51 9) (some ⟨.nm, e, h⟩)
 (some ⟨.ex 0, e, h⟩)) fun e h =>
 sq (blk 1 (bc k51 [10, 11] e (K 78 [(e.s k51 3)] h) fun t11 h1 =>
 some ⟨.nm, ⟨[(e.s k51 0), (e.s k51 2), (e.s k51 3), (e.s k51 8)], 11, t11⟩, h1⟩)) fun e h =>
 bd (binK 0 .add (e.s k51 8) (.int .i64 1)) fun t12 =>
 some ⟨.nm, ⟨[(e.s k51 0), (e.s k51 2), (e.s k51 3), t12], 8, t12⟩, h⟩
noncomputable def s51 (K : Oracle) (L : Looper) (e : E) (h : H) : Out :=
 sq (some ⟨.nm, ⟨[(e.s k51 0), .nilp, (e.s k51 3), (e.s k51 8)], 2, .nilp⟩, h⟩) fun e h =>
 sq (bc k51 [4, 5, 6, 7, 3] e (K 75 [(e.s k51 0)] h) fun t5 h1 =>
 bd (bl [.nils, (.int .u32 0), (.int .u32 0)] [(some (0, 1), t5), (some (2, 1), (.int .u32 4294967295))]) fun t6 =>
 bf (bx h1 123 t6) fun t7 h2 =>
 some ⟨.nm, ⟨[(e.s k51 0), (e.s k51 2), t7, (e.s k51 8)], 3, t7⟩, h2⟩) fun e h =>
 sq (sq (some ⟨.nm, ⟨[(e.s k51 0), (e.s k51 2), (e.s k51 3), (.int .i64 0)], 8, (.int .i64 0)⟩, h⟩) fun e h =>
 blk 0 (L (l51_0 K L) e h)) fun e h =>
 sq (bd (nilC (e.s k51 3)) fun t15 =>
 bd (fa 1 t15) fun t16 =>
 bd (ld h t16) fun t17 =>
 bd (minV [t17, (.int .u32 4294967294)]) fun t18 =>
 bd (nilC (e.s k51 3)) fun t19 =>
 bd (fa 1 t19) fun t20 =>
 bf (stZ 1 h t20 t18) fun _ h1 =>
 some ⟨.nm, ⟨[(e.s k51 0), (e.s k51 2), (e.s k51 3), (e.s k51 8)], 0, (e.s k51 0)⟩, h1⟩) fun e h =>
 sq (some ⟨.nm, ⟨[(e.s k51 0), (e.s k51 3), (e.s k51 3), (e.s k51 8)], 2, (e.s k51 3)⟩, h⟩) fun e h =>
 some ⟨.rt, e, h⟩
noncomputable def f51 (K : Oracle) (L : Looper) (p0 : V) (h : H) : Option (Rv × H) := fin Try.prog k51 [.tmp 2] (s51 K L ⟨[p0, V.und, V.und, V.und], 0, p0⟩ h)
theorem r51 : (fun K L p0 h => runFF Try.prog kp K L 51 [p0] h) = f51 := by kernel_rfl
theorem c51 (p0 : V) (h : H) : callZ Try.prog kp 51 [p0] h = f51 (callZ Try.prog kp) loopZ p0 h :=
  (callZ_eqF _ _ _ _ _).trans (congrFun (congrFun (congrFun (congrFun (r51) _) _) p0) h)

/-- zoetrope/zoetroperef02.Read -/
@[simp] def k52 : List Nat := [0, 2, 3, 4]
noncomputable def l52_0 (K : Oracle) (L : Looper) (e : E) (h : H) : Out :=
 sq (sq (bd (binK 0 .lss (e.s k52 4) (.int .i64 4)) fun t17 =>
 some ⟨.nm, ⟨[(e.s k52 0), (e.s k52 2), (e.s k52 3), (e.s k52 4)], 17, t17⟩, h⟩) fun e h =>
 br (e.s k52 17) (some ⟨.nm, e, h⟩)
 (some ⟨.ex 0, e, h⟩)) fun e h =>
 sq (blk 1 (bn (K 79 [(e.s k52 3)] h) fun t27 h1 =>
 bd (nilC (e.s k52 3)) fun t22 =>
 bd (fa 2 t22) fun t23 =>
 bd (ld h1 t23) fun t24 =>
 bd (binK 0 .mul t24 (.int .u64 256)) fun t25 =>
 bd (binK 0 .add t25 t27) fun t28 =>
 bd (nilC (e.s k52 3)) fun t29 =>
 bd (fa 2 t29) fun t30 =>
 bf (stZ 1 h1 t30 t28) fun _ h2 =>
 ck (ld h t23) t24 (ck (ld h1 t23) t24 (some ⟨.nm, ⟨[(e.s k52 0), (e.s k52 2), (e.s k52 3), (e.s k52 4)], 0, (e.s k52 0)⟩, h2⟩)))) fun e h =>
 bd (binK 0 .add (e.s k52 4) (.int .i64 1)) fun t19 =>
 some ⟨.nm, ⟨[(e.s k52 0), (e.s k52 2), (e.s k52 3), t19], 4, t19⟩, h⟩
noncomputable def s52 (K : Oracle) (L : Looper) (e : E) (h : H) : Out :=
 sq (some ⟨.nm, ⟨[(e.s k52 0), .nilp, (e.s k52 3), (e.s k52 4)], 2, .nilp⟩, h⟩) fun e h =>
 sq (bd (bl [.nils, (.int .i64 0), (.int .u64 0), (.int .u64 0)] [(some (3, 1), (.int .u64 4294967295))]) fun t5 =>
 bf (bx h 125 t5) fun t6 h1 =>
 some ⟨.nm, ⟨[(e.s k52 0), (e.s k52 2), t6, (e.s k52 4)], 3, t6⟩, h1⟩) fun e h =>
 sq (bd (nilC (e.s k52 3)) fun t9 =>
 bd (fa 0 t9) fun t10 =>
 bd (ld h t10) fun t11 =>
 bf (apZ 5 1 1 h t11 (e.s k52 0)) fun t13 h1 =>
 bd (nilC (e.s k52 3)) fun t14 =>
 bd (fa 0 t14) fun t15 =>
 bf (stZ 1 h1 t15 t13) fun _ h2 =>
 some ⟨.nm, ⟨[(e.s k52 0), (e.s k52 2), (e.s k52 3), (e.s k52 4)], 0, (e.s k52 0)⟩, h2⟩) fun e h =>
 sq (sq (some ⟨.nm, ⟨[(e.s k52 0), (e.s k52 2), (e.s k52 3), (.int .i64 0)], 4, (.int .i64 0)⟩, h⟩) fun e h =>
 blk 0 (L (l52_0 K L) e h)) fun e h =>
 sq (bd (nilC (e.s k52 3)) fun t33 =>
 bd (fa 2 t33) fun t34 =>
 bd (ld h t34) fun t35 =>
 bd (minV [t35, (.int .u64 4294967294)]) fun t36 =>
 bd (nilC (e.s k52 3)) fun t37 =>
 bd (fa 2 t37) fun t38 =>
 bf (stZ 1 h t38 t36) fun _ h1 =>
 some ⟨.nm, ⟨[(e.s k52 0), (e.s k52 2), (e.s k52 3), (e.s k52 4)], 0, (e.s k52 0)⟩, h1⟩) fun e h =>
 sq (some ⟨.nm, ⟨[(e.s k52 0), (e.s k52 3), (e.s k52 3), (e.s k52 4)], 2, (e.s k52 3)⟩, h⟩) fun e h =>
 some ⟨.rt, e, h⟩
noncomputable def f52 (K : Oracle) (L : Looper) (p0 : V) (h : H) : Option (Rv × H) := fin Try.prog k52 [.tmp 2] (s52 K L ⟨[p0, V.und, V.und, V.und], 0, p0⟩ h)
theorem r52 : (fun K L p0 h => runFF Try.prog kp K L 52 [p0] h) = f52 := by kernel_rfl
theorem c52 (p0 : V) (h : H) : callZ Try.prog kp 52 [p0] h = f52 (callZ Try.prog kp) loopZ p0 h :=
  (callZ_eqF _ _ _ _ _).trans (congrFun (congrFun (congrFun (congrFun (r52) _) _) p0) h)

/-- zoetrope/syms.shapes -/
@[simp] def k53 : List Nat := [0]
noncomputable def s53 (K : Oracle) (L : Looper) (e : E) (h : H) : Out :=
 sq (bf (nw h 96 [(.int .i64 0), (.int .i64 0), (.bool false), (.int .i64 0), (.int .i64 0), (.bool false), (.int .i64 0), (.int .i64 0), (.bool false), (.int .i64 0), (.int .i64 0), (.bool false), (.int .i64 0), (.int .i64 0), (.bool false), (.int .i64 0), (.int .i64 0), (.bool false), (.int .i64 0), (.int .i64 0), (.bool false), (.int .i64 0), (.int .i64 0), (.bool false), (.int .i64 0), (.int .i64 0), (.bool false), (.int .i64 0), (.int .i64 0), (.bool false), (.int .i64 0), (.int .i64 0), (.bool false), (.int .i64 0), (.int .i64 0), (.bool false), (.int .i64 0), (.int .i64 0), (.bool false), (.int .i64 0), (.int .i64 0), (.bool false), (.int .i64 0), (.int .i64 0), (.bool false), (.int .i64 0), (.int .i64 0), (.bool false), (.int .i64 0), (.int .i64 0), (.bool false), (.int .i64 0), (.int .i64 0), (.bool false), (.int .i64 0), (.int .i64 0), (.bool false), (.int .i64 0), (.int .i64 0), (.bool false), (.int .i64 0), (.int .i64 0), (.bool false), (.int .i64 0), (.int .i64 0), (.bool false), (.int .i64 0), (.int .i64 0), (.bool false), (.int .i64 0), (.int .i64 0), (.bool false), (.int .i64 0), (.int .i64 0), (.bool false), (.int .i64 0), (.int .i64 0), (.bool false), (.int .i64 0), (.int .i64 0), (.bool false), (.int .i64 0), (.int .i64 0), (.bool false), (.int .i64 0), (.int .i64 0), (.bool false), (.int .i64 0), (.int .i64 0), (.bool false), (.int .i64 0), (.int .i64 0), (.bool false), (.int .i64 0), (.int .i64 0), (.bool false)]) fun t0 h1 =>
 some ⟨.nm, ⟨[t0], 0, t0⟩, h1⟩) fun e h =>
 sq (bd (bl [(.int .i64 0), (.int .i64 0), (.bool false)] [(some (0, 1), (.int .i64 8)), (some (1, 1), (.int .i64 10)), (some (2, 1), (.bool false))]) fun t1 =>
 bd (bl [(.int .i64 0), (.int .i64 0), (.bool false)] [(some (0, 1), (.int .i64 4)), (some (1, 1), (.int .i64 8)), (some (2, 1), (.bool false))]) fun t2 =>
 bd (bl [(.int .i64 0), (.int .i64 0), (.bool false)] [(some (0, 1), (.int .i64 3)), (some (1, 1), (.int .i64 2)), (some (2, 1), (.bool false))]) fun t3 =>
 bd (bl [(.int .i64 0), (.int .i64 0), (.bool false)] [(some (0, 1), (.int .i64 3)), (some (1, 1), (.int .i64 2)), (some (2, 1), (.bool false))]) fun t4 =>
 bd (bl [(.int .i64 0), (.int .i64 0), (.bool false)] [(some (0, 1), (.int .i64 4)), (some (1, 1), (.int .i64 13)), (some (2, 1), (.bool false))]) fun t5 =>
 bd (bl [(.int .i64 0), (.int .i64 0), (.bool false)] [(some (0, 1), (.int .i64 8)), (some (1, 1), (.int .i64 7)), (some (2, 1), (.bool false))]) fun t6 =>
 bd (bl [(.int .i64 0), (.int .i64 0), (.bool false)] [(some (0, 1), (.int .i64 1)), (some (1, 1), (.int .i64 13)), (some (2, 1), (.bool false))]) fun t7 =>
 bd (bl [(.int .i64 0), (.int .i64 0), (.bool false)] [(some (0, 1), (.int .i64 1)), (some (1, 1), (.int .i64 14)), (some (2, 1), (.bool false))]) fun t8 =>
 bd (bl [(.int .i64 0), (.int .i64 0), (.bool false)] [(some (0, 1), (.int .i64 1)), (some (1, 1), (.int .i64 8)), (some (2, 1), (.bool false))]) fun t9 =>
 bd (bl [(.int .i64 0), (.int .i64 0), (.bool false)] [(some (0, 1), (.int .i64 2)), (some (1, 1), (.int .i64 16)), (some (2, 1), (.bool true))]) fun t10 =>
 bd (bl [(.int .i64 0), (.int .i64 0), (.bool false)] [(some (0, 1), (.int .i64 1)), (some (1, 1), (.int .i64 2)), (some (2, 1), (.bool false))]) fun t11 =>
 bd (bl [(.int .i64 0), (.int .i64 0), (.bool false)] [(some (0, 1), (.int .i64 3)), (some (1, 1), (.int .i64 3)), (some (2, 1), (.bool false))]) fun t12 =>
 bd (bl [(.int .i64 0), (.int .i64 0), (.bool false)] [(some (0, 1), (.int .i64 3)), (some (1, 1), (.int .i64 9)), (some (2, 1), (.bool false))]) fun t13 =>
 bd (bl [(.int .i64 0), (.int .i64 0), (.bool false)] [(some (0, 1), (.int .i64 1)), (some (1, 1), (.int .i64 2)), (some (2, 1), (.bool false))]) fun t14 =>
 bd (bl [(.int .i64 0), (.int .i64 0), (.bool false)] [(some (0, 1), (.int .i64 3)), (some (1, 1), (.int .i64 3)), (some (2, 1), (.bool false))]) fun t15 =>
 bd (bl [(.int .i64 0), (.int .i64 0), (.bool false)] [(some (0, 1), (.int .i64 1)), (some (1, 1), (.int .i64 2)), (some (2, 1), (.bool false))]) fun t16 =>
 bd (bl [(.int .i64 0), (.int .i64 0), (.bool false)] [(some (0, 1), (.int .i64 3)), (some (1, 1), (.int .i64 4)), (some (2, 1), (.bool false))]) fun t17 =>
 bd (bl [(.int .i64 0), (.int .i64 0), (.bool false)] [(some (0, 1), (.int .i64 1)), (some (1, 1), (.int .i64 4)), (some (2, 1), (.bool false))]) fun t18 =>
 bd (bl [(.int .i64 0), (.int .i64 0), (.bool false)] [(some (0, 1), (.int .i64 2)), (some (1, 1), (.int .i64 11)), (some (2, 1), (.bool true))]) fun t19 =>
 bd (bl [(.int .i64 0), (.int .i64 0), (.bool false)] [(some (0, 1), (.int .i64 2)), (some (1, 1), (.int .i64 8)), (some (2, 1), (.bool false))]) fun t20 =>
 bd (bl [(.int .i64 0), (.int .i64 0), (.bool false)] [(some (0, 1), (.int .i64 1)), (some (1, 1), (.int .i64 3)), (some (2, 1), (.bool false))]) fun t21 =>
 bd (bl [(.int .i64 0), (.int .i64 0), (.bool false)] [(some (0, 1), (.int .i64 1)), (some (1, 1), (.int .i64 2)), (some (2, 1), (.bool false))]) fun t22 =>
 bd (bl [(.int .i64 0), (.int .i64 0), (.bool false)] [(some (0, 1), (.int .i64 4)), (some (1, 1), (.int .i64 2)), (some (2, 1), (.bool false))]) fun t23 =>
 bd (bl [(.int .i64 0), (.int .i64 0), (.bool false)] [(some (0, 1), (.int .i64 2)), (some (1, 1), (.int .i64 5)), (some (2, 1), (.bool false))]) fun t24 =>
 bd (bl [(.int .i64 0), (.int .i64 0), (.bool false)] [(some (0, 1), (.int .i64 2)), (some (1, 1), (.int .i64 7)), (some (2, 1), (.bool false))]) fun t25 =>
 bd (bl [(.int .i64 0), (.int .i64 0), (.bool false)] [(some (0, 1), (.int .i64 2)), (some (1, 1), (.int .i64 9)), (some (2, 1), (.bool false))]) fun t26 =>
 bd (bl [(.int .i64 0), (.int .i64 0), (.bool false)] [(some (0, 1), (.int .i64 2)), (some (1, 1), (.int .i64 11)), (some (2, 1), (.bool false))]) fun t27 =>
 bd (bl [(.int .i64 0), (.int .i64 0), (.bool false)] [(some (0, 1), (.int .i64 2)), (some (1, 1), (.int .i64 3)), (some (2, 1), (.bool true))]) fun t28 =>
 bd (bl [(.int .i64 0), (.int .i64 0), (.bool false)] [(some (0, 1), (.int .i64 10)), (some (1, 1), (.int .i64 4)), (some (2, 1), (.bool true))]) fun t29 =>
 bd (bl [(.int .i64 0), (.int .i64 0), (.bool false)] [(some (0, 1), (.int .i64 14)), (some (1, 1), (.int .i64 4)), (some (2, 1), (.bool true))]) fun t30 =>
 bd (bl [(.int .i64 0), (.int .i64 0), (.bool false)] [(some (0, 1), (.int .i64 6)), (some (1, 1), (.int .i64 2)), (some (2, 1), (.bool false))]) fun t31 =>
 bd (bl [(.int .i64 0), (.int .i64 0), (.bool false)] [(some (0, 1), (.int .i64 3)), (some (1, 1), (.int .i64 2)), (some (2, 1), (.bool false))]) fun t32 =>
 bd (bl [(.int .i64 0), (.int .i64 0), (.bool false), (.int .i64 0), (.int .i64 0), (.bool false), (.int .i64 0), (.int .i64 0), (.bool false), (.int .i64 0), (.int .i64 0), (.bool false), (.int .i64 0), (.int .i64 0), (.bool false), (.int .i64 0), (.int .i64 0), (.bool false), (.int .i64 0), (.int .i64 0), (.bool false), (.int .i64 0), (.int .i64 0), (.bool false), (.int .i64 0), (.int .i64 0), (.bool false), (.int .i64 0), (.int .i64 0), (.bool false), (.int .i64 0), (.int .i64 0), (.bool false), (.int .i64 0), (.int .i64 0), (.bool false), (.int .i64 0), (.int .i64 0), (.bool false), (.int .i64 0), (.int .i64 0), (.bool false), (.int .i64 0), (.int .i64 0), (.bool false), (.int .i64 0), (.int .i64 0), (.bool false), (.int .i64 0), (.int .i64 0), (.bool false), (.int .i64 0), (.int .i64 0), (.bool false), (.int .i64 0), (.int .i64 0), (.bool false), (.int .i64 0), (.int .i64 0), (.bool false), (.int .i64 0), (.int .i64 0), (.bool false), (.int .i64 0), (.int .i64 0), (.bool false), (.int .i64 0), (.int .i64 0), (.bool false), (.int .i64 0), (.int .i64 0), (.bool false), (.int .i64 0), (.int .i64 0), (.bool false), (.int .i64 0), (.int .i64 0), (.bool false), (.int .i64 0), (.int .i64 0), (.bool false), (.int .i64 0), (.int .i64 0), (.bool false), (.int .i64 0), (.int .i64 0), (.bool false), (.int .i64 0), (.int .i64 0), (.bool false), (.int .i64 0), (.int .i64 0), (.bool false), (.int .i64 0), (.int .i64 0), (.bool false)] [(some (0, 3), t1), (some (3, 3), t2), (some (6, 3), t3), (some (9, 3), t4), (some (12, 3), t5), (some (15, 3), t6), (some (18, 3), t7), (some (21, 3), t8), (some (24, 3), t9), (some (27, 3), t10), (some (30, 3), t11), (some (33, 3), t12), (some (36, 3), t13), (some (39, 3), t14), (some (42, 3), t15), (some (45, 3), t16), (some (48, 3), t17), (some (51, 3), t18), (some (54, 3), t19), (some (57, 3), t20), (some (60, 3), t21), (some (63, 3), t22), (some (66, 3), t23), (some (69, 3), t24), (some (72, 3), t25), (some (75, 3), t26), (some (78, 3), t27), (some (81, 3), t28), (some (84, 3), t29), (some (87, 3), t30), (some (90, 3), t31), (some (93, 3), t32)]) fun t33 =>
 bf (stZ 96 h (e.s k53 0) t33) fun _ h1 =>
 some ⟨.nm, ⟨[(e.s k53 0)], 0, (e.s k53 0)⟩, h1⟩) fun e h =>
 some ⟨.rt, e, h⟩
noncomputable def f53 (K : Oracle) (L : Looper) (h : H) : Option (Rv × H) := fin Try.prog k53 [.cell 0 96] (s53 K L ⟨[V.und], 0, V.und⟩ h)
theorem r53 : (fun K L h => runFF Try.prog kp K L 53 [] h) = f53 := by kernel_rfl
theorem c53 (h : H) : callZ Try.prog kp 53 [] h = f53 (callZ Try.prog kp) loopZ h :=
  (callZ_eqF _ _ _ _ _).trans (congrFun (congrFun (congrFun (r53) _) _) h)

/-- zoetrope/cdf.Flat -/
@[simp] def k54 : List Nat := [0, 2, 3, 4, 5, 15, 16]
noncomputable def l54_0 (K : Oracle) (L : Looper) (e : E) (h : H) : Out :=
 sq (bd (binK 0 .lss (e.s k54 16) (e.s k54 15)) fun t17 =>
 some ⟨.nm, ⟨[(e.s k54 0), (e.s k54 2), (e.s k54 3), (e.s k54 4), (e.s k54 5), (e.s k54 15), (e.s k54 16)], 17, t17⟩, h⟩) fun e h =>
 sq (br (e.s k54 17) (some ⟨.nm, e, h⟩)
 (some ⟨.ex 0, e, h⟩)) fun e h =>
 sq (blk 1 (sq (some ⟨.nm, ⟨[(e.s k54 0), (e.s k54 2), (e.s k54 3), (e.s k54 4), (e.s k54 16), (e.s k54 15), (e.s k54 16)], 5, (e.s k54 16)⟩, h⟩) fun e h =>
 bd (fa 0 (e.s k54 4)) fun t19 =>
 bd (ld h t19) fun t20 =>
 bd (binK 0 .add (e.s k54 5) (.int .i64 1)) fun t23 =>
 bd (binK 0 .mul (.int .i64 32768) t23) fun t24 =>
 bd (binK 0 .quo t24 (e.s k54 0)) fun t26 =>
 bd (cv .u16 t26) fun t27 =>
 bd (iaS 1 t20 (e.s k54 5)) fun t28 =>
 bf (stZ 1 h t28 t27) fun _ h1 =>
 ck (ld h t19) t20 (some ⟨.nm, ⟨[(e.s k54 0), (e.s k54 2), (e.s k54 3), (e.s k54 4), (e.s k54 5), (e.s k54 15), (e.s k54 16)], 0, (e.s k54 0)⟩, h1⟩))) fun e h =>
 bd (binK 0 .add (e.s k54 16) (.int .i64 1)) fun t29 =>
 some ⟨.nm, ⟨[(e.s k54 0), (e.s k54 2), (e.s k54 3), (e.s k54 4), (e.s k54 5), (e.s k54 15), t29], 16, t29⟩, h⟩
noncomputable def s54 (K : Oracle) (L : Looper) (e : E) (h : H) : Out :=
 sq (bf (nw h 72 [.nils, (.int .i64 0)]) fun t2 h1 =>
 some ⟨.nm, ⟨[(e.s k54 0), t2, (.int .i64 0), (e.s k54 4), (e.s k54 5), (e.s k54 15), (e.s k54 16)], 3, (.int .i64 0)⟩, h1⟩) fun e h =>
 sq (sq (bc k54 [6, 7, 8] e (K 80 [(e.s k54 0)] h) fun t7 h1 =>
 bd (unV .not t7) fun t8 =>
 some ⟨.nm, ⟨[(e.s k54 0), (e.s k54 2), (e.s k54 3), (e.s k54 4), (e.s k54 5), (e.s k54 15), (e.s k54 16)], 8, t8⟩, h1⟩) fun e h =>
 br (e.s k54 8) (sq (bd (bl [.nils, (.int .i64 0)] []) fun t9 =>
 bf (stZ 2 h (e.s k54 2) t9) fun _ h1 =>
 some ⟨.nm, ⟨[(e.s k54 0), (e.s k54 2), (.int .i64 2), (e.s k54 4), (e.s k54 5), (e.s k54 15), (e.s k54 16)], 3, (.int .i64 2)⟩, h1⟩) fun e h =>
 some ⟨.rt, e, h⟩)
 (some ⟨.nm, e, h⟩)) fun e h =>
 sq (bf (ms h 38 2 [(.int .u16 0)] (e.s k54 0) (e.s k54 0)) fun t11 h1 =>
 bd (bl [.nils, (.int .i64 0)] [(some (0, 1), t11)]) fun t12 =>
 bf (nw h1 72 [.nils, (.int .i64 0)]) fun t4 h2 =>
 bf (stZ 2 h2 t4 t12) fun _ h3 =>
 some ⟨.nm, ⟨[(e.s k54 0), (e.s k54 2), (e.s k54 3), t4, (e.s k54 5), (e.s k54 15), (e.s k54 16)], 0, (e.s k54 0)⟩, h3⟩) fun e h =>
 sq (sq (bd (fa 0 (e.s k54 4)) fun t13 =>
 bd (ld h t13) fun t14 =>
 bd (lnS t14) fun t15 =>
 some ⟨.nm, ⟨[(e.s k54 0), (e.s k54 2), (e.s k54 3), (e.s k54 4), (e.s k54 5), t15, (.int .i64 0)], 16, (.int .i64 0)⟩, h⟩) fun e h =>
 blk 0 (L (l54_0 K L) e h)) fun e h =>
 sq (bd (ldn 2 h (e.s k54 4)) fun t30 =>
 bf (stZ 2 h (e.s k54 2) t30) fun _ h1 =>
 some ⟨.nm, ⟨[(e.s k54 0), (e.s k54 2), (.int .i64 0), (e.s k54 4), (e.s k54 5), (e.s k54 15), (e.s k54 16)], 3, (.int .i64 0)⟩, h1⟩) fun e h =>
 some ⟨.rt, e, h⟩
noncomputable def f54 (K : Oracle) (L : Looper) (p0 : V) (h : H) : Option (Rv × H) := fin Try.prog k54 [.cell 2 72, .tmp 3] (s54 K L ⟨[p0, V.und, V.und, V.und, V.und, V.und, V.und], 0, p0⟩ h)
theorem r54 : (fun K L p0 h => runFF Try.prog kp K L 54 [p0] h) = f54 := by kernel_rfl
theorem c54 (p0 : V) (h : H) : callZ Try.prog kp 54 [p0] h = f54 (callZ Try.prog kp) loopZ p0 h :=
  (callZ_eqF _ _ _ _ _).trans (congrFun (congrFun (congrFun (congrFun (r54) _) _) p0) h)

/-- zoetrope/cdf.Steep -/
@[simp] def k55 : List Nat := [0, 2, 3, 4, 5, 15, 16]
noncomputable def l55_0 (K : Oracle) (L : Looper) (e : E) (h : H) : Out :=
 sq (bd (binK 0 .lss (e.s k55 16) (e.s k55 15)) fun t17 =>
 some ⟨.nm, ⟨[(e.s k55 0), (e.s k55 2), (e.s k55 3), (e.s k55 4), (e.s k55 5), (e.s k55 15), (e.s k55 16)], 17, t17⟩, h⟩) fun e h =>
 sq (br (e.s k55 17) (some ⟨.nm, e, h⟩)
 (some ⟨.ex 0, e, h⟩)) fun e h =>
 sq (blk 1 (sq (some ⟨.nm, ⟨[(e.s k55 0), (e.s k55 2), (e.s k55 3), (e.s k55 4), (e.s k55 16), (e.s k55 15), (e.s k55 16)], 5, (e.s k55 16)⟩, h⟩) fun e h =>
 bd (fa 0 (e.s k55 4)) fun t19 =>
 bd (ld h t19) fun t20 =>
 bd (binK 0 .add (e.s k55 5) (.int .i64 1)) fun t23 =>
 bd (binK 0 .shr (.int .u16 32768) t23) fun t24 =>
 bd (binK 0 .sub (.int .u16 32768) t24) fun t25 =>
 bd (iaS 1 t20 (e.s k55 5)) fun t26 =>
 bf (stZ 1 h t26 t25) fun _ h1 =>
 ck (ld h t19) t20 (some ⟨.nm, ⟨[(e.s k55 0), (e.s k55 2), (e.s k55 3), (e.s k55 4), (e.s k55 5), (e.s k55 15), (e.s k55 16)], 0, (e.s k55 0)⟩, h1⟩))) fun e h =>
 bd (binK 0 .add (e.s k55 16) (.int .i64 1)) fun t27 =>
 some ⟨.nm, ⟨[(e.s k55 0), (e.s k55 2), (e.s k55 3), (e.s k55 4), (e.s k55 5), (e.s k55 15), t27], 16, t27⟩, h⟩
noncomputable def s55 (K : Oracle) (L : Looper) (e : E) (h : H) : Out :=
 sq (bf (nw h 72 [.nils, (.int .i64 0)]) fun t2 h1 =>
 some ⟨.nm, ⟨[(e.s k55 0), t2, (.int .i64 0), (e.s k55 4), (e.s k55 5), (e.s k55 15), (e.s k55 16)], 3, (.int .i64 0)⟩, h1⟩) fun e h =>
 sq (sq (bc k55 [6, 7, 8] e (K 80 [(e.s k55 0)] h) fun t7 h1 =>
 bd (unV .not t7) fun t8 =>
 some ⟨.nm, ⟨[(e.s k55 0), (e.s k55 2), (e.s k55 3), (e.s k55 4), (e.s k55 5), (e.s k55 15), (e.s k55 16)], 8, t8⟩, h1⟩) fun e h =>
 br (e.s k55 8) (sq (bd (bl [.nils, (.int .i64 0)] []) fun t9 =>
 bf (stZ 2 h (e.s k55 2) t9) fun _ h1 =>
 some ⟨.nm, ⟨[(e.s k55 0), (e.s k55 2), (.int .i64 2), (e.s k55 4), (e.s k55 5), (e.s k55 15), (e.s k55 16)], 3, (.int .i64 2)⟩, h1⟩) fun e h =>
 some ⟨.rt, e, h⟩)
 (some ⟨.nm, e, h⟩)) fun e h =>
 sq (bf (ms h 38 2 [(.int .u16 0)] (e.s k55 0) (e.s k55 0)) fun t11 h1 =>
 bd (bl [.nils, (.int .i64 0)] [(some (0, 1), t11)]) fun t12 =>
 bf (nw h1 72 [.nils, (.int .i64 0)]) fun t4 h2 =>
 bf (stZ 2 h2 t4 t12) fun _ h3 =>
 some ⟨.nm, ⟨[(e.s k55 0), (e.s k55 2), (e.s k55 3), t4, (e.s k55 5), (e.s k55 15), (e.s k55 16)], 0, (e.s k55 0)⟩, h3⟩) fun e h =>
 sq (sq (bd (fa 0 (e.s k55 4)) fun t13 =>
 bd (ld h t13) fun t14 =>
 bd (lnS t14) fun t15 =>
 some ⟨.nm, ⟨[(e.s k55 0), (e.s k55 2), (e.s k55 3), (e.s k55 4), (e.s k55 5), t15, (.int .i64 0)], 16, (.int .i64 0)⟩, h⟩) fun e h =>
 blk 0 (L (l55_0 K L) e h)) fun e h =>
 sq (bd (fa 0 (e.s k55 4)) fun t28 =>
 bd (ld h t28) fun t29 =>
 bd (binK 0 .sub (e.s k55 0) (.int .i64 1)) fun t31 =>
 bd (iaS 1 t29 t31) fun t32 =>
 bf (stZ 1 h t32 (.int .u16 32768)) fun _ h1 =>
 some ⟨.nm, ⟨[(e.s k55 0), (e.s k55 2), (e.s k55 3), (e.s k55 4), (e.s k55 5), (e.s k55 15), (e.s k55 16)], 0, (e.s k55 0)⟩, h1⟩) fun e h =>
 sq (bd (ldn 2 h (e.s k55 4)) fun t33 =>
 bf (stZ 2 h (e.s k55 2) t33) fun _ h1 =>
 some ⟨.nm, ⟨[(e.s k55 0), (e.s k55 2), (.int .i64 0), (e.s k55 4), (e.s k55 5), (e.s k55 15), (e.s k55 16)], 3, (.int .i64 0)⟩, h1⟩) fun e h =>
 some ⟨.rt, e, h⟩
noncomputable def f55 (K : Oracle) (L : Looper) (p0 : V) (h : H) : Option (Rv × H) := fin Try.prog k55 [.cell 2 72, .tmp 3] (s55 K L ⟨[p0, V.und, V.und, V.und, V.und, V.und, V.und], 0, p0⟩ h)
theorem r55 : (fun K L p0 h => runFF Try.prog kp K L 55 [p0] h) = f55 := by kernel_rfl
theorem c55 (p0 : V) (h : H) : callZ Try.prog kp 55 [p0] h = f55 (callZ Try.prog kp) loopZ p0 h :=
  (callZ_eqF _ _ _ _ _).trans (congrFun (congrFun (congrFun (congrFun (r55) _) _) p0) h)

/-- (*zoetrope/syms.Coder).bit -/
@[simp] def k56 : List Nat := [0, 1, 4, 5, 6, 7, 8]
noncomputable def s56 (K : Oracle) (L : Looper) (e : E) (h : H) : Out :=
 sq (some ⟨.nm, ⟨[(e.s k56 0), (e.s k56 1), (.int .i64 0), (.int .i64 0), (e.s k56 6), (e.s k56 7), (e.s k56 8)], 5, (.int .i64 0)⟩, h⟩) fun e h =>
 sq (sq (bc k56 [9, 10, 11] e (K 14 [(e.s k56 0)] h) fun t10 h1 =>
 bd (unV .not t10) fun t11 =>
 some ⟨.nm, ⟨[(e.s k56 0), (e.s k56 1), (e.s k56 4), (e.s k56 5), (e.s k56 6), (e.s k56 7), (e.s k56 8)], 11, t11⟩, h1⟩) fun e h =>
 br (e.s k56 11) (sq (bd (nilC (e.s k56 0)) fun t14 =>
 bd (fa 1 t14) fun t15 =>
 bd (ld h t15) fun t16 =>
 bc k56 [13, 14, 15, 16, 17, 12, 18, 19, 6, 7] e (K 81 [t16] h) fun t17 h1 =>
 bd (exV t17 0) fun t18 =>
 bd (exV t17 1) fun t19 =>
 some ⟨.nm, ⟨[(e.s k56 0), (e.s k56 1), (e.s k56 4), (e.s k56 5), t18, t19, (e.s k56 8)], 7, t19⟩, h1⟩) fun e h =>
 sq (sq (bd (binK 0 .neq (e.s k56 7) (.int .i64 0)) fun t21 =>
 some ⟨.nm, ⟨[(e.s k56 0), (e.s k56 1), (e.s k56 4), (e.s k56 5), (e.s k56 6), (e.s k56 7), (e.s k56 8)], 21, t21⟩, h⟩) fun e h =>
 br (e.s k56 21) (sq (some ⟨.nm, ⟨[(e.s k56 0), (e.s k56 1), (.int .i64 0), (e.s k56 7), (e.s k56 6), (e.s k56 7), (e.s k56 8)], 5, (e.s k56 7)⟩, h⟩) fun e h =>
 some ⟨.rt, e, h⟩)
 (some ⟨.nm, e, h⟩)) fun e h =>
 bd (binK 0 .quo (e.s k56 6) (.int .u32 16384)) fun t24 =>
 bd (cv .i64 t24) fun t25 =>
 some ⟨.nm, ⟨[(e.s k56 0), t25, (e.s k56 4), (e.s k56 5), (e.s k56 6), (e.s k56 7), (e.s k56 8)], 1, t25⟩, h⟩)
 (some ⟨.nm, e, h⟩)) fun e h =>
 sq (bd (cv .u32 (e.s k56 1)) fun t27 =>
 bd (binK 0 .mul t27 (.int .u32 16384)) fun t28 =>
 some ⟨.nm, ⟨[(e.s k56 0), (e.s k56 1), (e.s k56 4), (e.s k56 5), (e.s k56 6), (e.s k56 7), t28], 8, t28⟩, h⟩) fun e h =>
 sq (sq (bc k56 [29, 30] e (K 14 [(e.s k56 0)] h) fun t30 h1 =>
 some ⟨.nm, ⟨[(e.s k56 0), (e.s k56 1), (e.s k56 4), (e.s k56 5), (e.s k56 6), (e.s k56 7), (e.s k56 8)], 30, t30⟩, h1⟩) fun e h =>
 br (e.s k56 30) (sq (bd (nilC (e.s k56 0)) fun t33 =>
 bd (fa 0 t33) fun t34 =>
 bd (ld h t34) fun t35 =>
 bd (binK 0 .add (e.s k56 8) (.int .u32 16384)) fun t38 =>
 bc k56 [31, 32, 33, 34, 35, 36, 37, 38, 39, 4, 5] e (K 82 [t35, (e.s k56 8), t38] h) fun t39 h1 =>
 some ⟨.nm, ⟨[(e.s k56 0), (e.s k56 1), (e.s k56 1), t39, (e.s k56 6), (e.s k56 7), (e.s k56 8)], 5, t39⟩, h1⟩) fun e h =>
 some ⟨.rt, e, h⟩)
 (some ⟨.nm, e, h⟩)) fun e h =>
 sq (bd (nilC (e.s k56 0)) fun t42 =>
 bd (fa 1 t42) fun t43 =>
 bd (ld h t43) fun t44 =>
 bd (binK 0 .add (e.s k56 8) (.int .u32 16384)) fun t47 =>
 bc k56 [40, 41, 42, 43, 44, 45, 46, 47, 48, 4, 5] e (K 83 [t44, (e.s k56 8), t47] h) fun t48 h1 =>
 some ⟨.nm, ⟨[(e.s k56 0), (e.s k56 1), (e.s k56 1), t48, (e.s k56 6), (e.s k56 7), (e.s k56 8)], 5, t48⟩, h1⟩) fun e h =>
 some ⟨.rt, e, h⟩
noncomputable def f56 (K : Oracle) (L : Looper) (p0 p1 : V) (h : H) : Option (Rv × H) := fin Try.prog k56 [.tmp 4, .tmp 5] (s56 K L ⟨[p0, p1, V.und, V.und, V.und, V.und, V.und], 0, p0⟩ h)
theorem r56 : (fun K L p0 p1 h => runFF Try.prog kp K L 56 [p0, p1] h) = f56 := by kernel_rfl
theorem c56 (p0 p1 : V) (h : H) : callZ Try.prog kp 56 [p0, p1] h = f56 (callZ Try.prog kp) loopZ p0 p1 h :=
  (callZ_eqF _ _ _ _ _).trans (congrFun (congrFun (congrFun (congrFun (congrFun (r56) _) _) p0) p1) h)

/-- (*zoetrope/syms.Coder).value -/
@[simp] def k57 : List Nat := [0, 1, 2, 4, 6, 7, 8, 9, 10, 11, 12]
noncomputable def s57 (K : Oracle) (L : Looper) (e : E) (h : H) : Out :=
 sq (bf (bx h 72 (e.s k57 1)) fun t4 h1 =>
 some ⟨.nm, ⟨[(e.s k57 0), (e.s k57 1), (e.s k57 2), t4, (.int .i64 0), (.int .i64 0), (e.s k57 8), (e.s k57 9), (e.s k57 10), (e.s k57 11), (e.s k57 12)], 7, (.int .i64 0)⟩, h1⟩) fun e h =>
 sq (sq (bc k57 [13, 14, 15] e (K 14 [(e.s k57 0)] h) fun t14 h1 =>
 bd (unV .not t14) fun t15 =>
 some ⟨.nm, ⟨[(e.s k57 0), (e.s k57 1), (e.s k57 2), (e.s k57 4), (e.s k57 6), (e.s k57 7), (e.s k57 8), (e.s k57 9), (e.s k57 10), (e.s k57 11), (e.s k57 12)], 15, t15⟩, h1⟩) fun e h =>
 br (e.s k57 15) (sq (bd (nilC (e.s k57 0)) fun t18 =>
 bd (fa 1 t18) fun t19 =>
 bd (ld h t19) fun t20 =>
 bc k57 [17, 18, 19, 20, 21, 16, 22, 23, 8, 9] e (K 81 [t20] h) fun t21 h1 =>
 bd (exV t21 0) fun t22 =>
 bd (exV t21 1) fun t23 =>
 some ⟨.nm, ⟨[(e.s k57 0), (e.s k57 1), (e.s k57 2), (e.s k57 4), (e.s k57 6), (e.s k57 7), t22, t23, (e.s k57 10), (e.s k57 11), (e.s k57 12)], 9, t23⟩, h1⟩) fun e h =>
 sq (sq (bd (binK 0 .neq (e.s k57 9) (.int .i64 0)) fun t25 =>
 some ⟨.nm, ⟨[(e.s k57 0), (e.s k57 1), (e.s k57 2), (e.s k57 4), (e.s k57 6), (e.s k57 7), (e.s k57 8), (e.s k57 9), (e.s k57 10), (e.s k57 11), (e.s k57 12)], 25, t25⟩, h⟩) fun e h =>
 br (e.s k57 25) (sq (some ⟨.nm, ⟨[(e.s k57 0), (e.s k57 1), (e.s k57 2), (e.s k57 4), (.int .i64 0), (e.s k57 9), (e.s k57 8), (e.s k57 9), (e.s k57 10), (e.s k57 11), (e.s k57 12)], 7, (e.s k57 9)⟩, h⟩) fun e h =>
 some ⟨.rt, e, h⟩)
 (some ⟨.nm, e, h⟩)) fun e h =>
 sq (bd (ldn 2 h (e.s k57 4)) fun t28 =>
 bc k57 [28, 29, 30, 27, 31, 32, 2, 9] e (K 84 [t28, (e.s k57 8)] h) fun t30 h1 =>
 bd (exV t30 0) fun t31 =>
 bd (exV t30 1) fun t32 =>
 some ⟨.nm, ⟨[(e.s k57 0), (e.s k57 1), t31, (e.s k57 4), (e.s k57 6), (e.s k57 7), (e.s k57 8), t32, (e.s k57 10), (e.s k57 11), (e.s k57 12)], 9, t32⟩, h1⟩) fun e h =>
 sq (bd (binK 0 .neq (e.s k57 9) (.int .i64 0)) fun t34 =>
 some ⟨.nm, ⟨[(e.s k57 0), (e.s k57 1), (e.s k57 2), (e.s k57 4), (e.s k57 6), (e.s k57 7), (e.s k57 8), (e.s k57 9), (e.s k57 10), (e.s k57 11), (e.s k57 12)], 34, t34⟩, h⟩) fun e h =>
 br (e.s k57 34) (sq (some ⟨.nm, ⟨[(e.s k57 0), (e.s k57 1), (e.s k57 2), (e.s k57 4), (.int .i64 0), (e.s k57 9), (e.s k57 8), (e.s k57 9), (e.s k57 10), (e.s k57 11), (e.s k57 12)], 7, (e.s k57 9)⟩, h⟩) fun e h =>
 some ⟨.rt, e, h⟩)
 (some ⟨.nm, e, h⟩))
 (some ⟨.nm, e, h⟩)) fun e h =>
 sq (bd (ldn 2 h (e.s k57 4)) fun t37 =>
 bc k57 [37, 38, 39, 36, 40, 41, 42, 10, 11, 12] e (K 85 [t37, (e.s k57 2)] h) fun t39 h1 =>
 bd (exV t39 0) fun t40 =>
 bd (exV t39 1) fun t41 =>
 bd (exV t39 2) fun t42 =>
 some ⟨.nm, ⟨[(e.s k57 0), (e.s k57 1), (e.s k57 2), (e.s k57 4), (e.s k57 6), (e.s k57 7), (e.s k57 8), (e.s k57 9), t40, t41, t42], 12, t42⟩, h1⟩) fun e h =>
 sq (sq (bd (binK 0 .neq (e.s k57 12) (.int .i64 0)) fun t44 =>
 some ⟨.nm, ⟨[(e.s k57 0), (e.s k57 1), (e.s k57 2), (e.s k57 4), (e.s k57 6), (e.s k57 7), (e.s k57 8), (e.s k57 9), (e.s k57 10), (e.s k57 11), (e.s k57 12)], 44, t44⟩, h⟩) fun e h =>
 br (e.s k57 44) (sq (some ⟨.nm, ⟨[(e.s k57 0), (e.s k57 1), (e.s k57 2), (e.s k57 4), (.int .i64 0), (e.s k57 12), (e.s k57 8), (e.s k57 9), (e.s k57 10), (e.s k57 11), (e.s k57 12)], 7, (e.s k57 12)⟩, h⟩) fun e h =>
 some ⟨.rt, e, h⟩)
 (some ⟨.nm, e, h⟩)) fun e h =>
 sq (sq (bc k57 [46, 47] e (K 14 [(e.s k57 0)] h) fun t47 h1 =>
 some ⟨.nm, ⟨[(e.s k57 0), (e.s k57 1), (e.s k57 2), (e.s k57 4), (e.s k57 6), (e.s k57 7), (e.s k57 8), (e.s k57 9), (e.s k57 10), (e.s k57 11), (e.s k57 12)], 47, t47⟩, h1⟩) fun e h =>
 br (e.s k57 47) (sq (bd (nilC (e.s k57 0)) fun t50 =>
 bd (fa 0 t50) fun t51 =>
 bd (ld h t51) fun t52 =>
 bc k57 [48, 49, 50, 51, 52, 53, 54, 55, 6, 7] e (K 82 [t52, (e.s k57 10), (e.s k57 11)] h) fun t55 h1 =>
 some ⟨.nm, ⟨[(e.s k57 0), (e.s k57 1), (e.s k57 2), (e.s k57 4), (e.s k57 2), t55, (e.s k57 8), (e.s k57 9), (e.s k57 10), (e.s k57 11), (e.s k57 12)], 7, t55⟩, h1⟩) fun e h =>
 some ⟨.rt, e, h⟩)
 (some ⟨.nm, e, h⟩)) fun e h =>
 sq (bd (nilC (e.s k57 0)) fun t58 =>
 bd (fa 1 t58) fun t59 =>
 bd (ld h t59) fun t60 =>
 bc k57 [56, 57, 58, 59, 60, 61, 62, 63, 6, 7] e (K 83 [t60, (e.s k57 10), (e.s k57 11)] h) fun t63 h1 =>
 some ⟨.nm, ⟨[(e.s k57 0), (e.s k57 1), (e.s k57 2), (e.s k57 4), (e.s k57 2), t63, (e.s k57 8), (e.s k57 9), (e.s k57 10), (e.s k57 11), (e.s k57 12)], 7, t63⟩, h1⟩) fun e h =>
 some ⟨.rt, e, h⟩
noncomputable def f57 (K : Oracle) (L : Looper) (p0 p1 p2 : V) (h : H) : Option (Rv × H) := fin Try.prog k57 [.tmp 6, .tmp 7] (s57 K L ⟨[p0, p1, p2, V.und, V.und, V.und, V.und, V.und, V.und, V.und, V.und], 0, p0⟩ h)
theorem r57 : (fun K L p0 p1 p2 h => runFF Try.prog kp K L 57 [p0, p1, p2] h) = f57 := by kernel_rfl
theorem c57 (p0 p1 p2 : V) (h : H) : callZ Try.prog kp 57 [p0, p1, p2] h = f57 (callZ Try.prog kp) loopZ p0 p1 p2 h :=
  (callZ_eqF _ _ _ _ _).trans (congrFun (congrFun (congrFun (congrFun (congrFun (congrFun (r57) _) _) p0) p1) p2) h)

/-- zoetrope/cdf.Check -/
@[simp] def k58 : List Nat := [0, 1, 2]
noncomputable def s58 (K : Oracle) (L : Looper) (e : E) (h : H) : Out :=
 sq (bf (bx h 72 (e.s k58 0)) fun t1 h1 =>
 some ⟨.nm, ⟨[(e.s k58 0), t1, (.int .i64 0)], 2, (.int .i64 0)⟩, h1⟩) fun e h =>
 sq (blk 0 (sq (sq (bd (fa 0 (e.s k58 1)) fun t4 =>
 bd (ld h t4) fun t5 =>
 bd (lnS t5) fun t6 =>
 bc k58 [4, 5, 6, 7, 8, 3] e (K 80 [t6] h) fun t7 h1 =>
 bd (unV .not t7) fun t8 =>
 some ⟨.nm, ⟨[(e.s k58 0), (e.s k58 1), (e.s k58 2)], 3, t8⟩, h1⟩) fun e h =>
 br (e.s k58 3) (some ⟨.nm, e, h⟩)
 (sq (bd (fa 1 (e.s k58 1)) fun t9 =>
 bd (ld h t9) fun t10 =>
 bd (binK 0 .lss t10 (.int .i64 0)) fun t11 =>
 some ⟨.nm, ⟨[(e.s k58 0), (e.s k58 1), (e.s k58 2)], 3, t11⟩, h⟩) fun e h =>
 br (e.s k58 3) (some ⟨.nm, e, h⟩)
 (bd (fa 1 (e.s k58 1)) fun t12 =>
 bd (ld h t12) fun t13 =>
 bd (binK 0 .gtr t13 (.int .i64 32)) fun t14 =>
 some ⟨.nm, ⟨[(e.s k58 0), (e.s k58 1), (e.s k58 2)], 3, t14⟩, h⟩))) fun e h =>
 br (e.s k58 3) (sq (some ⟨.nm, ⟨[(e.s k58 0), (e.s k58 1), (.int .i64 2)], 2, (.int .i64 2)⟩, h⟩) fun e h =>
 some ⟨.rt, e, h⟩)
 (sq (sq (bd (fa 0 (e.s k58 1)) fun t16 =>
 bd (ld h t16) fun t17 =>
 bc k58 [16, 17, 18, 19, 15] e (K 86 [t17] h) fun t18 h1 =>
 bd (unV .not t18) fun t19 =>
 some ⟨.nm, ⟨[(e.s k58 0), (e.s k58 1), (e.s k58 2)], 15, t19⟩, h1⟩) fun e h =>
 br (e.s k58 15) (some ⟨.nm, e, h⟩)
 (bd (fa 0 (e.s k58 1)) fun t20 =>
 bd (ld h t20) fun t21 =>
 bd (fa 0 (e.s k58 1)) fun t22 =>
 bd (ld h t22) fun t23 =>
 bd (lnS t23) fun t24 =>
 bd (binK 0 .sub t24 (.int .i64 1)) fun t25 =>
 bd (iaS 1 t21 t25) fun t26 =>
 bd (ld h t26) fun t27 =>
 bd (binK 0 .neq t27 (.int .u16 32768)) fun t28 =>
 some ⟨.nm, ⟨[(e.s k58 0), (e.s k58 1), (e.s k58 2)], 15, t28⟩, h⟩)) fun e h =>
 br (e.s k58 15) (sq (some ⟨.nm, ⟨[(e.s k58 0), (e.s k58 1), (.int .i64 2)], 2, (.int .i64 2)⟩, h⟩) fun e h =>
 some ⟨.rt, e, h⟩)
 (some ⟨.nm, e, h⟩)))) fun e h =>
 sq (some ⟨.nm, ⟨[(e.s k58 0), (e.s k58 1), (.int .i64 0)], 2, (.int .i64 0)⟩, h⟩) fun e h =>
 some ⟨.rt, e, h⟩
noncomputable def f58 (K : Oracle) (L : Looper) (p0 : V) (h : H) : Option (Rv × H) := fin Try.prog k58 [.tmp 2] (s58 K L ⟨[p0, V.und, V.und], 0, p0⟩ h)
theorem r58 : (fun K L p0 h => runFF Try.prog kp K L 58 [p0] h) = f58 := by kernel_rfl
theorem c58 (p0 : V) (h : H) : callZ Try.prog kp 58 [p0] h = f58 (callZ Try.prog kp) loopZ p0 h :=
  (callZ_eqF _ _ _ _ _).trans (congrFun (congrFun (congrFun (congrFun (r58) _) _) p0) h)

/-- zoetrope/cdf.asked -/
@[simp] def k59 : List Nat := [0, 1, 2, 4]
noncomputable def s59 (K : Oracle) (L : Looper) (e : E) (h : H) : Out :=
 sq (bf (bx h 72 (e.s k59 0)) fun t2 h1 =>
 some ⟨.nm, ⟨[(e.s k59 0), (e.s k59 1), t2, (.bool false)], 4, (.bool false)⟩, h1⟩) fun e h =>
 sq (bd (ldn 2 h (e.s k59 2)) fun t5 =>
 bc k59 [5, 6, 7, 8, 9, 10, 11, 12, 13, 14, 15, 16, 17, 18, 4] e (K 58 [t5] h) fun t6 h1 =>
 bd (binK 0 .eql t6 (.int .i64 0)) fun t7 =>
 bd (gl t7 true (some (e.s k59 1))) fun t9 =>
 bd (gl t7 true (binK 0 .geq t9 (.int .i64 0))) fun t10 =>
 bd (pk t7 t10 (.bool false)) fun t11 =>
 bd (gl t11 true (some (e.s k59 1))) fun t13 =>
 bd (gl t11 true (fa 0 (e.s k59 2))) fun t14 =>
 bd (gl t11 true (ld h1 t14)) fun t15 =>
 bd (gl t11 true (lnS t15)) fun t16 =>
 bd (gl t11 true (binK 0 .lss t13 t16)) fun t17 =>
 bd (pk t11 t17 (.bool false)) fun t18 =>
 some ⟨.nm, ⟨[(e.s k59 0), (e.s k59 1), (e.s k59 2), t18], 4, t18⟩, h1⟩) fun e h =>
 some ⟨.rt, e, h⟩
noncomputable def f59 (K : Oracle) (L : Looper) (p0 p1 : V) (h : H) : Option (Rv × H) := fin Try.prog k59 [.tmp 4] (s59 K L ⟨[p0, p1, V.und, V.und], 0, p0⟩ h)
theorem r59 : (fun K L p0 p1 h => runFF Try.prog kp K L 59 [p0, p1] h) = f59 := by kernel_rfl
theorem c59 (p0 p1 : V) (h : H) : callZ Try.prog kp 59 [p0, p1] h = f59 (callZ Try.prog kp) loopZ p0 p1 h :=
  (callZ_eqF _ _ _ _ _).trans (congrFun (congrFun (congrFun (congrFun (congrFun (r59) _) _) p0) p1) h)

/-- zoetrope/cdf.rate -/
@[simp] def k60 : List Nat := [0, 1, 2, 3]
noncomputable def s60 (K : Oracle) (L : Looper) (e : E) (h : H) : Out :=
 sq (bf (bx h 72 (e.s k60 0)) fun t1 h1 =>
 some ⟨.nm, ⟨[(e.s k60 0), t1, (.int .i64 0), (e.s k60 3)], 2, (.int .i64 0)⟩, h1⟩) fun e h =>
 sq (bd (fa 0 (e.s k60 1)) fun t4 =>
 bd (ld h t4) fun t5 =>
 bd (lnS t5) fun t6 =>
 bd (cv .u64 t6) fun t7 =>
 bc k60 [4, 5, 6, 7, 8, 9, 10, 11, 3] e (K 87 [t7] h) fun t8 h1 =>
 bd (binK 0 .sub t8 (.int .i64 1)) fun t9 =>
 bd (minV [t9, (.int .i64 2)]) fun t10 =>
 bd (binK 0 .add (.int .i64 3) t10) fun t11 =>
 some ⟨.nm, ⟨[(e.s k60 0), (e.s k60 1), (e.s k60 2), t11], 3, t11⟩, h1⟩) fun e h =>
 sq (sq (bd (fa 1 (e.s k60 1)) fun t12 =>
 bd (ld h t12) fun t13 =>
 bd (binK 0 .gtr t13 (.int .i64 15)) fun t14 =>
 some ⟨.nm, ⟨[(e.s k60 0), (e.s k60 1), (e.s k60 2), (e.s k60 3)], 14, t14⟩, h⟩) fun e h =>
 br (e.s k60 14) (bd (binK 0 .add (e.s k60 3) (.int .i64 1)) fun t16 =>
 some ⟨.nm, ⟨[(e.s k60 0), (e.s k60 1), (e.s k60 2), t16], 3, t16⟩, h⟩)
 (some ⟨.nm, e, h⟩)) fun e h =>
 sq (sq (bd (fa 1 (e.s k60 1)) fun t17 =>
 bd (ld h t17) fun t18 =>
 bd (binK 0 .gtr t18 (.int .i64 31)) fun t19 =>
 some ⟨.nm, ⟨[(e.s k60 0), (e.s k60 1), (e.s k60 2), (e.s k60 3)], 19, t19⟩, h⟩) fun e h =>
 br (e.s k60 19) (bd (binK 0 .add (e.s k60 3) (.int .i64 1)) fun t21 =>
 some ⟨.nm, ⟨[(e.s k60 0), (e.s k60 1), (e.s k60 2), t21], 3, t21⟩, h⟩)
 (some ⟨.nm, e, h⟩)) fun e h =>
 sq (some ⟨.nm, ⟨[(e.s k60 0), (e.s k60 1), (e.s k60 3), (e.s k60 3)], 2, (e.s k60 3)⟩, h⟩) fun e h =>
 some ⟨.rt, e, h⟩
noncomputable def f60 (K : Oracle) (L : Looper) (p0 : V) (h : H) : Option (Rv × H) := fin Try.prog k60 [.tmp 2] (s60 K L ⟨[p0, V.und, V.und, V.und], 0, p0⟩ h)
theorem r60 : (fun K L p0 h => runFF Try.prog kp K L 60 [p0] h) = f60 := by kernel_rfl
theorem c60 (p0 : V) (h : H) : callZ Try.prog kp 60 [p0] h = f60 (callZ Try.prog kp) loopZ p0 h :=
  (callZ_eqF _ _ _ _ _).trans (congrFun (congrFun (congrFun (congrFun (r60) _) _) p0) h)

/-- slices.Clone[[]uint16,uint16] -/
@[simp] def k61 : List Nat := [0, 2]
noncomputable def s61 (K : Oracle) (L : Looper) (e : E) (h : H) : Out :=
 sq (some ⟨.nm, ⟨[(e.s k61 0), .nils], 2, .nils⟩, h⟩) fun e h =>
 sq (sq (bd (binK 3 .eql (e.s k61 0) .nils) fun t4 =>
 some ⟨.nm, ⟨[(e.s k61 0), (e.s k61 2)], 4, t4⟩, h⟩) fun e h =>
 br (e.s k61 4) (sq (some ⟨.nm, ⟨[(e.s k61 0), .nils], 2, .nils⟩, h⟩) fun e h =>
 some ⟨.rt, e, h⟩)
 (some ⟨.nm, e, h⟩)) fun e h =>
 sq (bf (bs h 38 0 [] []) fun t5 h1 =>
 bf (apZ 38 1 2 h1 t5 (e.s k61 0)) fun t7 h2 =>
 some ⟨.nm, ⟨[(e.s k61 0), t7], 2, t7⟩, h2⟩) fun e h =>
 some ⟨.rt, e, h⟩
noncomputable def f61 (K : Oracle) (L : Looper) (p0 : V) (h : H) : Option (Rv × H) := fin Try.prog k61 [.tmp 2] (s61 K L ⟨[p0, V.und], 0, p0⟩ h)
theorem r61 : (fun K L p0 h => runFF Try.prog kp K L 61 [p0] h) = f61 := by kernel_rfl
theorem c61 (p0 : V) (h : H) : callZ Try.prog kp 61 [p0] h = f61 (callZ Try.prog kp) loopZ p0 h :=
  (callZ_eqF _ _ _ _ _).trans (congrFun (congrFun (congrFun (congrFun (r61) _) _) p0) h)

/-- zoetrope/zoetroperef03.Check -/
@[simp] def k62 : List Nat := [0, 1, 2, 3, 4]
noncomputable def l62_0 (K : Oracle) (L : Looper) (e : E) (h : H) : Out :=
 sq (sq (bd (binK 0 .lss (e.s k62 4) (e.s k62 3)) fun t35 =>
 some ⟨.nm, ⟨[(e.s k62 0), (e.s k62 1), (e.s k62 2), (e.s k62 3), (e.s k62 4)], 35, t35⟩, h⟩) fun e h =>
 br (e.s k62 35) (some ⟨.nm, e, h⟩)
 (some ⟨.ex 0, e, h⟩)) fun e h =>
 sq (blk 1 (sq (bd (fa 0 (e.s k62 1)) fun t38 =>
 bd (ld h t38) fun t39 =>
 bd (iaS 1 t39 (e.s k62 4)) fun t41 =>
 bd (ld h t41) fun t42 =>
 bd (fa 0 (e.s k62 1)) fun t43 =>
 bd (ld h t43) fun t44 =>
 bd (binK 0 .sub (e.s k62 4) (.int .i64 1)) fun t46 =>
 bd (iaS 1 t44 t46) fun t47 =>
 bd (ld h t47) fun t48 =>
 bd (binK 0 .lss t42 t48) fun t49 =>
 ck (ld h t38) t39 (ck (ld h t41) t42 (ck (ld h t43) t44 (ck (ld h t47) t48 (some ⟨.nm, ⟨[(e.s k62 0), (e.s k62 1), (e.s k62 2), (e.s k62 3), (e.s k62 4)], 49, t49⟩, h⟩))))) fun e h =>
 br (e.s k62 49) (sq (some ⟨.nm, ⟨[(e.s k62 0), (e.s k62 1), (.int .i64 2), (e.s k62 3), (e.s k62 4)], 2, (.int .i64 2)⟩, h⟩) fun e h =>
 some ⟨.rt, e, h⟩)
 (some ⟨.nm, e, h⟩))) fun e h =>
 bd (binK 0 .add (e.s k62 4) (.int .i64 1)) fun t37 =>
 some ⟨.nm, ⟨[(e.s k62 0), (e.s k62 1), (e.s k62 2), (e.s k62 3), t37], 4, t37⟩, h⟩
noncomputable def s62 (K : Oracle) (L : Looper) (e : E) (h : H) : Out :=
 sq (bf (bx h 72 (e.s k62 0)) fun t1 h1 =>
 some ⟨.nm, ⟨[(e.s k62 0), t1, (.int .i64 0), (e.s k62 3), (e.s k62 4)], 2, (.int .i64 0)⟩, h1⟩) fun e h =>
 sq (bd (fa 0 (e.s k62 1)) fun t5 =>
 bd (ld h t5) fun t6 =>
 bd (lnS t6) fun t7 =>
 some ⟨.nm, ⟨[(e.s k62 0), (e.s k62 1), (e.s k62 2), t7, (e.s k62 4)], 3, t7⟩, h⟩) fun e h =>
 sq (sq (bd (binK 0 .lss (e.s k62 3) (.int .i64 2)) fun t9 =>
 bd (gl t9 false (some (e.s k62 3))) fun t11 =>
 bd (gl t9 false (binK 0 .gtr t11 (.int .i64 16))) fun t12 =>
 bd (pk t9 (.bool true) t12) fun t13 =>
 bd (gl t13 false (fa 1 (e.s k62 1))) fun t15 =>
 bd (gl t13 false (ld h t15)) fun t16 =>
 bd (gl t13 false (binK 0 .lss t16 (.int .i64 0))) fun t17 =>
 bd (pk t13 (.bool true) t17) fun t18 =>
 bd (gl t18 false (fa 1 (e.s k62 1))) fun t20 =>
 bd (gl t18 false (ld h t20)) fun t21 =>
 bd (gl t18 false (binK 0 .gtr t21 (.int .i64 32))) fun t22 =>
 bd (pk t18 (.bool true) t22) fun t23 =>
 bd (gl t23 false (fa 0 (e.s k62 1))) fun t25 =>
 bd (gl t23 false (ld h t25)) fun t26 =>
 bd (gl t23 false (some (e.s k62 3))) fun t27 =>
 bd (gl t23 false (binK 0 .sub t27 (.int .i64 1))) fun t28 =>
 bd (gl t23 false (iaS 1 t26 t28)) fun t29 =>
 bd (gl t23 false (ld h t29)) fun t30 =>
 bd (gl t23 false (binK 0 .neq t30 (.int .u16 32768))) fun t31 =>
 bd (pk t23 (.bool true) t31) fun t32 =>
 some ⟨.nm, ⟨[(e.s k62 0), (e.s k62 1), (e.s k62 2), (e.s k62 3), (e.s k62 4)], 32, t32⟩, h⟩) fun e h =>
 br (e.s k62 32) (sq (some ⟨.nm, ⟨[(e.s k62 0), (e.s k62 1), (.int .i64 2), (e.s k62 3), (e.s k62 4)], 2, (.int .i64 2)⟩, h⟩) fun e h =>
 some ⟨.rt, e, h⟩)
 (some ⟨.nm, e, h⟩)) fun e h =>
 sq (sq (some ⟨.nm, ⟨[(e.s k62 0), (e.s k62 1), (e.s k62 2), (e.s k62 3), (.int .i64 1)], 4, (.int .i64 1)⟩, h⟩) fun e h =>
 blk 0 (L (l62_0 K L) e h)) fun e h =>
 sq (some ⟨.nm, ⟨[(e.s k62 0), (e.s k62 1), (.int .i64 0), (e.s k62 3), (e.s k62 4)], 2, (.int .i64 0)⟩, h⟩) fun e h =>
 some ⟨.rt, e, h⟩
noncomputable def f62 (K : Oracle) (L : Looper) (p0 : V) (h : H) : Option (Rv × H) := fin Try.prog k62 [.tmp 2] (s62 K L ⟨[p0, V.und, V.und, V.und, V.und], 0, p0⟩ h)
theorem r62 : (fun K L p0 h => runFF Try.prog kp K L 62 [p0] h) = f62 := by kernel_rfl
theorem c62 (p0 : V) (h : H) : callZ Try.prog kp 62 [p0] h = f62 (callZ Try.prog kp) loopZ p0 h :=
  (callZ_eqF _ _ _ _ _).trans (congrFun (congrFun (congrFun (congrFun (r62) _) _) p0) h)

/-- slices.Clone[[]zoetrope/api.Table,zoetrope/api.Table] -/
@[simp] def k63 : List Nat := [0, 2]
noncomputable def s63 (K : Oracle) (L : Looper) (e : E) (h : H) : Out :=
 sq (some ⟨.nm, ⟨[(e.s k63 0), .nils], 2, .nils⟩, h⟩) fun e h =>
 sq (sq (bd (binK 3 .eql (e.s k63 0) .nils) fun t4 =>
 some ⟨.nm, ⟨[(e.s k63 0), (e.s k63 2)], 4, t4⟩, h⟩) fun e h =>
 br (e.s k63 4) (sq (some ⟨.nm, ⟨[(e.s k63 0), .nils], 2, .nils⟩, h⟩) fun e h =>
 some ⟨.rt, e, h⟩)
 (some ⟨.nm, e, h⟩)) fun e h =>
 sq (bf (bs h 72 0 [] []) fun t5 h1 =>
 bf (apZ 72 2 32 h1 t5 (e.s k63 0)) fun t7 h2 =>
 some ⟨.nm, ⟨[(e.s k63 0), t7], 2, t7⟩, h2⟩) fun e h =>
 some ⟨.rt, e, h⟩
noncomputable def f63 (K : Oracle) (L : Looper) (p0 : V) (h : H) : Option (Rv × H) := fin Try.prog k63 [.tmp 2] (s63 K L ⟨[p0, V.und], 0, p0⟩ h)
theorem r63 : (fun K L p0 h => runFF Try.prog kp K L 63 [p0] h) = f63 := by kernel_rfl
theorem c63 (p0 : V) (h : H) : callZ Try.prog kp 63 [p0] h = f63 (callZ Try.prog kp) loopZ p0 h :=
  (callZ_eqF _ _ _ _ _).trans (congrFun (congrFun (congrFun (congrFun (r63) _) _) p0) h)

/-- slices.ContainsFunc[[]zoetrope/api.Set,zoetrope/api.Set] -/
@[simp] def k64 : List Nat := [0, 1, 4]
noncomputable def s64 (K : Oracle) (L : Looper) (e : E) (h : H) : Out :=
 sq (some ⟨.nm, ⟨[(e.s k64 0), (e.s k64 1), (.bool false)], 4, (.bool false)⟩, h⟩) fun e h =>
 sq (bc k64 [5, 6, 7, 8, 4] e (K 88 [(e.s k64 0), (e.s k64 1)] h) fun t7 h1 =>
 bd (binK 0 .geq t7 (.int .i64 0)) fun t8 =>
 some ⟨.nm, ⟨[(e.s k64 0), (e.s k64 1), t8], 4, t8⟩, h1⟩) fun e h =>
 some ⟨.rt, e, h⟩
noncomputable def f64 (K : Oracle) (L : Looper) (p0 p1 : V) (h : H) : Option (Rv × H) := fin Try.prog k64 [.tmp 4] (s64 K L ⟨[p0, p1, V.und], 0, p0⟩ h)
theorem r64 : (fun K L p0 p1 h => runFF Try.prog kp K L 64 [p0, p1] h) = f64 := by kernel_rfl
theorem c64 (p0 p1 : V) (h : H) : callZ Try.prog kp 64 [p0, p1] h = f64 (callZ Try.prog kp) loopZ p0 p1 h :=
  (callZ_eqF _ _ _ _ _).trans (congrFun (congrFun (congrFun (congrFun (congrFun (r64) _) _) p0) p1) h)

/-- zoetrope/syms.Average$1 -/
@[simp] def k65 : List Nat := [0, 1, 2]
noncomputable def s65 (K : Oracle) (L : Looper) (e : E) (h : H) : Out :=
 sq (bf (bx h 25 (e.s k65 0)) fun t1 h1 =>
 some ⟨.nm, ⟨[(e.s k65 0), t1, (.bool false)], 2, (.bool false)⟩, h1⟩) fun e h =>
 sq (bd (ldn 1 h (e.s k65 1)) fun t3 =>
 bc k65 [3, 4, 5, 2] e (K 34 [t3] h) fun t4 h1 =>
 bd (binK 0 .neq t4 (.int .i64 0)) fun t5 =>
 some ⟨.nm, ⟨[(e.s k65 0), (e.s k65 1), t5], 2, t5⟩, h1⟩) fun e h =>
 some ⟨.rt, e, h⟩
noncomputable def f65 (K : Oracle) (L : Looper) (p0 : V) (h : H) : Option (Rv × H) := fin Try.prog k65 [.tmp 2] (s65 K L ⟨[p0, V.und, V.und], 0, p0⟩ h)
theorem r65 : (fun K L p0 h => runFF Try.prog kp K L 65 [p0] h) = f65 := by kernel_rfl
theorem c65 (p0 : V) (h : H) : callZ Try.prog kp 65 [p0] h = f65 (callZ Try.prog kp) loopZ p0 h :=
  (callZ_eqF _ _ _ _ _).trans (congrFun (congrFun (congrFun (congrFun (r65) _) _) p0) h)

/-- zoetrope/cdf.Average -/
@[simp] def k66 : List Nat := [0, 2, 3, 4, 6, 7, 8, 9, 11, 21, 22, 23, 44, 45, 51, 52, 53]
noncomputable def l66_0 (K : Oracle) (L : Looper) (e : E) (h : H) : Out :=
 sq (bd (binK 0 .lss (e.s k66 23) (e.s k66 22)) fun t24 =>
 some ⟨.nm, ⟨[(e.s k66 0), (e.s k66 2), (e.s k66 3), (e.s k66 4), (e.s k66 6), (e.s k66 7), (e.s k66 8), (e.s k66 9), (e.s k66 11), (e.s k66 21), (e.s k66 22), (e.s k66 23), (e.s k66 44), (e.s k66 45), (e.s k66 51), (e.s k66 52), (e.s k66 53)], 24, t24⟩, h⟩) fun e h =>
 sq (br (e.s k66 24) (some ⟨.nm, e, h⟩)
 (some ⟨.ex 0, e, h⟩)) fun e h =>
 sq (blk 1 (sq (bd (iaS 2 (e.s k66 21) (e.s k66 23)) fun t25 =>
 bd (ldn 2 h t25) fun t26 =>
 bf (nw h 72 [.nils, (.int .i64 0)]) fun t6 h1 =>
 bf (stZ 2 h1 t6 t26) fun _ h2 =>
 some ⟨.nm, ⟨[(e.s k66 0), (e.s k66 2), (e.s k66 3), (e.s k66 4), t6, (e.s k66 7), (e.s k66 8), (e.s k66 9), (e.s k66 11), (e.s k66 21), (e.s k66 22), (e.s k66 23), (e.s k66 44), (e.s k66 45), (e.s k66 51), (e.s k66 52), (e.s k66 53)], 0, (e.s k66 0)⟩, h2⟩) fun e h =>
 sq (bd (ldn 2 h (e.s k66 6)) fun t27 =>
 bc k66 [27, 28, 29, 30, 31, 32, 33, 34, 35, 36] e (K 58 [t27] h) fun t28 h1 =>
 bd (binK 0 .neq t28 (.int .i64 0)) fun t29 =>
 bd (gl t29 false (fa 0 (e.s k66 6))) fun t31 =>
 bd (gl t29 false (ld h1 t31)) fun t32 =>
 bd (gl t29 false (lnS t32)) fun t33 =>
 bd (gl t29 false (some (e.s k66 4))) fun t34 =>
 bd (gl t29 false (binK 0 .neq t33 t34)) fun t35 =>
 bd (pk t29 (.bool true) t35) fun t36 =>
 some ⟨.nm, ⟨[(e.s k66 0), (e.s k66 2), (e.s k66 3), (e.s k66 4), (e.s k66 6), (e.s k66 7), (e.s k66 8), (e.s k66 9), (e.s k66 11), (e.s k66 21), (e.s k66 22), (e.s k66 23), (e.s k66 44), (e.s k66 45), (e.s k66 51), (e.s k66 52), (e.s k66 53)], 36, t36⟩, h1⟩) fun e h =>
 br (e.s k66 36) (sq (bd (bl [.nils, (.int .i64 0)] []) fun t37 =>
 bf (stZ 2 h (e.s k66 2) t37) fun _ h1 =>
 some ⟨.nm, ⟨[(e.s k66 0), (e.s k66 2), (.int .i64 2), (e.s k66 4), (e.s k66 6), (e.s k66 7), (e.s k66 8), (e.s k66 9), (e.s k66 11), (e.s k66 21), (e.s k66 22), (e.s k66 23), (e.s k66 44), (e.s k66 45), (e.s k66 51), (e.s k66 52), (e.s k66 53)], 3, (.int .i64 2)⟩, h1⟩) fun e h =>
 some ⟨.rt, e, h⟩)
 (some ⟨.nm, e, h⟩))) fun e h =>
 bd (binK 0 .add (e.s k66 23) (.int .i64 1)) fun t38 =>
 some ⟨.nm, ⟨[(e.s k66 0), (e.s k66 2), (e.s k66 3), (e.s k66 4), (e.s k66 6), (e.s k66 7), (e.s k66 8), (e.s k66 9), (e.s k66 11), (e.s k66 21), (e.s k66 22), t38, (e.s k66 44), (e.s k66 45), (e.s k66 51), (e.s k66 52), (e.s k66 53)], 23, t38⟩, h⟩
noncomputable def l66_1 (K : Oracle) (L : Looper) (e : E) (h : H) : Out :=
 sq (bd (binK 0 .lss (e.s k66 53) (e.s k66 52)) fun t54 =>
 some ⟨.nm, ⟨[(e.s k66 0), (e.s k66 2), (e.s k66 3), (e.s k66 4), (e.s k66 6), (e.s k66 7), (e.s k66 8), (e.s k66 9), (e.s k66 11), (e.s k66 21), (e.s k66 22), (e.s k66 23), (e.s k66 44), (e.s k66 45), (e.s k66 51), (e.s k66 52), (e.s k66 53)], 54, t54⟩, h⟩) fun e h =>
 sq (br (e.s k66 54) (some ⟨.nm, e, h⟩)
 (some ⟨.ex 4, e, h⟩)) fun e h =>
 sq (blk 5 (sq (bd (iaS 2 (e.s k66 51) (e.s k66 53)) fun t55 =>
 bd (ldn 2 h t55) fun t56 =>
 bf (nw h 72 [.nils, (.int .i64 0)]) fun t11 h1 =>
 bf (stZ 2 h1 t11 t56) fun _ h2 =>
 some ⟨.nm, ⟨[(e.s k66 0), (e.s k66 2), (e.s k66 3), (e.s k66 4), (e.s k66 6), (e.s k66 7), (e.s k66 8), (e.s k66 9), t11, (e.s k66 21), (e.s k66 22), (e.s k66 23), (e.s k66 44), (e.s k66 45), (e.s k66 51), (e.s k66 52), (e.s k66 53)], 0, (e.s k66 0)⟩, h2⟩) fun e h =>
 bd (fa 0 (e.s k66 11)) fun t58 =>
 bd (ld h t58) fun t59 =>
 bd (iaS 1 t59 (e.s k66 8)) fun t61 =>
 bd (ld h t61) fun t62 =>
 bd (cv .i64 t62) fun t63 =>
 bd (binK 0 .add (e.s k66 9) t63) fun t64 =>
 some ⟨.nm, ⟨[(e.s k66 0), (e.s k66 2), (e.s k66 3), (e.s k66 4), (e.s k66 6), (e.s k66 7), (e.s k66 8), t64, (e.s k66 11), (e.s k66 21), (e.s k66 22), (e.s k66 23), (e.s k66 44), (e.s k66 45), (e.s k66 51), (e.s k66 52), (e.s k66 53)], 9, t64⟩, h⟩)) fun e h =>
 bd (binK 0 .add (e.s k66 53) (.int .i64 1)) fun t65 =>
 some ⟨.nm, ⟨[(e.s k66 0), (e.s k66 2), (e.s k66 3), (e.s k66 4), (e.s k66 6), (e.s k66 7), (e.s k66 8), (e.s k66 9), (e.s k66 11), (e.s k66 21), (e.s k66 22), (e.s k66 23), (e.s k66 44), (e.s k66 45), (e.s k66 51), (e.s k66 52), t65], 53, t65⟩, h⟩
noncomputable def l66_2 (K : Oracle) (L : Looper) (e : E) (h : H) : Out :=
 sq (bd (binK 0 .lss (e.s k66 45) (e.s k66 44)) fun t46 =>
 some ⟨.nm, ⟨[(e.s k66 0), (e.s k66 2), (e.s k66 3), (e.s k66 4), (e.s k66 6), (e.s k66 7), (e.s k66 8), (e.s k66 9), (e.s k66 11), (e.s k66 21), (e.s k66 22), (e.s k66 23), (e.s k66 44), (e.s k66 45), (e.s k66 51), (e.s k66 52), (e.s k66 53)], 46, t46⟩, h⟩) fun e h =>
 sq (br (e.s k66 46) (some ⟨.nm, e, h⟩)
 (some ⟨.ex 2, e, h⟩)) fun e h =>
 sq (blk 3 (sq (some ⟨.nm, ⟨[(e.s k66 0), (e.s k66 2), (e.s k66 3), (e.s k66 4), (e.s k66 6), (e.s k66 7), (e.s k66 45), (e.s k66 9), (e.s k66 11), (e.s k66 21), (e.s k66 22), (e.s k66 23), (e.s k66 44), (e.s k66 45), (e.s k66 51), (e.s k66 52), (e.s k66 53)], 8, (e.s k66 45)⟩, h⟩) fun e h =>
 sq (bd (lnS (e.s k66 0)) fun t49 =>
 bd (binK 0 .quo t49 (.int .i64 2)) fun t50 =>
 some ⟨.nm, ⟨[(e.s k66 0), (e.s k66 2), (e.s k66 3), (e.s k66 4), (e.s k66 6), (e.s k66 7), (e.s k66 8), t50, (e.s k66 11), (e.s k66 21), (e.s k66 22), (e.s k66 23), (e.s k66 44), (e.s k66 45), (e.s k66 51), (e.s k66 52), (e.s k66 53)], 9, t50⟩, h⟩) fun e h =>
 sq (sq (bd (lnS (e.s k66 0)) fun t52 =>
 some ⟨.nm, ⟨[(e.s k66 0), (e.s k66 2), (e.s k66 3), (e.s k66 4), (e.s k66 6), (e.s k66 7), (e.s k66 8), (e.s k66 9), (e.s k66 11), (e.s k66 21), (e.s k66 22), (e.s k66 23), (e.s k66 44), (e.s k66 45), (e.s k66 0), t52, (.int .i64 0)], 53, (.int .i64 0)⟩, h⟩) fun e h =>
 blk 4 (L (l66_1 K L) e h)) fun e h =>
 bd (fa 0 (e.s k66 7)) fun t66 =>
 bd (ld h t66) fun t67 =>
 bd (lnS (e.s k66 0)) fun t71 =>
 bd (binK 0 .quo (e.s k66 9) t71) fun t72 =>
 bd (cv .u16 t72) fun t73 =>
 bd (iaS 1 t67 (e.s k66 8)) fun t74 =>
 bf (stZ 1 h t74 t73) fun _ h1 =>
 ck (ld h t66) t67 (some ⟨.nm, ⟨[(e.s k66 0), (e.s k66 2), (e.s k66 3), (e.s k66 4), (e.s k66 6), (e.s k66 7), (e.s k66 8), (e.s k66 9), (e.s k66 11), (e.s k66 21), (e.s k66 22), (e.s k66 23), (e.s k66 44), (e.s k66 45), (e.s k66 51), (e.s k66 52), (e.s k66 53)], 0, (e.s k66 0)⟩, h1⟩))) fun e h =>
 bd (binK 0 .add (e.s k66 45) (.int .i64 1)) fun t75 =>
 some ⟨.nm, ⟨[(e.s k66 0), (e.s k66 2), (e.s k66 3), (e.s k66 4), (e.s k66 6), (e.s k66 7), (e.s k66 8), (e.s k66 9), (e.s k66 11), (e.s k66 21), (e.s k66 22), (e.s k66 23), (e.s k66 44), t75, (e.s k66 51), (e.s k66 52), (e.s k66 53)], 45, t75⟩, h⟩
noncomputable def s66 (K : Oracle) (L : Looper) (e : E) (h : H) : Out :=
 sq (bf (nw h 72 [.nils, (.int .i64 0)]) fun t2 h1 =>
 some ⟨.nm, ⟨[(e.s k66 0), t2, (.int .i64 0), (e.s k66 4), (e.s k66 6), (e.s k66 7), (e.s k66 8), (e.s k66 9), (e.s k66 11), (e.s k66 21), (e.s k66 22), (e.s k66 23), (e.s k66 44), (e.s k66 45), (e.s k66 51), (e.s k66 52), (e.s k66 53)], 3, (.int .i64 0)⟩, h1⟩) fun e h =>
 sq (sq (bd (lnS (e.s k66 0)) fun t13 =>
 bd (binK 0 .eql t13 (.int .i64 0)) fun t14 =>
 some ⟨.nm, ⟨[(e.s k66 0), (e.s k66 2), (e.s k66 3), (e.s k66 4), (e.s k66 6), (e.s k66 7), (e.s k66 8), (e.s k66 9), (e.s k66 11), (e.s k66 21), (e.s k66 22), (e.s k66 23), (e.s k66 44), (e.s k66 45), (e.s k66 51), (e.s k66 52), (e.s k66 53)], 14, t14⟩, h⟩) fun e h =>
 br (e.s k66 14) (sq (bd (bl [.nils, (.int .i64 0)] []) fun t15 =>
 bf (stZ 2 h (e.s k66 2) t15) fun _ h1 =>
 some ⟨.nm, ⟨[(e.s k66 0), (e.s k66 2), (.int .i64 2), (e.s k66 4), (e.s k66 6), (e.s k66 7), (e.s k66 8), (e.s k66 9), (e.s k66 11), (e.s k66 21), (e.s k66 22), (e.s k66 23), (e.s k66 44), (e.s k66 45), (e.s k66 51), (e.s k66 52), (e.s k66 53)], 3, (.int .i64 2)⟩, h1⟩) fun e h =>
 some ⟨.rt, e, h⟩)
 (some ⟨.nm, e, h⟩)) fun e h =>
 sq (bd (iaS 2 (e.s k66 0) (.int .i64 0)) fun t17 =>
 bd (fa 0 t17) fun t18 =>
 bd (ld h t18) fun t19 =>
 bd (lnS t19) fun t20 =>
 some ⟨.nm, ⟨[(e.s k66 0), (e.s k66 2), (e.s k66 3), t20, (e.s k66 6), (e.s k66 7), (e.s k66 8), (e.s k66 9), (e.s k66 11), (e.s k66 21), (e.s k66 22), (e.s k66 23), (e.s k66 44), (e.s k66 45), (e.s k66 51), (e.s k66 52), (e.s k66 53)], 4, t20⟩, h⟩) fun e h =>
 sq (sq (bd (lnS (e.s k66 0)) fun t22 =>
 some ⟨.nm, ⟨[(e.s k66 0), (e.s k66 2), (e.s k66 3), (e.s k66 4), (e.s k66 6), (e.s k66 7), (e.s k66 8), (e.s k66 9), (e.s k66 11), (e.s k66 0), t22, (.int .i64 0), (e.s k66 44), (e.s k66 45), (e.s k66 51), (e.s k66 52), (e.s k66 53)], 23, (.int .i64 0)⟩, h⟩) fun e h =>
 blk 0 (L (l66_0 K L) e h)) fun e h =>
 sq (bf (ms h 38 2 [(.int .u16 0)] (e.s k66 4) (e.s k66 4)) fun t40 h1 =>
 bd (bl [.nils, (.int .i64 0)] [(some (0, 1), t40)]) fun t41 =>
 bf (nw h1 72 [.nils, (.int .i64 0)]) fun t7 h2 =>
 bf (stZ 2 h2 t7 t41) fun _ h3 =>
 some ⟨.nm, ⟨[(e.s k66 0), (e.s k66 2), (e.s k66 3), (e.s k66 4), (e.s k66 6), t7, (e.s k66 8), (e.s k66 9), (e.s k66 11), (e.s k66 21), (e.s k66 22), (e.s k66 23), (e.s k66 44), (e.s k66 45), (e.s k66 51), (e.s k66 52), (e.s k66 53)], 0, (e.s k66 0)⟩, h3⟩) fun e h =>
 sq (sq (bd (fa 0 (e.s k66 7)) fun t42 =>
 bd (ld h t42) fun t43 =>
 bd (lnS t43) fun t44 =>
 some ⟨.nm, ⟨[(e.s k66 0), (e.s k66 2), (e.s k66 3), (e.s k66 4), (e.s k66 6), (e.s k66 7), (e.s k66 8), (e.s k66 9), (e.s k66 11), (e.s k66 21), (e.s k66 22), (e.s k66 23), t44, (.int .i64 0), (e.s k66 51), (e.s k66 52), (e.s k66 53)], 45, (.int .i64 0)⟩, h⟩) fun e h =>
 blk 2 (L (l66_2 K L) e h)) fun e h =>
 sq (bd (ldn 2 h (e.s k66 7)) fun t76 =>
 bf (stZ 2 h (e.s k66 2) t76) fun _ h1 =>
 some ⟨.nm, ⟨[(e.s k66 0), (e.s k66 2), (.int .i64 0), (e.s k66 4), (e.s k66 6), (e.s k66 7), (e.s k66 8), (e.s k66 9), (e.s k66 11), (e.s k66 21), (e.s k66 22), (e.s k66 23), (e.s k66 44), (e.s k66 45), (e.s k66 51), (e.s k66 52), (e.s k66 53)], 3, (.int .i64 0)⟩, h1⟩) fun e h =>
 some ⟨.rt, e, h⟩
noncomputable def f66 (K : Oracle) (L : Looper) (p0 : V) (h : H) : Option (Rv × H) := fin Try.prog k66 [.cell 2 72, .tmp 3] (s66 K L ⟨[p0, V.und, V.und, V.und, V.und, V.und, V.und, V.und, V.und, V.und, V.und, V.und, V.und, V.und, V.und, V.und, V.und], 0, p0⟩ h)
theorem r66 : (fun K L p0 h => runFF Try.prog kp K L 66 [p0] h) = f66 := by kernel_rfl
theorem c66 (p0 : V) (h : H) : callZ Try.prog kp 66 [p0] h = f66 (callZ Try.prog kp) loopZ p0 h :=
  (callZ_eqF _ _ _ _ _).trans (congrFun (congrFun (congrFun (congrFun (r66) _) _) p0) h)

/-- zoetrope/zoetroperef03.Average -/
@[simp] def k67 : List Nat := [0, 2, 3, 4, 5, 6, 7, 8]
noncomputable def l67_0 (K : Oracle) (L : Looper) (e : E) (h : H) : Out :=
 sq (sq (bd (lnS (e.s k67 0)) fun t15 =>
 bd (binK 0 .lss (e.s k67 4) t15) fun t16 =>
 some ⟨.nm, ⟨[(e.s k67 0), (e.s k67 2), (e.s k67 3), (e.s k67 4), (e.s k67 5), (e.s k67 6), (e.s k67 7), (e.s k67 8)], 16, t16⟩, h⟩) fun e h =>
 br (e.s k67 16) (some ⟨.nm, e, h⟩)
 (some ⟨.ex 0, e, h⟩)) fun e h =>
 sq (blk 1 (sq (bd (iaS 2 (e.s k67 0) (e.s k67 4)) fun t21 =>
 bd (ldn 2 h t21) fun t22 =>
 bn (K 62 [t22] h) fun t23 h1 =>
 bd (binK 0 .neq t23 (.int .i64 0)) fun t24 =>
 bd (gl t24 false (some (e.s k67 0))) fun t26 =>
 bd (gl t24 false (some (e.s k67 4))) fun t27 =>
 bd (gl t24 false (iaS 2 t26 t27)) fun t28 =>
 bd (gl t24 false (fa 0 t28)) fun t29 =>
 bd (gl t24 false (ld h1 t29)) fun t30 =>
 bd (gl t24 false (lnS t30)) fun t31 =>
 bd (gl t24 false (some (e.s k67 0))) fun t32 =>
 bd (gl t24 false (iaS 2 t32 (.int .i64 0))) fun t33 =>
 bd (gl t24 false (fa 0 t33)) fun t34 =>
 bd (gl t24 false (ld h1 t34)) fun t35 =>
 bd (gl t24 false (lnS t35)) fun t36 =>
 bd (gl t24 false (binK 0 .neq t31 t36)) fun t37 =>
 bd (pk t24 (.bool true) t37) fun t38 =>
 ck (ldn 2 h t21) t22 (ck (gl t24 false (ld h1 t29)) t30 (ck (gl t24 false (ld h1 t34)) t35 (some ⟨.nm, ⟨[(e.s k67 0), (e.s k67 2), (e.s k67 3), (e.s k67 4), (e.s k67 5), (e.s k67 6), (e.s k67 7), (e.s k67 8)], 38, t38⟩, h1⟩)))) fun e h =>
 br (e.s k67 38) (sq (bd (bl [.nils, (.int .i64 0)] []) fun t39 =>
 bf (stZ 2 h (e.s k67 2) t39) fun _ h1 =>
 some ⟨.nm, ⟨[(e.s k67 0), (e.s k67 2), (.int .i64 2), (e.s k67 4), (e.s k67 5), (e.s k67 6), (e.s k67 7), (e.s k67 8)], 3, (.int .i64 2)⟩, h1⟩) fun e h =>
 some ⟨.rt, e, h⟩)
 (some ⟨.nm, e, h⟩))) fun e h =>
 bd (binK 0 .add (e.s k67 4) (.int .i64 1)) fun t18 =>
 some ⟨.nm, ⟨[(e.s k67 0), (e.s k67 2), (e.s k67 3), t18, (e.s k67 5), (e.s k67 6), (e.s k67 7), (e.s k67 8)], 4, t18⟩, h⟩
noncomputable def l67_1 (K : Oracle) (L : Looper) (e : E) (h : H) : Out :=
 sq (sq (bd (lnS (e.s k67 0)) fun t54 =>
 bd (binK 0 .lss (e.s k67 8) t54) fun t55 =>
 some ⟨.nm, ⟨[(e.s k67 0), (e.s k67 2), (e.s k67 3), (e.s k67 4), (e.s k67 5), (e.s k67 6), (e.s k67 7), (e.s k67 8)], 55, t55⟩, h⟩) fun e h =>
 br (e.s k67 55) (some ⟨.nm, e, h⟩)
 (some ⟨.ex 4, e, h⟩)) fun e h =>
 sq (blk 5 (bd (iaS 2 (e.s k67 0) (e.s k67 8)) fun t61 =>
 bd (fa 0 t61) fun t62 =>
 bd (ld h t62) fun t63 =>
 bd (iaS 1 t63 (e.s k67 6)) fun t65 =>
 bd (ld h t65) fun t66 =>
 bd (cv .i64 t66) fun t67 =>
 bd (binK 0 .add (e.s k67 7) t67) fun t68 =>
 some ⟨.nm, ⟨[(e.s k67 0), (e.s k67 2), (e.s k67 3), (e.s k67 4), (e.s k67 5), (e.s k67 6), t68, (e.s k67 8)], 7, t68⟩, h⟩)) fun e h =>
 bd (binK 0 .add (e.s k67 8) (.int .i64 1)) fun t57 =>
 some ⟨.nm, ⟨[(e.s k67 0), (e.s k67 2), (e.s k67 3), (e.s k67 4), (e.s k67 5), (e.s k67 6), (e.s k67 7), t57], 8, t57⟩, h⟩
noncomputable def l67_2 (K : Oracle) (L : Looper) (e : E) (h : H) : Out :=
 sq (sq (bd (iaS 2 (e.s k67 0) (.int .i64 0)) fun t42 =>
 bd (fa 0 t42) fun t43 =>
 bd (ld h t43) fun t44 =>
 bd (lnS t44) fun t45 =>
 bd (binK 0 .lss (e.s k67 6) t45) fun t46 =>
 some ⟨.nm, ⟨[(e.s k67 0), (e.s k67 2), (e.s k67 3), (e.s k67 4), (e.s k67 5), (e.s k67 6), (e.s k67 7), (e.s k67 8)], 46, t46⟩, h⟩) fun e h =>
 br (e.s k67 46) (some ⟨.nm, e, h⟩)
 (some ⟨.ex 2, e, h⟩)) fun e h =>
 sq (blk 3 (sq (bd (lnS (e.s k67 0)) fun t50 =>
 bd (binK 0 .quo t50 (.int .i64 2)) fun t51 =>
 some ⟨.nm, ⟨[(e.s k67 0), (e.s k67 2), (e.s k67 3), (e.s k67 4), (e.s k67 5), (e.s k67 6), t51, (e.s k67 8)], 7, t51⟩, h⟩) fun e h =>
 sq (sq (some ⟨.nm, ⟨[(e.s k67 0), (e.s k67 2), (e.s k67 3), (e.s k67 4), (e.s k67 5), (e.s k67 6), (e.s k67 7), (.int .i64 0)], 8, (.int .i64 0)⟩, h⟩) fun e h =>
 blk 4 (L (l67_1 K L) e h)) fun e h =>
 bd (fa 0 (e.s k67 5)) fun t69 =>
 bd (ld h t69) fun t70 =>
 bd (lnS (e.s k67 0)) fun t73 =>
 bd (binK 0 .quo (e.s k67 7) t73) fun t74 =>
 bd (cv .u16 t74) fun t75 =>
 bf (bs h 38 1 [(.int .u16 0)] [(some (0, 1), t75)]) fun t76 h1 =>
 bf (apZ 38 1 2 h1 t70 t76) fun t77 h2 =>
 bd (fa 0 (e.s k67 5)) fun t78 =>
 bf (stZ 1 h2 t78 t77) fun _ h3 =>
 ck (ld h t69) t70 (some ⟨.nm, ⟨[(e.s k67 0), (e.s k67 2), (e.s k67 3), (e.s k67 4), (e.s k67 5), (e.s k67 6), (e.s k67 7), (e.s k67 8)], 0, (e.s k67 0)⟩, h3⟩))) fun e h =>
 bd (binK 0 .add (e.s k67 6) (.int .i64 1)) fun t48 =>
 some ⟨.nm, ⟨[(e.s k67 0), (e.s k67 2), (e.s k67 3), (e.s k67 4), (e.s k67 5), t48, (e.s k67 7), (e.s k67 8)], 6, t48⟩, h⟩
noncomputable def s67 (K : Oracle) (L : Looper) (e : E) (h : H) : Out :=
 sq (bf (nw h 72 [.nils, (.int .i64 0)]) fun t2 h1 =>
 some ⟨.nm, ⟨[(e.s k67 0), t2, (.int .i64 0), (e.s k67 4), (e.s k67 5), (e.s k67 6), (e.s k67 7), (e.s k67 8)], 3, (.int .i64 0)⟩, h1⟩) fun e h =>
 sq (sq (bd (lnS (e.s k67 0)) fun t10 =>
 bd (binK 0 .eql t10 (.int .i64 0)) fun t11 =>
 some ⟨.nm, ⟨[(e.s k67 0), (e.s k67 2), (e.s k67 3), (e.s k67 4), (e.s k67 5), (e.s k67 6), (e.s k67 7), (e.s k67 8)], 11, t11⟩, h⟩) fun e h =>
 br (e.s k67 11) (sq (bd (bl [.nils, (.int .i64 0)] []) fun t12 =>
 bf (stZ 2 h (e.s k67 2) t12) fun _ h1 =>
 some ⟨.nm, ⟨[(e.s k67 0), (e.s k67 2), (.int .i64 2), (e.s k67 4), (e.s k67 5), (e.s k67 6), (e.s k67 7), (e.s k67 8)], 3, (.int .i64 2)⟩, h1⟩) fun e h =>
 some ⟨.rt, e, h⟩)
 (some ⟨.nm, e, h⟩)) fun e h =>
 sq (sq (some ⟨.nm, ⟨[(e.s k67 0), (e.s k67 2), (e.s k67 3), (.int .i64 0), (e.s k67 5), (e.s k67 6), (e.s k67 7), (e.s k67 8)], 4, (.int .i64 0)⟩, h⟩) fun e h =>
 blk 0 (L (l67_0 K L) e h)) fun e h =>
 sq (bf (nw h 72 [.nils, (.int .i64 0)]) fun t5 h1 =>
 some ⟨.nm, ⟨[(e.s k67 0), (e.s k67 2), (e.s k67 3), (e.s k67 4), t5, (e.s k67 6), (e.s k67 7), (e.s k67 8)], 5, t5⟩, h1⟩) fun e h =>
 sq (sq (some ⟨.nm, ⟨[(e.s k67 0), (e.s k67 2), (e.s k67 3), (e.s k67 4), (e.s k67 5), (.int .i64 0), (e.s k67 7), (e.s k67 8)], 6, (.int .i64 0)⟩, h⟩) fun e h =>
 blk 2 (L (l67_2 K L) e h)) fun e h =>
 sq (bd (ldn 2 h (e.s k67 5)) fun t79 =>
 bf (stZ 2 h (e.s k67 2) t79) fun _ h1 =>
 some ⟨.nm, ⟨[(e.s k67 0), (e.s k67 2), (.int .i64 0), (e.s k67 4), (e.s k67 5), (e.s k67 6), (e.s k67 7), (e.s k67 8)], 3, (.int .i64 0)⟩, h1⟩) fun e h =>
 some ⟨.rt, e, h⟩
noncomputable def f67 (K : Oracle) (L : Looper) (p0 : V) (h : H) : Option (Rv × H) := fin Try.prog k67 [.cell 2 72, .tmp 3] (s67 K L ⟨[p0, V.und, V.und, V.und, V.und, V.und, V.und, V.und], 0, p0⟩ h)
theorem r67 : (fun K L p0 h => runFF Try.prog kp K L 67 [p0] h) = f67 := by kernel_rfl
theorem c67 (p0 : V) (h : H) : callZ Try.prog kp 67 [p0] h = f67 (callZ Try.prog kp) loopZ p0 h :=
  (callZ_eqF _ _ _ _ _).trans (congrFun (congrFun (congrFun (congrFun (r67) _) _) p0) h)

/-- zoetrope/zoetroperef04.Shape -/
@[simp] def k68 : List Nat := [0, 2, 3, 4, 5]
noncomputable def s68 (K : Oracle) (L : Looper) (e : E) (h : H) : Out :=
 sq (some ⟨.nm, ⟨[(e.s k68 0), (.int .i64 0), (.int .i64 0), (.int .i64 0), (e.s k68 5)], 4, (.int .i64 0)⟩, h⟩) fun e h =>
 sq (sq (bd (binK 0 .lss (e.s k68 0) (.int .i64 0)) fun t7 =>
 bd (gl t7 false (some (e.s k68 0))) fun t9 =>
 bd (gl t7 false (binK 0 .geq t9 (.int .i64 32))) fun t10 =>
 bd (pk t7 (.bool true) t10) fun t11 =>
 some ⟨.nm, ⟨[(e.s k68 0), (e.s k68 2), (e.s k68 3), (e.s k68 4), (e.s k68 5)], 11, t11⟩, h⟩) fun e h =>
 br (e.s k68 11) (sq (some ⟨.nm, ⟨[(e.s k68 0), (.int .i64 0), (.int .i64 0), (.int .i64 41), (e.s k68 5)], 4, (.int .i64 41)⟩, h⟩) fun e h =>
 some ⟨.rt, e, h⟩)
 (some ⟨.nm, e, h⟩)) fun e h =>
 sq (bc k68 [12, 13, 14, 15, 5] e (K 48 [] h) fun t12 h1 =>
 bd (iaS 3 t12 (e.s k68 0)) fun t14 =>
 bd (ldn 3 h1 t14) fun t15 =>
 bf (nw h1 90 [(.int .i64 0), (.int .i64 0), (.int .i64 0)]) fun t5 h2 =>
 bf (stZ 3 h2 t5 t15) fun _ h3 =>
 some ⟨.nm, ⟨[(e.s k68 0), (e.s k68 2), (e.s k68 3), (e.s k68 4), t5], 0, (e.s k68 0)⟩, h3⟩) fun e h =>
 sq (bd (iaA 3 1 (e.s k68 5) (.int .i64 0)) fun t16 =>
 bd (ld h t16) fun t17 =>
 bd (iaA 3 1 (e.s k68 5) (.int .i64 1)) fun t18 =>
 bd (ld h t18) fun t19 =>
 ck (ld h t16) t17 (ck (ld h t18) t19 (some ⟨.nm, ⟨[(e.s k68 0), t17, t19, (.int .i64 0), (e.s k68 5)], 4, (.int .i64 0)⟩, h⟩))) fun e h =>
 some ⟨.rt, e, h⟩
noncomputable def f68 (K : Oracle) (L : Looper) (p0 : V) (h : H) : Option (Rv × H) := fin Try.prog k68 [.tmp 2, .tmp 3, .tmp 4] (s68 K L ⟨[p0, V.und, V.und, V.und, V.und], 0, p0⟩ h)
theorem r68 : (fun K L p0 h => runFF Try.prog kp K L 68 [p0] h) = f68 := by kernel_rfl
theorem c68 (p0 : V) (h : H) : callZ Try.prog kp 68 [p0] h = f68 (callZ Try.prog kp) loopZ p0 h :=
  (callZ_eqF _ _ _ _ _).trans (congrFun (congrFun (congrFun (congrFun (r68) _) _) p0) h)

/-- zoetrope/zoetroperef03.Bounds -/
@[simp] def k69 : List Nat := [0, 1, 2, 4, 5, 6]
noncomputable def s69 (K : Oracle) (L : Looper) (e : E) (h : H) : Out :=
 sq (bf (bx h 72 (e.s k69 0)) fun t2 h1 =>
 some ⟨.nm, ⟨[(e.s k69 0), (e.s k69 1), t2, (.int .u32 0), (.int .u32 0), (.int .i64 0)], 6, (.int .i64 0)⟩, h1⟩) fun e h =>
 sq (sq (bd (ldn 2 h (e.s k69 2)) fun t7 =>
 bc k69 [7, 8, 9, 10, 11, 12, 13, 14, 15, 16, 17, 18, 19, 20] e (K 62 [t7] h) fun t8 h1 =>
 bd (binK 0 .neq t8 (.int .i64 0)) fun t9 =>
 bd (gl t9 false (some (e.s k69 1))) fun t11 =>
 bd (gl t9 false (binK 0 .lss t11 (.int .i64 0))) fun t12 =>
 bd (pk t9 (.bool true) t12) fun t13 =>
 bd (gl t13 false (some (e.s k69 1))) fun t15 =>
 bd (gl t13 false (fa 0 (e.s k69 2))) fun t16 =>
 bd (gl t13 false (ld h1 t16)) fun t17 =>
 bd (gl t13 false (lnS t17)) fun t18 =>
 bd (gl t13 false (binK 0 .geq t15 t18)) fun t19 =>
 bd (pk t13 (.bool true) t19) fun t20 =>
 some ⟨.nm, ⟨[(e.s k69 0), (e.s k69 1), (e.s k69 2), (e.s k69 4), (e.s k69 5), (e.s k69 6)], 20, t20⟩, h1⟩) fun e h =>
 br (e.s k69 20) (sq (some ⟨.nm, ⟨[(e.s k69 0), (e.s k69 1), (e.s k69 2), (.int .u32 0), (.int .u32 0), (.int .i64 2)], 6, (.int .i64 2)⟩, h⟩) fun e h =>
 some ⟨.rt, e, h⟩)
 (some ⟨.nm, e, h⟩)) fun e h =>
 sq (bd (ldn 2 h (e.s k69 2)) fun t21 =>
 bd (binK 0 .sub (e.s k69 1) (.int .i64 1)) fun t23 =>
 bn (K 89 [t21, t23] h) fun t24 h1 =>
 bd (ldn 2 h1 (e.s k69 2)) fun t26 =>
 bn (K 89 [t26, (e.s k69 1)] h1) fun t28 h2 =>
 bd (cv .u32 t24) fun t25 =>
 bd (cv .u32 t28) fun t29 =>
 ck (ldn 2 h (e.s k69 2)) t21 (ck (ldn 2 h (e.s k69 2)) t26 (ck (ldn 2 h1 (e.s k69 2)) t26 (some ⟨.nm, ⟨[(e.s k69 0), (e.s k69 1), (e.s k69 2), t25, t29, (.int .i64 0)], 6, (.int .i64 0)⟩, h2⟩)))) fun e h =>
 some ⟨.rt, e, h⟩
noncomputable def f69 (K : Oracle) (L : Looper) (p0 p1 : V) (h : H) : Option (Rv × H) := fin Try.prog k69 [.tmp 4, .tmp 5, .tmp 6] (s69 K L ⟨[p0, p1, V.und, V.und, V.und, V.und], 0, p0⟩ h)
theorem r69 : (fun K L p0 p1 h => runFF Try.prog kp K L 69 [p0, p1] h) = f69 := by kernel_rfl
theorem c69 (p0 p1 : V) (h : H) : callZ Try.prog kp 69 [p0, p1] h = f69 (callZ Try.prog kp) loopZ p0 p1 h :=
  (callZ_eqF _ _ _ _ _).trans (congrFun (congrFun (congrFun (congrFun (congrFun (r69) _) _) p0) p1) h)

/-- (*zoetrope/zoetroperef02.Encoder).Put -/
@[simp] def k70 : List Nat := [0, 1, 2, 6, 7, 8]
noncomputable def l70_0 (K : Oracle) (L : Looper) (e : E) (h : H) : Out :=
 sq (sq (bd (nilC (e.s k70 0)) fun t40 =>
 bd (fa 2 t40) fun t41 =>
 bd (ld h t41) fun t42 =>
 bd (binK 0 .lss t42 (.int .u64 16777216)) fun t43 =>
 some ⟨.nm, ⟨[(e.s k70 0), (e.s k70 1), (e.s k70 2), (e.s k70 6), (e.s k70 7), (e.s k70 8)], 43, t43⟩, h⟩) fun e h =>
 br (e.s k70 43) (some ⟨.nm, e, h⟩)
 (some ⟨.ex 0, e, h⟩)) fun e h =>
 blk 1 (sq (bc k70 [44, 45] e (K 77 [(e.s k70 0)] h) fun t45 h1 =>
 some ⟨.nm, ⟨[(e.s k70 0), (e.s k70 1), (e.s k70 2), (e.s k70 6), (e.s k70 7), (e.s k70 8)], 45, t45⟩, h1⟩) fun e h =>
 bd (nilC (e.s k70 0)) fun t48 =>
 bd (fa 2 t48) fun t49 =>
 bd (ld h t49) fun t50 =>
 bd (binK 0 .mul t50 (.int .u64 256)) fun t51 =>
 bd (nilC (e.s k70 0)) fun t52 =>
 bd (fa 2 t52) fun t53 =>
 bf (stZ 1 h t53 t51) fun _ h1 =>
 some ⟨.nm, ⟨[(e.s k70 0), (e.s k70 1), (e.s k70 2), (e.s k70 6), (e.s k70 7), (e.s k70 8)], 0, (e.s k70 0)⟩, h1⟩)
noncomputable def s70 (K : Oracle) (L : Looper) (e : E) (h : H) : Out :=
 sq (some ⟨.nm, ⟨[(e.s k70 0), (e.s k70 1), (e.s k70 2), (.int .i64 0), (e.s k70 7), (e.s k70 8)], 6, (.int .i64 0)⟩, h⟩) fun e h =>
 sq (sq (bd (binK 0 .geq (e.s k70 1) (e.s k70 2)) fun t11 =>
 bd (gl t11 false (some (e.s k70 2))) fun t13 =>
 bd (gl t11 false (binK 0 .gtr t13 (.int .u32 32768))) fun t14 =>
 bd (pk t11 (.bool true) t14) fun t15 =>
 some ⟨.nm, ⟨[(e.s k70 0), (e.s k70 1), (e.s k70 2), (e.s k70 6), (e.s k70 7), (e.s k70 8)], 15, t15⟩, h⟩) fun e h =>
 br (e.s k70 15) (sq (some ⟨.nm, ⟨[(e.s k70 0), (e.s k70 1), (e.s k70 2), (.int .i64 2), (e.s k70 7), (e.s k70 8)], 6, (.int .i64 2)⟩, h⟩) fun e h =>
 some ⟨.rt, e, h⟩)
 (some ⟨.nm, e, h⟩)) fun e h =>
 sq (bd (nilC (e.s k70 0)) fun t18 =>
 bd (fa 2 t18) fun t19 =>
 bd (ld h t19) fun t20 =>
 bc k70 [17, 18, 19, 20, 21, 22, 23, 16, 24, 25, 7, 8] e (K 90 [t20, (e.s k70 1), (e.s k70 2)] h) fun t23 h1 =>
 bd (exV t23 0) fun t24 =>
 bd (exV t23 1) fun t25 =>
 some ⟨.nm, ⟨[(e.s k70 0), (e.s k70 1), (e.s k70 2), (e.s k70 6), t24, t25], 8, t25⟩, h1⟩) fun e h =>
 sq (bd (nilC (e.s k70 0)) fun t28 =>
 bd (fa 1 t28) fun t29 =>
 bd (ld h t29) fun t30 =>
 bd (binK 0 .add t30 (e.s k70 7)) fun t32 =>
 bd (nilC (e.s k70 0)) fun t33 =>
 bd (fa 1 t33) fun t34 =>
 bf (stZ 1 h t34 t32) fun _ h1 =>
 some ⟨.nm, ⟨[(e.s k70 0), (e.s k70 1), (e.s k70 2), (e.s k70 6), (e.s k70 7), (e.s k70 8)], 0, (e.s k70 0)⟩, h1⟩) fun e h =>
 sq (bd (nilC (e.s k70 0)) fun t37 =>
 bd (fa 2 t37) fun t38 =>
 bf (stZ 1 h t38 (e.s k70 8)) fun _ h1 =>
 some ⟨.nm, ⟨[(e.s k70 0), (e.s k70 1), (e.s k70 2), (e.s k70 6), (e.s k70 7), (e.s k70 8)], 0, (e.s k70 0)⟩, h1⟩) fun e h =>
 sq (blk 0 (L (l70_0 K L) e h)) fun e h =>
 sq (some ⟨.nm, ⟨[(e.s k70 0), (e.s k70 1), (e.s k70 2), (.int .i64 0), (e.s k70 7), (e.s k70 8)], 6, (.int .i64 0)⟩, h⟩) fun e h =>
 some ⟨.rt, e, h⟩
noncomputable def f70 (K : Oracle) (L : Looper) (p0 p1 p2 : V) (h : H) : Option (Rv × H) := fin Try.prog k70 [.tmp 6] (s70 K L ⟨[p0, p1, p2, V.und, V.und, V.und], 0, p0⟩ h)
theorem r70 : (fun K L p0 p1 p2 h => runFF Try.prog kp K L 70 [p0, p1, p2] h) = f70 := by kernel_rfl
theorem c70 (p0 p1 p2 : V) (h : H) : callZ Try.prog kp 70 [p0, p1, p2] h = f70 (callZ Try.prog kp) loopZ p0 p1 p2 h :=
  (callZ_eqF _ _ _ _ _).trans (congrFun (congrFun (congrFun (congrFun (congrFun (congrFun (r70) _) _) p0) p1) p2) h)

/-- (*zoetrope/zoetroperef02.Decoder).Value -/
@[simp] def k71 : List Nat := [0, 2, 3]
noncomputable def s71 (K : Oracle) (L : Looper) (e : E) (h : H) : Out :=
 sq (some ⟨.nm, ⟨[(e.s k71 0), (.int .u32 0), (.int .i64 0)], 3, (.int .i64 0)⟩, h⟩) fun e h =>
 sq (bd (nilC (e.s k71 0)) fun t5 =>
 bd (fa 2 t5) fun t6 =>
 bd (ld h t6) fun t7 =>
 bd (nilC (e.s k71 0)) fun t9 =>
 bd (fa 3 t9) fun t10 =>
 bd (ld h t10) fun t11 =>
 bd (binK 0 .quo t11 (.int .u64 32768)) fun t12 =>
 bd (binK 0 .quo t7 t12) fun t13 =>
 bd (minV [t13, (.int .u64 32767)]) fun t14 =>
 bd (cv .u32 t14) fun t15 =>
 ck (ld h t6) t7 (ck (ld h t10) t11 (some ⟨.nm, ⟨[(e.s k71 0), t15, (.int .i64 0)], 3, (.int .i64 0)⟩, h⟩))) fun e h =>
 some ⟨.rt, e, h⟩
noncomputable def f71 (K : Oracle) (L : Looper) (p0 : V) (h : H) : Option (Rv × H) := fin Try.prog k71 [.tmp 2, .tmp 3] (s71 K L ⟨[p0, V.und, V.und], 0, p0⟩ h)
theorem r71 : (fun K L p0 h => runFF Try.prog kp K L 71 [p0] h) = f71 := by kernel_rfl
theorem c71 (p0 : V) (h : H) : callZ Try.prog kp 71 [p0] h = f71 (callZ Try.prog kp) loopZ p0 h :=
  (callZ_eqF _ _ _ _ _).trans (congrFun (congrFun (congrFun (congrFun (r71) _) _) p0) h)

/-- zoetrope/zoetroperef03.Find -/
@[simp] def k72 : List Nat := [0, 1, 2, 4, 5, 6]
noncomputable def l72_0 (K : Oracle) (L : Looper) (e : E) (h : H) : Out :=
 sq (sq (bd (ldn 2 h (e.s k72 2)) fun t14 =>
 bc k72 [14, 15, 16, 17, 18, 19] e (K 89 [t14, (e.s k72 6)] h) fun t16 h1 =>
 bd (cv .i64 (e.s k72 1)) fun t18 =>
 bd (binK 0 .leq t16 t18) fun t19 =>
 some ⟨.nm, ⟨[(e.s k72 0), (e.s k72 1), (e.s k72 2), (e.s k72 4), (e.s k72 5), (e.s k72 6)], 19, t19⟩, h1⟩) fun e h =>
 br (e.s k72 19) (some ⟨.nm, e, h⟩)
 (some ⟨.ex 0, e, h⟩)) fun e h =>
 blk 1 (bd (binK 0 .add (e.s k72 6) (.int .i64 1)) fun t21 =>
 some ⟨.nm, ⟨[(e.s k72 0), (e.s k72 1), (e.s k72 2), (e.s k72 4), (e.s k72 5), t21], 6, t21⟩, h⟩)
noncomputable def s72 (K : Oracle) (L : Looper) (e : E) (h : H) : Out :=
 sq (bf (bx h 72 (e.s k72 0)) fun t2 h1 =>
 some ⟨.nm, ⟨[(e.s k72 0), (e.s k72 1), t2, (.int .i64 0), (.int .i64 0), (e.s k72 6)], 5, (.int .i64 0)⟩, h1⟩) fun e h =>
 sq (sq (bd (ldn 2 h (e.s k72 2)) fun t7 =>
 bc k72 [7, 8, 9, 10, 11, 12, 13] e (K 62 [t7] h) fun t8 h1 =>
 bd (binK 0 .neq t8 (.int .i64 0)) fun t9 =>
 bd (gl t9 false (some (e.s k72 1))) fun t11 =>
 bd (gl t9 false (binK 0 .gtr t11 (.int .u32 32767))) fun t12 =>
 bd (pk t9 (.bool true) t12) fun t13 =>
 some ⟨.nm, ⟨[(e.s k72 0), (e.s k72 1), (e.s k72 2), (e.s k72 4), (e.s k72 5), (e.s k72 6)], 13, t13⟩, h1⟩) fun e h =>
 br (e.s k72 13) (sq (some ⟨.nm, ⟨[(e.s k72 0), (e.s k72 1), (e.s k72 2), (.int .i64 0), (.int .i64 2), (e.s k72 6)], 5, (.int .i64 2)⟩, h⟩) fun e h =>
 some ⟨.rt, e, h⟩)
 (some ⟨.nm, e, h⟩)) fun e h =>
 sq (some ⟨.nm, ⟨[(e.s k72 0), (e.s k72 1), (e.s k72 2), (e.s k72 4), (e.s k72 5), (.int .i64 0)], 6, (.int .i64 0)⟩, h⟩) fun e h =>
 sq (blk 0 (L (l72_0 K L) e h)) fun e h =>
 sq (some ⟨.nm, ⟨[(e.s k72 0), (e.s k72 1), (e.s k72 2), (e.s k72 6), (.int .i64 0), (e.s k72 6)], 5, (.int .i64 0)⟩, h⟩) fun e h =>
 some ⟨.rt, e, h⟩
noncomputable def f72 (K : Oracle) (L : Looper) (p0 p1 : V) (h : H) : Option (Rv × H) := fin Try.prog k72 [.tmp 4, .tmp 5] (s72 K L ⟨[p0, p1, V.und, V.und, V.und, V.und], 0, p0⟩ h)
theorem r72 : (fun K L p0 p1 h => runFF Try.prog kp K L 72 [p0, p1] h) = f72 := by kernel_rfl
theorem c72 (p0 p1 : V) (h : H) : callZ Try.prog kp 72 [p0, p1] h = f72 (callZ Try.prog kp) loopZ p0 p1 h :=
  (callZ_eqF _ _ _ _ _).trans (congrFun (congrFun (congrFun (congrFun (congrFun (r72) _) _) p0) p1) h)

/-- (*zoetrope/zoetroperef02.Decoder).Take -/
@[simp] def k73 : List Nat := [0, 1, 2, 6, 7, 9, 10]
noncomputable def l73_0 (K : Oracle) (L : Looper) (e : E) (h : H) : Out :=
 sq (sq (bd (nilC (e.s k73 0)) fun t52 =>
 bd (fa 3 t52) fun t53 =>
 bd (ld h t53) fun t54 =>
 bd (binK 0 .lss t54 (.int .u64 16777216)) fun t55 =>
 some ⟨.nm, ⟨[(e.s k73 0), (e.s k73 1), (e.s k73 2), (e.s k73 6), (e.s k73 7), (e.s k73 9), (e.s k73 10)], 55, t55⟩, h⟩) fun e h =>
 br (e.s k73 55) (some ⟨.nm, e, h⟩)
 (some ⟨.ex 0, e, h⟩)) fun e h =>
 blk 1 (sq (bn (K 79 [(e.s k73 0)] h) fun t63 h1 =>
 bd (nilC (e.s k73 0)) fun t58 =>
 bd (fa 2 t58) fun t59 =>
 bd (ld h1 t59) fun t60 =>
 bd (binK 0 .mul t60 (.int .u64 256)) fun t61 =>
 bd (binK 0 .add t61 t63) fun t64 =>
 bd (nilC (e.s k73 0)) fun t65 =>
 bd (fa 2 t65) fun t66 =>
 bf (stZ 1 h1 t66 t64) fun _ h2 =>
 ck (ld h t59) t60 (ck (ld h1 t59) t60 (some ⟨.nm, ⟨[(e.s k73 0), (e.s k73 1), (e.s k73 2), (e.s k73 6), (e.s k73 7), (e.s k73 9), (e.s k73 10)], 0, (e.s k73 0)⟩, h2⟩))) fun e h =>
 bd (nilC (e.s k73 0)) fun t69 =>
 bd (fa 3 t69) fun t70 =>
 bd (ld h t70) fun t71 =>
 bd (binK 0 .mul t71 (.int .u64 256)) fun t72 =>
 bd (nilC (e.s k73 0)) fun t73 =>
 bd (fa 3 t73) fun t74 =>
 bf (stZ 1 h t74 t72) fun _ h1 =>
 some ⟨.nm, ⟨[(e.s k73 0), (e.s k73 1), (e.s k73 2), (e.s k73 6), (e.s k73 7), (e.s k73 9), (e.s k73 10)], 0, (e.s k73 0)⟩, h1⟩)
noncomputable def s73 (K : Oracle) (L : Looper) (e : E) (h : H) : Out :=
 sq (some ⟨.nm, ⟨[(e.s k73 0), (e.s k73 1), (e.s k73 2), (.int .i64 0), (e.s k73 7), (e.s k73 9), (e.s k73 10)], 6, (.int .i64 0)⟩, h⟩) fun e h =>
 sq (bc k73 [12, 13, 11, 14, 15, 7, 8] e (K 71 [(e.s k73 0)] h) fun t13 h1 =>
 bd (exV t13 0) fun t14 =>
 bd (exV t13 1) fun t15 =>
 some ⟨.nm, ⟨[(e.s k73 0), (e.s k73 1), (e.s k73 2), (e.s k73 6), t14, (e.s k73 9), (e.s k73 10)], 8, t15⟩, h1⟩) fun e h =>
 sq (sq (bd (binK 0 .gtr (e.s k73 1) (e.s k73 7)) fun t18 =>
 bd (gl t18 false (some (e.s k73 7))) fun t20 =>
 bd (gl t18 false (some (e.s k73 2))) fun t21 =>
 bd (gl t18 false (binK 0 .geq t20 t21)) fun t22 =>
 bd (pk t18 (.bool true) t22) fun t23 =>
 bd (gl t23 false (some (e.s k73 2))) fun t25 =>
 bd (gl t23 false (binK 0 .gtr t25 (.int .u32 32768))) fun t26 =>
 bd (pk t23 (.bool true) t26) fun t27 =>
 some ⟨.nm, ⟨[(e.s k73 0), (e.s k73 1), (e.s k73 2), (e.s k73 6), (e.s k73 7), (e.s k73 9), (e.s k73 10)], 27, t27⟩, h⟩) fun e h =>
 br (e.s k73 27) (sq (some ⟨.nm, ⟨[(e.s k73 0), (e.s k73 1), (e.s k73 2), (.int .i64 2), (e.s k73 7), (e.s k73 9), (e.s k73 10)], 6, (.int .i64 2)⟩, h⟩) fun e h =>
 some ⟨.rt, e, h⟩)
 (some ⟨.nm, e, h⟩)) fun e h =>
 sq (bd (nilC (e.s k73 0)) fun t30 =>
 bd (fa 3 t30) fun t31 =>
 bd (ld h t31) fun t32 =>
 bc k73 [29, 30, 31, 32, 33, 34, 35, 28, 36, 37, 9, 10] e (K 90 [t32, (e.s k73 1), (e.s k73 2)] h) fun t35 h1 =>
 bd (exV t35 0) fun t36 =>
 bd (exV t35 1) fun t37 =>
 some ⟨.nm, ⟨[(e.s k73 0), (e.s k73 1), (e.s k73 2), (e.s k73 6), (e.s k73 7), t36, t37], 10, t37⟩, h1⟩) fun e h =>
 sq (bd (nilC (e.s k73 0)) fun t40 =>
 bd (fa 2 t40) fun t41 =>
 bd (ld h t41) fun t42 =>
 bd (binK 0 .sub t42 (e.s k73 9)) fun t44 =>
 bd (nilC (e.s k73 0)) fun t45 =>
 bd (fa 2 t45) fun t46 =>
 bf (stZ 1 h t46 t44) fun _ h1 =>
 some ⟨.nm, ⟨[(e.s k73 0), (e.s k73 1), (e.s k73 2), (e.s k73 6), (e.s k73 7), (e.s k73 9), (e.s k73 10)], 0, (e.s k73 0)⟩, h1⟩) fun e h =>
 sq (bd (nilC (e.s k73 0)) fun t49 =>
 bd (fa 3 t49) fun t50 =>
 bf (stZ 1 h t50 (e.s k73 10)) fun _ h1 =>
 some ⟨.nm, ⟨[(e.s k73 0), (e.s k73 1), (e.s k73 2), (e.s k73 6), (e.s k73 7), (e.s k73 9), (e.s k73 10)], 0, (e.s k73 0)⟩, h1⟩) fun e h =>
 sq (blk 0 (L (l73_0 K L) e h)) fun e h =>
 sq (some ⟨.nm, ⟨[(e.s k73 0), (e.s k73 1), (e.s k73 2), (.int .i64 0), (e.s k73 7), (e.s k73 9), (e.s k73 10)], 6, (.int .i64 0)⟩, h⟩) fun e h =>
 some ⟨.rt, e, h⟩
noncomputable def f73 (K : Oracle) (L : Looper) (p0 p1 p2 : V) (h : H) : Option (Rv × H) := fin Try.prog k73 [.tmp 6] (s73 K L ⟨[p0, p1, p2, V.und, V.und, V.und, V.und], 0, p0⟩ h)
theorem r73 : (fun K L p0 p1 p2 h => runFF Try.prog kp K L 73 [p0, p1, p2] h) = f73 := by kernel_rfl
theorem c73 (p0 p1 p2 : V) (h : H) : callZ Try.prog kp 73 [p0, p1, p2] h = f73 (callZ Try.prog kp) loopZ p0 p1 p2 h :=
  (callZ_eqF _ _ _ _ _).trans (congrFun (congrFun (congrFun (congrFun (congrFun (congrFun (r73) _) _) p0) p1) p2) h)

/-- zoetrope/zoetroperef03.Adapt -/
@[simp] def k74 : List Nat := [0, 1, 2, 4, 5, 6, 7, 8, 9, 10, 11, 12]
noncomputable def l74_0 (K : Oracle) (L : Looper) (e : E) (h : H) : Out :=
 sq (sq (bd (binK 0 .lss (e.s k74 9) (e.s k74 7)) fun t47 =>
 some ⟨.nm, ⟨[(e.s k74 0), (e.s k74 1), (e.s k74 2), (e.s k74 4), (e.s k74 5), (e.s k74 6), (e.s k74 7), (e.s k74 8), (e.s k74 9), (e.s k74 10), (e.s k74 11), (e.s k74 12)], 47, t47⟩, h⟩) fun e h =>
 br (e.s k74 47) (some ⟨.nm, e, h⟩)
 (some ⟨.ex 0, e, h⟩)) fun e h =>
 sq (blk 1 (bd (binK 0 .mul (e.s k74 8) (.int .i64 2)) fun t51 =>
 some ⟨.nm, ⟨[(e.s k74 0), (e.s k74 1), (e.s k74 2), (e.s k74 4), (e.s k74 5), (e.s k74 6), (e.s k74 7), t51, (e.s k74 9), (e.s k74 10), (e.s k74 11), (e.s k74 12)], 8, t51⟩, h⟩)) fun e h =>
 bd (binK 0 .add (e.s k74 9) (.int .i64 1)) fun t49 =>
 some ⟨.nm, ⟨[(e.s k74 0), (e.s k74 1), (e.s k74 2), (e.s k74 4), (e.s k74 5), (e.s k74 6), (e.s k74 7), (e.s k74 8), t49, (e.s k74 10), (e.s k74 11), (e.s k74 12)], 9, t49⟩, h⟩
noncomputable def l74_1 (K : Oracle) (L : Looper) (e : E) (h : H) : Out :=
 sq (sq (bd (binK 0 .lss (e.s k74 11) (e.s k74 6)) fun t59 =>
 some ⟨.nm, ⟨[(e.s k74 0), (e.s k74 1), (e.s k74 2), (e.s k74 4), (e.s k74 5), (e.s k74 6), (e.s k74 7), (e.s k74 8), (e.s k74 9), (e.s k74 10), (e.s k74 11), (e.s k74 12)], 59, t59⟩, h⟩) fun e h =>
 br (e.s k74 59) (some ⟨.nm, e, h⟩)
 (some ⟨.ex 2, e, h⟩)) fun e h =>
 sq (blk 3 (sq (bd (fa 0 (e.s k74 2)) fun t62 =>
 bd (ld h t62) fun t63 =>
 bd (iaS 1 t63 (e.s k74 11)) fun t65 =>
 bd (ld h t65) fun t66 =>
 bd (cv .i64 t66) fun t67 =>
 some ⟨.nm, ⟨[(e.s k74 0), (e.s k74 1), (e.s k74 2), (e.s k74 4), (e.s k74 5), (e.s k74 6), (e.s k74 7), (e.s k74 8), (e.s k74 9), (e.s k74 10), (e.s k74 11), t67], 12, t67⟩, h⟩) fun e h =>
 sq (sq (bd (binK 0 .sub (e.s k74 6) (.int .i64 1)) fun t70 =>
 bd (binK 0 .lss (e.s k74 11) t70) fun t71 =>
 bd (gl t71 true (some (e.s k74 11))) fun t73 =>
 bd (gl t71 true (some (e.s k74 1))) fun t74 =>
 bd (gl t71 true (binK 0 .geq t73 t74)) fun t75 =>
 bd (pk t71 t75 (.bool false)) fun t76 =>
 some ⟨.nm, ⟨[(e.s k74 0), (e.s k74 1), (e.s k74 2), (e.s k74 4), (e.s k74 5), (e.s k74 6), (e.s k74 7), (e.s k74 8), (e.s k74 9), (e.s k74 10), (e.s k74 11), (e.s k74 12)], 76, t76⟩, h⟩) fun e h =>
 br (e.s k74 76) (bd (binK 0 .sub (.int .i64 32768) (e.s k74 12)) fun t79 =>
 bd (binK 0 .quo t79 (e.s k74 8)) fun t81 =>
 bd (binK 0 .add (e.s k74 12) t81) fun t82 =>
 some ⟨.nm, ⟨[(e.s k74 0), (e.s k74 1), (e.s k74 2), (e.s k74 4), (e.s k74 5), (e.s k74 6), (e.s k74 7), (e.s k74 8), (e.s k74 9), (e.s k74 10), (e.s k74 11), t82], 12, t82⟩, h⟩)
 (sq (bd (binK 0 .sub (e.s k74 6) (.int .i64 1)) fun t85 =>
 bd (binK 0 .lss (e.s k74 11) t85) fun t86 =>
 some ⟨.nm, ⟨[(e.s k74 0), (e.s k74 1), (e.s k74 2), (e.s k74 4), (e.s k74 5), (e.s k74 6), (e.s k74 7), (e.s k74 8), (e.s k74 9), (e.s k74 10), (e.s k74 11), (e.s k74 12)], 86, t86⟩, h⟩) fun e h =>
 br (e.s k74 86) (bd (binK 0 .quo (e.s k74 12) (e.s k74 8)) fun t90 =>
 bd (binK 0 .sub (e.s k74 12) t90) fun t91 =>
 some ⟨.nm, ⟨[(e.s k74 0), (e.s k74 1), (e.s k74 2), (e.s k74 4), (e.s k74 5), (e.s k74 6), (e.s k74 7), (e.s k74 8), (e.s k74 9), (e.s k74 10), (e.s k74 11), t91], 12, t91⟩, h⟩)
 (some ⟨.nm, e, h⟩))) fun e h =>
 bd (fa 0 (e.s k74 10)) fun t92 =>
 bd (ld h t92) fun t93 =>
 bd (cv .u16 (e.s k74 12)) fun t95 =>
 bf (bs h 38 1 [(.int .u16 0)] [(some (0, 1), t95)]) fun t96 h1 =>
 bf (apZ 38 1 2 h1 t93 t96) fun t97 h2 =>
 bd (fa 0 (e.s k74 10)) fun t98 =>
 bf (stZ 1 h2 t98 t97) fun _ h3 =>
 some ⟨.nm, ⟨[(e.s k74 0), (e.s k74 1), (e.s k74 2), (e.s k74 4), (e.s k74 5), (e.s k74 6), (e.s k74 7), (e.s k74 8), (e.s k74 9), (e.s k74 10), (e.s k74 11), (e.s k74 12)], 0, (e.s k74 0)⟩, h3⟩)) fun e h =>
 bd (binK 0 .add (e.s k74 11) (.int .i64 1)) fun t61 =>
 some ⟨.nm, ⟨[(e.s k74 0), (e.s k74 1), (e.s k74 2), (e.s k74 4), (e.s k74 5), (e.s k74 6), (e.s k74 7), (e.s k74 8), (e.s k74 9), (e.s k74 10), t61, (e.s k74 12)], 11, t61⟩, h⟩
noncomputable def s74 (K : Oracle) (L : Looper) (e : E) (h : H) : Out :=
 sq (bf (bx h 72 (e.s k74 0)) fun t2 h1 =>
 bf (nw h1 72 [.nils, (.int .i64 0)]) fun t4 h2 =>
 some ⟨.nm, ⟨[(e.s k74 0), (e.s k74 1), t2, t4, (.int .i64 0), (e.s k74 6), (e.s k74 7), (e.s k74 8), (e.s k74 9), (e.s k74 10), (e.s k74 11), (e.s k74 12)], 5, (.int .i64 0)⟩, h2⟩) fun e h =>
 sq (sq (bd (ldn 2 h (e.s k74 2)) fun t13 =>
 bc k74 [13, 14, 15, 16, 17, 18, 19, 20, 21, 22, 23, 24, 25, 26] e (K 62 [t13] h) fun t14 h1 =>
 bd (binK 0 .neq t14 (.int .i64 0)) fun t15 =>
 bd (gl t15 false (some (e.s k74 1))) fun t17 =>
 bd (gl t15 false (binK 0 .lss t17 (.int .i64 0))) fun t18 =>
 bd (pk t15 (.bool true) t18) fun t19 =>
 bd (gl t19 false (some (e.s k74 1))) fun t21 =>
 bd (gl t19 false (fa 0 (e.s k74 2))) fun t22 =>
 bd (gl t19 false (ld h1 t22)) fun t23 =>
 bd (gl t19 false (lnS t23)) fun t24 =>
 bd (gl t19 false (binK 0 .geq t21 t24)) fun t25 =>
 bd (pk t19 (.bool true) t25) fun t26 =>
 some ⟨.nm, ⟨[(e.s k74 0), (e.s k74 1), (e.s k74 2), (e.s k74 4), (e.s k74 5), (e.s k74 6), (e.s k74 7), (e.s k74 8), (e.s k74 9), (e.s k74 10), (e.s k74 11), (e.s k74 12)], 26, t26⟩, h1⟩) fun e h =>
 br (e.s k74 26) (sq (bd (bl [.nils, (.int .i64 0)] []) fun t27 =>
 bf (stZ 2 h (e.s k74 4) t27) fun _ h1 =>
 some ⟨.nm, ⟨[(e.s k74 0), (e.s k74 1), (e.s k74 2), (e.s k74 4), (.int .i64 2), (e.s k74 6), (e.s k74 7), (e.s k74 8), (e.s k74 9), (e.s k74 10), (e.s k74 11), (e.s k74 12)], 5, (.int .i64 2)⟩, h1⟩) fun e h =>
 some ⟨.rt, e, h⟩)
 (some ⟨.nm, e, h⟩)) fun e h =>
 sq (bd (fa 0 (e.s k74 2)) fun t28 =>
 bd (ld h t28) fun t29 =>
 bd (lnS t29) fun t30 =>
 some ⟨.nm, ⟨[(e.s k74 0), (e.s k74 1), (e.s k74 2), (e.s k74 4), (e.s k74 5), t30, (e.s k74 7), (e.s k74 8), (e.s k74 9), (e.s k74 10), (e.s k74 11), (e.s k74 12)], 6, t30⟩, h⟩) fun e h =>
 sq (bc k74 [31, 32, 33, 34, 7] e (K 91 [(e.s k74 6)] h) fun t32 h1 =>
 bd (minV [t32, (.int .i64 2)]) fun t33 =>
 bd (binK 0 .add (.int .i64 3) t33) fun t34 =>
 some ⟨.nm, ⟨[(e.s k74 0), (e.s k74 1), (e.s k74 2), (e.s k74 4), (e.s k74 5), (e.s k74 6), t34, (e.s k74 8), (e.s k74 9), (e.s k74 10), (e.s k74 11), (e.s k74 12)], 7, t34⟩, h1⟩) fun e h =>
 sq (sq (bd (fa 1 (e.s k74 2)) fun t35 =>
 bd (ld h t35) fun t36 =>
 bd (binK 0 .gtr t36 (.int .i64 15)) fun t37 =>
 some ⟨.nm, ⟨[(e.s k74 0), (e.s k74 1), (e.s k74 2), (e.s k74 4), (e.s k74 5), (e.s k74 6), (e.s k74 7), (e.s k74 8), (e.s k74 9), (e.s k74 10), (e.s k74 11), (e.s k74 12)], 37, t37⟩, h⟩) fun e h =>
 br (e.s k74 37) (bd (binK 0 .add (e.s k74 7) (.int .i64 1)) fun t39 =>
 some ⟨.nm, ⟨[(e.s k74 0), (e.s k74 1), (e.s k74 2), (e.s k74 4), (e.s k74 5), (e.s k74 6), t39, (e.s k74 8), (e.s k74 9), (e.s k74 10), (e.s k74 11), (e.s k74 12)], 7, t39⟩, h⟩)
 (some ⟨.nm, e, h⟩)) fun e h =>
 sq (sq (bd (fa 1 (e.s k74 2)) fun t40 =>
 bd (ld h t40) fun t41 =>
 bd (binK 0 .gtr t41 (.int .i64 31)) fun t42 =>
 some ⟨.nm, ⟨[(e.s k74 0), (e.s k74 1), (e.s k74 2), (e.s k74 4), (e.s k74 5), (e.s k74 6), (e.s k74 7), (e.s k74 8), (e.s k74 9), (e.s k74 10), (e.s k74 11), (e.s k74 12)], 42, t42⟩, h⟩) fun e h =>
 br (e.s k74 42) (bd (binK 0 .add (e.s k74 7) (.int .i64 1)) fun t44 =>
 some ⟨.nm, ⟨[(e.s k74 0), (e.s k74 1), (e.s k74 2), (e.s k74 4), (e.s k74 5), (e.s k74 6), t44, (e.s k74 8), (e.s k74 9), (e.s k74 10), (e.s k74 11), (e.s k74 12)], 7, t44⟩, h⟩)
 (some ⟨.nm, e, h⟩)) fun e h =>
 sq (some ⟨.nm, ⟨[(e.s k74 0), (e.s k74 1), (e.s k74 2), (e.s k74 4), (e.s k74 5), (e.s k74 6), (e.s k74 7), (.int .i64 1), (e.s k74 9), (e.s k74 10), (e.s k74 11), (e.s k74 12)], 8, (.int .i64 1)⟩, h⟩) fun e h =>
 sq (sq (some ⟨.nm, ⟨[(e.s k74 0), (e.s k74 1), (e.s k74 2), (e.s k74 4), (e.s k74 5), (e.s k74 6), (e.s k74 7), (e.s k74 8), (.int .i64 0), (e.s k74 10), (e.s k74 11), (e.s k74 12)], 9, (.int .i64 0)⟩, h⟩) fun e h =>
 blk 0 (L (l74_0 K L) e h)) fun e h =>
 sq (bd (fa 1 (e.s k74 2)) fun t52 =>
 bd (ld h t52) fun t53 =>
 bd (binK 0 .add t53 (.int .i64 1)) fun t54 =>
 bd (minV [t54, (.int .i64 32)]) fun t55 =>
 bd (bl [.nils, (.int .i64 0)] [(some (1, 1), t55)]) fun t56 =>
 bf (nw h 72 [.nils, (.int .i64 0)]) fun t10 h1 =>
 bf (stZ 2 h1 t10 t56) fun _ h2 =>
 some ⟨.nm, ⟨[(e.s k74 0), (e.s k74 1), (e.s k74 2), (e.s k74 4), (e.s k74 5), (e.s k74 6), (e.s k74 7), (e.s k74 8), (e.s k74 9), t10, (e.s k74 11), (e.s k74 12)], 0, (e.s k74 0)⟩, h2⟩) fun e h =>
 sq (sq (some ⟨.nm, ⟨[(e.s k74 0), (e.s k74 1), (e.s k74 2), (e.s k74 4), (e.s k74 5), (e.s k74 6), (e.s k74 7), (e.s k74 8), (e.s k74 9), (e.s k74 10), (.int .i64 0), (e.s k74 12)], 11, (.int .i64 0)⟩, h⟩) fun e h =>
 blk 2 (L (l74_1 K L) e h)) fun e h =>
 sq (bd (ldn 2 h (e.s k74 10)) fun t99 =>
 bf (stZ 2 h (e.s k74 4) t99) fun _ h1 =>
 some ⟨.nm, ⟨[(e.s k74 0), (e.s k74 1), (e.s k74 2), (e.s k74 4), (.int .i64 0), (e.s k74 6), (e.s k74 7), (e.s k74 8), (e.s k74 9), (e.s k74 10), (e.s k74 11), (e.s k74 12)], 5, (.int .i64 0)⟩, h1⟩) fun e h =>
 some ⟨.rt, e, h⟩
noncomputable def f74 (K : Oracle) (L : Looper) (p0 p1 : V) (h : H) : Option (Rv × H) := fin Try.prog k74 [.cell 4 72, .tmp 5] (s74 K L ⟨[p0, p1, V.und, V.und, V.und, V.und, V.und, V.und, V.und, V.und, V.und, V.und], 0, p0⟩ h)
theorem r74 : (fun K L p0 p1 h => runFF Try.prog kp K L 74 [p0, p1] h) = f74 := by kernel_rfl
theorem c74 (p0 p1 : V) (h : H) : callZ Try.prog kp 74 [p0, p1] h = f74 (callZ Try.prog kp) loopZ p0 p1 h :=
  (callZ_eqF _ _ _ _ _).trans (congrFun (congrFun (congrFun (congrFun (congrFun (r74) _) _) p0) p1) h)

/-- slices.Clone[[]byte,byte] -/
@[simp] def k75 : List Nat := [0, 2]
noncomputable def s75 (K : Oracle) (L : Looper) (e : E) (h : H) : Out :=
 sq (some ⟨.nm, ⟨[(e.s k75 0), .nils], 2, .nils⟩, h⟩) fun e h =>
 sq (sq (bd (binK 3 .eql (e.s k75 0) .nils) fun t4 =>
 some ⟨.nm, ⟨[(e.s k75 0), (e.s k75 2)], 4, t4⟩, h⟩) fun e h =>
 br (e.s k75 4) (sq (some ⟨.nm, ⟨[(e.s k75 0), .nils], 2, .nils⟩, h⟩) fun e h =>
 some ⟨.rt, e, h⟩)
 (some ⟨.nm, e, h⟩)) fun e h =>
 sq (bf (bs h 5 0 [] []) fun t5 h1 =>
 bf (apZ 5 1 1 h1 t5 (e.s k75 0)) fun t7 h2 =>
 some ⟨.nm, ⟨[(e.s k75 0), t7], 2, t7⟩, h2⟩) fun e h =>
 some ⟨.rt, e, h⟩
noncomputable def f75 (K : Oracle) (L : Looper) (p0 : V) (h : H) : Option (Rv × H) := fin Try.prog k75 [.tmp 2] (s75 K L ⟨[p0, V.und], 0, p0⟩ h)
theorem r75 : (fun K L p0 h => runFF Try.prog kp K L 75 [p0] h) = f75 := by kernel_rfl
theorem c75 (p0 : V) (h : H) : callZ Try.prog kp 75 [p0] h = f75 (callZ Try.prog kp) loopZ p0 h :=
  (callZ_eqF _ _ _ _ _).trans (congrFun (congrFun (congrFun (congrFun (r75) _) _) p0) h)

/-- (*zoetrope/rac.Encoder).shift -/
@[simp] def k76 : List Nat := [0]
noncomputable def s76 (K : Oracle) (L : Looper) (e : E) (h : H) : Out :=
 sq (sq (bd (nilC (e.s k76 0)) fun t3 =>
 bd (fa 1 t3) fun t4 =>
 bd (ld h t4) fun t5 =>
 bd (binK 0 .gtr t5 (.int .u64 4294967295)) fun t6 =>
 some ⟨.nm, ⟨[(e.s k76 0)], 6, t6⟩, h⟩) fun e h =>
 br (e.s k76 6) (bc k76 [7, 8] e (K 92 [(e.s k76 0)] h) fun t8 h1 =>
 some ⟨.nm, ⟨[(e.s k76 0)], 8, t8⟩, h1⟩)
 (some ⟨.nm, e, h⟩)) fun e h =>
 sq (bd (nilC (e.s k76 0)) fun t11 =>
 bd (fa 0 t11) fun t12 =>
 bd (ld h t12) fun t13 =>
 bd (nilC (e.s k76 0)) fun t15 =>
 bd (fa 1 t15) fun t16 =>
 bd (ld h t16) fun t17 =>
 bd (binK 0 .shr t17 (.int .u64 24)) fun t18 =>
 bd (cv .u8 t18) fun t19 =>
 bf (bs h 5 1 [(.int .u8 0)] [(some (0, 1), t19)]) fun t20 h1 =>
 bf (apZ 5 1 1 h1 t13 t20) fun t21 h2 =>
 bd (nilC (e.s k76 0)) fun t22 =>
 bd (fa 0 t22) fun t23 =>
 bf (stZ 1 h2 t23 t21) fun _ h3 =>
 ck (ld h t12) t13 (ck (ld h t16) t17 (some ⟨.nm, ⟨[(e.s k76 0)], 0, (e.s k76 0)⟩, h3⟩))) fun e h =>
 bd (nilC (e.s k76 0)) fun t26 =>
 bd (fa 1 t26) fun t27 =>
 bd (ld h t27) fun t28 =>
 bd (binK 0 .and t28 (.int .u64 16777215)) fun t29 =>
 bd (binK 0 .shl t29 (.int .u64 8)) fun t30 =>
 bd (nilC (e.s k76 0)) fun t31 =>
 bd (fa 1 t31) fun t32 =>
 bf (stZ 1 h t32 t30) fun _ h1 =>
 some ⟨.nm, ⟨[(e.s k76 0)], 0, (e.s k76 0)⟩, h1⟩
noncomputable def f76 (K : Oracle) (L : Looper) (p0 : V) (h : H) : Option (Rv × H) := fin Try.prog k76 [] (s76 K L ⟨[p0], 0, p0⟩ h)
theorem r76 : (fun K L p0 h => runFF Try.prog kp K L 76 [p0] h) = f76 := by kernel_rfl
theorem c76 (p0 : V) (h : H) : callZ Try.prog kp 76 [p0] h = f76 (callZ Try.prog kp) loopZ p0 h :=
  (callZ_eqF _ _ _ _ _).trans (congrFun (congrFun (congrFun (congrFun (r76) _) _) p0) h)

/-- (*zoetrope/zoetroperef02.Encoder).goes -/
@[simp] def k77 : List Nat := [0, 2]
noncomputable def l77_0 (K : Oracle) (L : Looper) (e : E) (h : H) : Out :=
 sq (sq (bd (binK 0 .geq (e.s k77 2) (.int .i64 0)) fun t15 =>
 bd (gl t15 true (some (e.s k77 0))) fun t17 =>
 bd (gl t15 true (nilC t17)) fun t18 =>
 bd (gl t15 true (fa 0 t18)) fun t19 =>
 bd (gl t15 true (ld h t19)) fun t20 =>
 bd (gl t15 true (some (e.s k77 2))) fun t21 =>
 bd (gl t15 true (iaS 1 t20 t21)) fun t22 =>
 bd (gl t15 true (ld h t22)) fun t23 =>
 bd (gl t15 true (binK 0 .eql t23 (.int .u8 255))) fun t24 =>
 bd (pk t15 t24 (.bool false)) fun t25 =>
 some ⟨.nm, ⟨[(e.s k77 0), (e.s k77 2)], 25, t25⟩, h⟩) fun e h =>
 br (e.s k77 25) (some ⟨.nm, e, h⟩)
 (some ⟨.ex 0, e, h⟩)) fun e h =>
 blk 1 (sq (bd (nilC (e.s k77 0)) fun t27 =>
 bd (fa 0 t27) fun t28 =>
 bd (ld h t28) fun t29 =>
 bd (iaS 1 t29 (e.s k77 2)) fun t31 =>
 bf (stZ 1 h t31 (.int .u8 0)) fun _ h1 =>
 some ⟨.nm, ⟨[(e.s k77 0), (e.s k77 2)], 0, (e.s k77 0)⟩, h1⟩) fun e h =>
 bd (binK 0 .sub (e.s k77 2) (.int .i64 1)) fun t33 =>
 some ⟨.nm, ⟨[(e.s k77 0), t33], 2, t33⟩, h⟩)
noncomputable def s77 (K : Oracle) (L : Looper) (e : E) (h : H) : Out :=
 sq (sq (bd (nilC (e.s k77 0)) fun t4 =>
 bd (fa 1 t4) fun t5 =>
 bd (ld h t5) fun t6 =>
 bd (binK 0 .geq t6 (.int .u64 4294967296)) fun t7 =>
 some ⟨.nm, ⟨[(e.s k77 0), (e.s k77 2)], 7, t7⟩, h⟩) fun e h =>
 br (e.s k77 7) (sq (bd (nilC (e.s k77 0)) fun t9 =>
 bd (fa 0 t9) fun t10 =>
 bd (ld h t10) fun t11 =>
 bd (lnS t11) fun t12 =>
 bd (binK 0 .sub t12 (.int .i64 1)) fun t13 =>
 some ⟨.nm, ⟨[(e.s k77 0), t13], 2, t13⟩, h⟩) fun e h =>
 sq (blk 0 (L (l77_0 K L) e h)) fun e h =>
 sq (sq (bd (binK 0 .geq (e.s k77 2) (.int .i64 0)) fun t35 =>
 some ⟨.nm, ⟨[(e.s k77 0), (e.s k77 2)], 35, t35⟩, h⟩) fun e h =>
 br (e.s k77 35) (bd (nilC (e.s k77 0)) fun t37 =>
 bd (fa 0 t37) fun t38 =>
 bd (ld h t38) fun t39 =>
 bd (iaS 1 t39 (e.s k77 2)) fun t41 =>
 bd (ld h t41) fun t42 =>
 bd (binK 0 .add t42 (.int .u8 1)) fun t43 =>
 bd (iaS 1 t39 (e.s k77 2)) fun t44 =>
 bf (stZ 1 h t44 t43) fun _ h1 =>
 some ⟨.nm, ⟨[(e.s k77 0), (e.s k77 2)], 0, (e.s k77 0)⟩, h1⟩)
 (some ⟨.nm, e, h⟩)) fun e h =>
 bd (nilC (e.s k77 0)) fun t47 =>
 bd (fa 1 t47) fun t48 =>
 bd (ld h t48) fun t49 =>
 bd (binK 0 .sub t49 (.int .u64 4294967296)) fun t50 =>
 bd (nilC (e.s k77 0)) fun t51 =>
 bd (fa 1 t51) fun t52 =>
 bf (stZ 1 h t52 t50) fun _ h1 =>
 some ⟨.nm, ⟨[(e.s k77 0), (e.s k77 2)], 0, (e.s k77 0)⟩, h1⟩)
 (some ⟨.nm, e, h⟩)) fun e h =>
 sq (bd (nilC (e.s k77 0)) fun t55 =>
 bd (fa 0 t55) fun t56 =>
 bd (ld h t56) fun t57 =>
 bd (nilC (e.s k77 0)) fun t59 =>
 bd (fa 1 t59) fun t60 =>
 bd (ld h t60) fun t61 =>
 bd (binK 0 .quo t61 (.int .u64 16777216)) fun t62 =>
 bd (cv .u8 t62) fun t63 =>
 bf (bs h 5 1 [(.int .u8 0)] [(some (0, 1), t63)]) fun t64 h1 =>
 bf (apZ 5 1 1 h1 t57 t64) fun t65 h2 =>
 bd (nilC (e.s k77 0)) fun t66 =>
 bd (fa 0 t66) fun t67 =>
 bf (stZ 1 h2 t67 t65) fun _ h3 =>
 ck (ld h t56) t57 (ck (ld h t60) t61 (some ⟨.nm, ⟨[(e.s k77 0), (e.s k77 2)], 0, (e.s k77 0)⟩, h3⟩))) fun e h =>
 bd (nilC (e.s k77 0)) fun t70 =>
 bd (fa 1 t70) fun t71 =>
 bd (ld h t71) fun t72 =>
 bd (binK 0 .rem t72 (.int .u64 16777216)) fun t73 =>
 bd (binK 0 .mul t73 (.int .u64 256)) fun t74 =>
 bd (nilC (e.s k77 0)) fun t75 =>
 bd (fa 1 t75) fun t76 =>
 bf (stZ 1 h t76 t74) fun _ h1 =>
 some ⟨.nm, ⟨[(e.s k77 0), (e.s k77 2)], 0, (e.s k77 0)⟩, h1⟩
noncomputable def f77 (K : Oracle) (L : Looper) (p0 : V) (h : H) : Option (Rv × H) := fin Try.prog k77 [] (s77 K L ⟨[p0, V.und], 0, p0⟩ h)
theorem r77 : (fun K L p0 h => runFF Try.prog kp K L 77 [p0] h) = f77 := by kernel_rfl
theorem c77 (p0 : V) (h : H) : callZ Try.prog kp 77 [p0] h = f77 (callZ Try.prog kp) loopZ p0 h :=
  (callZ_eqF _ _ _ _ _).trans (congrFun (congrFun (congrFun (congrFun (r77) _) _) p0) h)

/-- (*zoetrope/rac.Decoder).shift -/
@[simp] def k78 : List Nat := [0]
noncomputable def s78 (K : Oracle) (L : Looper) (e : E) (h : H) : Out :=
 sq (bd (nilC (e.s k78 0)) fun t3 =>
 bd (fa 1 t3) fun t4 =>
 bd (ld h t4) fun t5 =>
 bd (binK 0 .shl t5 (.int .u64 8)) fun t6 =>
 bd (nilC (e.s k78 0)) fun t7 =>
 bd (fa 1 t7) fun t8 =>
 bf (stZ 1 h t8 t6) fun _ h1 =>
 some ⟨.nm, ⟨[(e.s k78 0)], 0, (e.s k78 0)⟩, h1⟩) fun e h =>
 sq (bd (nilC (e.s k78 0)) fun t10 =>
 bd (fa 0 t10) fun t11 =>
 bd (ld h t11) fun t12 =>
 bd (lnS t12) fun t13 =>
 bd (binK 0 .gtr t13 (.int .i64 0)) fun t14 =>
 some ⟨.nm, ⟨[(e.s k78 0)], 14, t14⟩, h⟩) fun e h =>
 br (e.s k78 14) (sq (bd (nilC (e.s k78 0)) fun t16 =>
 bd (fa 1 t16) fun t17 =>
 bd (ld h t17) fun t18 =>
 bd (nilC (e.s k78 0)) fun t20 =>
 bd (fa 0 t20) fun t21 =>
 bd (ld h t21) fun t22 =>
 bd (iaS 1 t22 (.int .i64 0)) fun t23 =>
 bd (ld h t23) fun t24 =>
 bd (cv .u32 t24) fun t25 =>
 bd (binK 0 .or t18 t25) fun t26 =>
 bd (nilC (e.s k78 0)) fun t27 =>
 bd (fa 1 t27) fun t28 =>
 bf (stZ 1 h t28 t26) fun _ h1 =>
 ck (ld h t17) t18 (ck (ld h t21) t22 (ck (ld h t23) t24 (some ⟨.nm, ⟨[(e.s k78 0)], 0, (e.s k78 0)⟩, h1⟩)))) fun e h =>
 bd (nilC (e.s k78 0)) fun t31 =>
 bd (fa 0 t31) fun t32 =>
 bd (ld h t32) fun t33 =>
 bd (slS 1 t33 (some (.int .i64 1)) none none) fun t34 =>
 bd (nilC (e.s k78 0)) fun t35 =>
 bd (fa 0 t35) fun t36 =>
 bf (stZ 1 h t36 t34) fun _ h1 =>
 some ⟨.nm, ⟨[(e.s k78 0)], 0, (e.s k78 0)⟩, h1⟩)
 (some ⟨.nm, e, h⟩)
noncomputable def f78 (K : Oracle) (L : Looper) (p0 : V) (h : H) : Option (Rv × H) := fin Try.prog k78 [] (s78 K L ⟨[p0], 0, p0⟩ h)
theorem r78 : (fun K L p0 h => runFF Try.prog kp K L 78 [p0] h) = f78 := by kernel_rfl
theorem c78 (p0 : V) (h : H) : callZ Try.prog kp 78 [p0] h = f78 (callZ Try.prog kp) loopZ p0 h :=
  (callZ_eqF _ _ _ _ _).trans (congrFun (congrFun (congrFun (congrFun (r78) _) _) p0) h)

/-- (*zoetrope/zoetroperef02.Decoder).next -/
@[simp] def k79 : List Nat := [0, 2, 3]
noncomputable def s79 (K : Oracle) (L : Looper) (e : E) (h : H) : Out :=
 sq (some ⟨.nm, ⟨[(e.s k79 0), (.int .u64 0), (e.s k79 3)], 2, (.int .u64 0)⟩, h⟩) fun e h =>
 sq (bd (nilC (e.s k79 0)) fun t5 =>
 bd (fa 1 t5) fun t6 =>
 bd (ld h t6) fun t7 =>
 some ⟨.nm, ⟨[(e.s k79 0), (e.s k79 2), t7], 3, t7⟩, h⟩) fun e h =>
 sq (bd (nilC (e.s k79 0)) fun t9 =>
 bd (fa 1 t9) fun t10 =>
 bd (ld h t10) fun t11 =>
 bd (binK 0 .add t11 (.int .i64 1)) fun t12 =>
 bd (nilC (e.s k79 0)) fun t13 =>
 bd (fa 1 t13) fun t14 =>
 bf (stZ 1 h t14 t12) fun _ h1 =>
 some ⟨.nm, ⟨[(e.s k79 0), (e.s k79 2), (e.s k79 3)], 0, (e.s k79 0)⟩, h1⟩) fun e h =>
 sq (sq (bd (nilC (e.s k79 0)) fun t17 =>
 bd (fa 0 t17) fun t18 =>
 bd (ld h t18) fun t19 =>
 bd (lnS t19) fun t20 =>
 bd (binK 0 .lss (e.s k79 3) t20) fun t21 =>
 some ⟨.nm, ⟨[(e.s k79 0), (e.s k79 2), (e.s k79 3)], 21, t21⟩, h⟩) fun e h =>
 br (e.s k79 21) (sq (bd (nilC (e.s k79 0)) fun t23 =>
 bd (fa 0 t23) fun t24 =>
 bd (ld h t24) fun t25 =>
 bd (iaS 1 t25 (e.s k79 3)) fun t27 =>
 bd (ld h t27) fun t28 =>
 bd (cv .u64 t28) fun t29 =>
 some ⟨.nm, ⟨[(e.s k79 0), t29, (e.s k79 3)], 2, t29⟩, h⟩) fun e h =>
 some ⟨.rt, e, h⟩)
 (some ⟨.nm, e, h⟩)) fun e h =>
 sq (some ⟨.nm, ⟨[(e.s k79 0), (.int .u64 0), (e.s k79 3)], 2, (.int .u64 0)⟩, h⟩) fun e h =>
 some ⟨.rt, e, h⟩
noncomputable def f79 (K : Oracle) (L : Looper) (p0 : V) (h : H) : Option (Rv × H) := fin Try.prog k79 [.tmp 2] (s79 K L ⟨[p0, V.und, V.und], 0, p0⟩ h)
theorem r79 : (fun K L p0 h => runFF Try.prog kp K L 79 [p0] h) = f79 := by kernel_rfl
theorem c79 (p0 : V) (h : H) : callZ Try.prog kp 79 [p0] h = f79 (callZ Try.prog kp) loopZ p0 h :=
  (callZ_eqF _ _ _ _ _).trans (congrFun (congrFun (congrFun (congrFun (r79) _) _) p0) h)

/-- zoetrope/cdf.sizes -/
@[simp] def k80 : List Nat := [0, 2]
noncomputable def s80 (K : Oracle) (L : Looper) (e : E) (h : H) : Out :=
 sq (some ⟨.nm, ⟨[(e.s k80 0), (.bool false)], 2, (.bool false)⟩, h⟩) fun e h =>
 sq (bd (binK 0 .geq (e.s k80 0) (.int .i64 2)) fun t4 =>
 bd (gl t4 true (some (e.s k80 0))) fun t6 =>
 bd (gl t4 true (binK 0 .leq t6 (.int .i64 16))) fun t7 =>
 bd (pk t4 t7 (.bool false)) fun t8 =>
 some ⟨.nm, ⟨[(e.s k80 0), t8], 2, t8⟩, h⟩) fun e h =>
 some ⟨.rt, e, h⟩
noncomputable def f80 (K : Oracle) (L : Looper) (p0 : V) (h : H) : Option (Rv × H) := fin Try.prog k80 [.tmp 2] (s80 K L ⟨[p0, V.und], 0, p0⟩ h)
theorem r80 : (fun K L p0 h => runFF Try.prog kp K L 80 [p0] h) = f80 := by kernel_rfl
theorem c80 (p0 : V) (h : H) : callZ Try.prog kp 80 [p0] h = f80 (callZ Try.prog kp) loopZ p0 h :=
  (callZ_eqF _ _ _ _ _).trans (congrFun (congrFun (congrFun (congrFun (r80) _) _) p0) h)

/-- (*zoetrope/rac.Decoder).Value -/
@[simp] def k81 : List Nat := [0, 2, 3]
noncomputable def s81 (K : Oracle) (L : Looper) (e : E) (h : H) : Out :=
 sq (some ⟨.nm, ⟨[(e.s k81 0), (.int .u32 0), (.int .i64 0)], 3, (.int .i64 0)⟩, h⟩) fun e h =>
 sq (sq (bd (binK 2 .eql (e.s k81 0) .nilp) fun t5 =>
 bd (gl t5 false (some (e.s k81 0))) fun t7 =>
 bd (gl t5 false (nilC t7)) fun t8 =>
 bd (gl t5 false (fa 2 t8)) fun t9 =>
 bd (gl t5 false (ld h t9)) fun t10 =>
 bd (gl t5 false (binK 0 .eql t10 (.int .u32 0))) fun t11 =>
 bd (pk t5 (.bool true) t11) fun t12 =>
 some ⟨.nm, ⟨[(e.s k81 0), (e.s k81 2), (e.s k81 3)], 12, t12⟩, h⟩) fun e h =>
 br (e.s k81 12) (sq (some ⟨.nm, ⟨[(e.s k81 0), (.int .u32 0), (.int .i64 1)], 3, (.int .i64 1)⟩, h⟩) fun e h =>
 some ⟨.rt, e, h⟩)
 (some ⟨.nm, e, h⟩)) fun e h =>
 sq (bc k81 [13, 14, 2, 3] e (K 93 [(e.s k81 0)] h) fun t14 h1 =>
 some ⟨.nm, ⟨[(e.s k81 0), t14, (.int .i64 0)], 3, (.int .i64 0)⟩, h1⟩) fun e h =>
 some ⟨.rt, e, h⟩
noncomputable def f81 (K : Oracle) (L : Looper) (p0 : V) (h : H) : Option (Rv × H) := fin Try.prog k81 [.tmp 2, .tmp 3] (s81 K L ⟨[p0, V.und, V.und], 0, p0⟩ h)
theorem r81 : (fun K L p0 h => runFF Try.prog kp K L 81 [p0] h) = f81 := by kernel_rfl
theorem c81 (p0 : V) (h : H) : callZ Try.prog kp 81 [p0] h = f81 (callZ Try.prog kp) loopZ p0 h :=
  (callZ_eqF _ _ _ _ _).trans (congrFun (congrFun (congrFun (congrFun (r81) _) _) p0) h)

/-- (*zoetrope/rac.Encoder).Put -/
@[simp] def k82 : List Nat := [0, 1, 2, 6, 7, 8]
noncomputable def l82_0 (K : Oracle) (L : Looper) (e : E) (h : H) : Out :=
 sq (sq (bd (binK 0 .leq (e.s k82 8) (.int .u32 16777215)) fun t47 =>
 some ⟨.nm, ⟨[(e.s k82 0), (e.s k82 1), (e.s k82 2), (e.s k82 6), (e.s k82 7), (e.s k82 8)], 47, t47⟩, h⟩) fun e h =>
 br (e.s k82 47) (some ⟨.nm, e, h⟩)
 (some ⟨.ex 1, e, h⟩)) fun e h =>
 sq (blk 2 (bc k82 [50, 51] e (K 76 [(e.s k82 0)] h) fun t51 h1 =>
 some ⟨.nm, ⟨[(e.s k82 0), (e.s k82 1), (e.s k82 2), (e.s k82 6), (e.s k82 7), (e.s k82 8)], 51, t51⟩, h1⟩)) fun e h =>
 bd (binK 0 .shl (e.s k82 8) (.int .u64 8)) fun t49 =>
 some ⟨.nm, ⟨[(e.s k82 0), (e.s k82 1), (e.s k82 2), (e.s k82 6), (e.s k82 7), t49], 8, t49⟩, h⟩
noncomputable def s82 (K : Oracle) (L : Looper) (e : E) (h : H) : Out :=
 sq (some ⟨.nm, ⟨[(e.s k82 0), (e.s k82 1), (e.s k82 2), (.int .i64 0), (e.s k82 7), (e.s k82 8)], 6, (.int .i64 0)⟩, h⟩) fun e h =>
 sq (blk 0 (sq (bd (binK 2 .eql (e.s k82 0) .nilp) fun t11 =>
 bd (gl t11 false (some (e.s k82 0))) fun t13 =>
 bd (gl t11 false (nilC t13)) fun t14 =>
 bd (gl t11 false (fa 2 t14)) fun t15 =>
 bd (gl t11 false (ld h t15)) fun t16 =>
 bd (gl t11 false (binK 0 .eql t16 (.int .u32 0))) fun t17 =>
 bd (pk t11 (.bool true) t17) fun t18 =>
 some ⟨.nm, ⟨[(e.s k82 0), (e.s k82 1), (e.s k82 2), (e.s k82 6), (e.s k82 7), (e.s k82 8)], 9, t18⟩, h⟩) fun e h =>
 br (e.s k82 9) (sq (some ⟨.nm, ⟨[(e.s k82 0), (e.s k82 1), (e.s k82 2), (.int .i64 1), (e.s k82 7), (e.s k82 8)], 6, (.int .i64 1)⟩, h⟩) fun e h =>
 some ⟨.rt, e, h⟩)
 (sq (bd (binK 0 .geq (e.s k82 1) (e.s k82 2)) fun t22 =>
 bd (gl t22 false (some (e.s k82 2))) fun t24 =>
 bd (gl t22 false (binK 0 .gtr t24 (.int .u32 32768))) fun t25 =>
 bd (pk t22 (.bool true) t25) fun t26 =>
 some ⟨.nm, ⟨[(e.s k82 0), (e.s k82 1), (e.s k82 2), (e.s k82 6), (e.s k82 7), (e.s k82 8)], 19, t26⟩, h⟩) fun e h =>
 br (e.s k82 19) (sq (some ⟨.nm, ⟨[(e.s k82 0), (e.s k82 1), (e.s k82 2), (.int .i64 2), (e.s k82 7), (e.s k82 8)], 6, (.int .i64 2)⟩, h⟩) fun e h =>
 some ⟨.rt, e, h⟩)
 (some ⟨.nm, e, h⟩)))) fun e h =>
 sq (bd (nilC (e.s k82 0)) fun t29 =>
 bd (fa 2 t29) fun t30 =>
 bd (ld h t30) fun t31 =>
 bc k82 [28, 29, 30, 31, 32, 33, 34, 27, 35, 36, 7, 8] e (K 94 [t31, (e.s k82 1), (e.s k82 2)] h) fun t34 h1 =>
 bd (exV t34 0) fun t35 =>
 bd (exV t34 1) fun t36 =>
 some ⟨.nm, ⟨[(e.s k82 0), (e.s k82 1), (e.s k82 2), (e.s k82 6), t35, t36], 8, t36⟩, h1⟩) fun e h =>
 sq (bd (nilC (e.s k82 0)) fun t38 =>
 bd (fa 1 t38) fun t39 =>
 bd (ld h t39) fun t40 =>
 bd (cv .u64 (e.s k82 7)) fun t42 =>
 bd (binK 0 .add t40 t42) fun t43 =>
 bd (nilC (e.s k82 0)) fun t44 =>
 bd (fa 1 t44) fun t45 =>
 bf (stZ 1 h t45 t43) fun _ h1 =>
 some ⟨.nm, ⟨[(e.s k82 0), (e.s k82 1), (e.s k82 2), (e.s k82 6), (e.s k82 7), (e.s k82 8)], 0, (e.s k82 0)⟩, h1⟩) fun e h =>
 sq (blk 1 (L (l82_0 K L) e h)) fun e h =>
 sq (bd (nilC (e.s k82 0)) fun t54 =>
 bd (fa 2 t54) fun t55 =>
 bf (stZ 1 h t55 (e.s k82 8)) fun _ h1 =>
 some ⟨.nm, ⟨[(e.s k82 0), (e.s k82 1), (e.s k82 2), (e.s k82 6), (e.s k82 7), (e.s k82 8)], 0, (e.s k82 0)⟩, h1⟩) fun e h =>
 sq (some ⟨.nm, ⟨[(e.s k82 0), (e.s k82 1), (e.s k82 2), (.int .i64 0), (e.s k82 7), (e.s k82 8)], 6, (.int .i64 0)⟩, h⟩) fun e h =>
 some ⟨.rt, e, h⟩
noncomputable def f82 (K : Oracle) (L : Looper) (p0 p1 p2 : V) (h : H) : Option (Rv × H) := fin Try.prog k82 [.tmp 6] (s82 K L ⟨[p0, p1, p2, V.und, V.und, V.und], 0, p0⟩ h)
theorem r82 : (fun K L p0 p1 p2 h => runFF Try.prog kp K L 82 [p0, p1, p2] h) = f82 := by kernel_rfl
theorem c82 (p0 p1 p2 : V) (h : H) : callZ Try.prog kp 82 [p0, p1, p2] h = f82 (callZ Try.prog kp) loopZ p0 p1 p2 h :=
  (callZ_eqF _ _ _ _ _).trans (congrFun (congrFun (congrFun (congrFun (congrFun (congrFun (r82) _) _) p0) p1) p2) h)

/-- (*zoetrope/rac.Decoder).Take -/
@[simp] def k83 : List Nat := [0, 1, 2, 6, 7, 8, 9]
noncomputable def l83_0 (K : Oracle) (L : Looper) (e : E) (h : H) : Out :=
 sq (sq (bd (binK 0 .leq (e.s k83 9) (.int .u32 16777215)) fun t52 =>
 some ⟨.nm, ⟨[(e.s k83 0), (e.s k83 1), (e.s k83 2), (e.s k83 6), (e.s k83 7), (e.s k83 8), (e.s k83 9)], 52, t52⟩, h⟩) fun e h =>
 br (e.s k83 52) (some ⟨.nm, e, h⟩)
 (some ⟨.ex 0, e, h⟩)) fun e h =>
 sq (blk 1 (bc k83 [55, 56] e (K 78 [(e.s k83 0)] h) fun t56 h1 =>
 some ⟨.nm, ⟨[(e.s k83 0), (e.s k83 1), (e.s k83 2), (e.s k83 6), (e.s k83 7), (e.s k83 8), (e.s k83 9)], 56, t56⟩, h1⟩)) fun e h =>
 bd (binK 0 .shl (e.s k83 9) (.int .u64 8)) fun t54 =>
 some ⟨.nm, ⟨[(e.s k83 0), (e.s k83 1), (e.s k83 2), (e.s k83 6), (e.s k83 7), (e.s k83 8), t54], 9, t54⟩, h⟩
noncomputable def s83 (K : Oracle) (L : Looper) (e : E) (h : H) : Out :=
 sq (some ⟨.nm, ⟨[(e.s k83 0), (e.s k83 1), (e.s k83 2), (.int .i64 0), (e.s k83 7), (e.s k83 8), (e.s k83 9)], 6, (.int .i64 0)⟩, h⟩) fun e h =>
 sq (sq (bd (binK 2 .eql (e.s k83 0) .nilp) fun t11 =>
 bd (gl t11 false (some (e.s k83 0))) fun t13 =>
 bd (gl t11 false (nilC t13)) fun t14 =>
 bd (gl t11 false (fa 2 t14)) fun t15 =>
 bd (gl t11 false (ld h t15)) fun t16 =>
 bd (gl t11 false (binK 0 .eql t16 (.int .u32 0))) fun t17 =>
 bd (pk t11 (.bool true) t17) fun t18 =>
 some ⟨.nm, ⟨[(e.s k83 0), (e.s k83 1), (e.s k83 2), (e.s k83 6), (e.s k83 7), (e.s k83 8), (e.s k83 9)], 18, t18⟩, h⟩) fun e h =>
 br (e.s k83 18) (sq (some ⟨.nm, ⟨[(e.s k83 0), (e.s k83 1), (e.s k83 2), (.int .i64 1), (e.s k83 7), (e.s k83 8), (e.s k83 9)], 6, (.int .i64 1)⟩, h⟩) fun e h =>
 some ⟨.rt, e, h⟩)
 (some ⟨.nm, e, h⟩)) fun e h =>
 sq (sq (bc k83 [19, 20, 7] e (K 93 [(e.s k83 0)] h) fun t20 h1 =>
 some ⟨.nm, ⟨[(e.s k83 0), (e.s k83 1), (e.s k83 2), (e.s k83 6), t20, (e.s k83 8), (e.s k83 9)], 7, t20⟩, h1⟩) fun e h =>
 sq (bd (binK 0 .gtr (e.s k83 1) (e.s k83 7)) fun t23 =>
 bd (gl t23 false (some (e.s k83 2))) fun t25 =>
 bd (gl t23 false (some (e.s k83 7))) fun t26 =>
 bd (gl t23 false (binK 0 .leq t25 t26)) fun t27 =>
 bd (pk t23 (.bool true) t27) fun t28 =>
 bd (gl t28 false (some (e.s k83 2))) fun t30 =>
 bd (gl t28 false (binK 0 .gtr t30 (.int .u32 32768))) fun t31 =>
 bd (pk t28 (.bool true) t31) fun t32 =>
 some ⟨.nm, ⟨[(e.s k83 0), (e.s k83 1), (e.s k83 2), (e.s k83 6), (e.s k83 7), (e.s k83 8), (e.s k83 9)], 32, t32⟩, h⟩) fun e h =>
 br (e.s k83 32) (sq (some ⟨.nm, ⟨[(e.s k83 0), (e.s k83 1), (e.s k83 2), (.int .i64 2), (e.s k83 7), (e.s k83 8), (e.s k83 9)], 6, (.int .i64 2)⟩, h⟩) fun e h =>
 some ⟨.rt, e, h⟩)
 (some ⟨.nm, e, h⟩)) fun e h =>
 sq (bd (nilC (e.s k83 0)) fun t35 =>
 bd (fa 2 t35) fun t36 =>
 bd (ld h t36) fun t37 =>
 bc k83 [34, 35, 36, 37, 38, 39, 40, 33, 41, 42, 8, 9] e (K 94 [t37, (e.s k83 1), (e.s k83 2)] h) fun t40 h1 =>
 bd (exV t40 0) fun t41 =>
 bd (exV t40 1) fun t42 =>
 some ⟨.nm, ⟨[(e.s k83 0), (e.s k83 1), (e.s k83 2), (e.s k83 6), (e.s k83 7), t41, t42], 9, t42⟩, h1⟩) fun e h =>
 sq (bd (nilC (e.s k83 0)) fun t44 =>
 bd (fa 1 t44) fun t45 =>
 bd (ld h t45) fun t46 =>
 bd (binK 0 .sub t46 (e.s k83 8)) fun t48 =>
 bd (nilC (e.s k83 0)) fun t49 =>
 bd (fa 1 t49) fun t50 =>
 bf (stZ 1 h t50 t48) fun _ h1 =>
 some ⟨.nm, ⟨[(e.s k83 0), (e.s k83 1), (e.s k83 2), (e.s k83 6), (e.s k83 7), (e.s k83 8), (e.s k83 9)], 0, (e.s k83 0)⟩, h1⟩) fun e h =>
 sq (blk 0 (L (l83_0 K L) e h)) fun e h =>
 sq (bd (nilC (e.s k83 0)) fun t59 =>
 bd (fa 2 t59) fun t60 =>
 bf (stZ 1 h t60 (e.s k83 9)) fun _ h1 =>
 some ⟨.nm, ⟨[(e.s k83 0), (e.s k83 1), (e.s k83 2), (e.s k83 6), (e.s k83 7), (e.s k83 8), (e.s k83 9)], 0, (e.s k83 0)⟩, h1⟩) fun e h =>
 sq (some ⟨.nm, ⟨[(e.s k83 0), (e.s k83 1), (e.s k83 2), (.int .i64 0), (e.s k83 7), (e.s k83 8), (e.s k83 9)], 6, (.int .i64 0)⟩, h⟩) fun e h =>
 some ⟨.rt, e, h⟩
noncomputable def f83 (K : Oracle) (L : Looper) (p0 p1 p2 : V) (h : H) : Option (Rv × H) := fin Try.prog k83 [.tmp 6] (s83 K L ⟨[p0, p1, p2, V.und, V.und, V.und, V.und], 0, p0⟩ h)
theorem r83 : (fun K L p0 p1 p2 h => runFF Try.prog kp K L 83 [p0, p1, p2] h) = f83 := by kernel_rfl
theorem c83 (p0 p1 p2 : V) (h : H) : callZ Try.prog kp 83 [p0, p1, p2] h = f83 (callZ Try.prog kp) loopZ p0 p1 p2 h :=
  (callZ_eqF _ _ _ _ _).trans (congrFun (congrFun (congrFun (congrFun (congrFun (congrFun (r83) _) _) p0) p1) p2) h)

/-- zoetrope/cdf.Find -/
@[simp] def k84 : List Nat := [0, 1, 2, 4, 5, 6]
noncomputable def l84_0 (K : Oracle) (L : Looper) (e : E) (h : H) : Out :=
 sq (sq (bd (ldn 2 h (e.s k84 2)) fun t14 =>
 bc k84 [14, 15, 16, 17, 18] e (K 95 [t14, (e.s k84 6)] h) fun t16 h1 =>
 bd (binK 0 .leq t16 (e.s k84 1)) fun t18 =>
 some ⟨.nm, ⟨[(e.s k84 0), (e.s k84 1), (e.s k84 2), (e.s k84 4), (e.s k84 5), (e.s k84 6)], 18, t18⟩, h1⟩) fun e h =>
 br (e.s k84 18) (some ⟨.nm, e, h⟩)
 (some ⟨.ex 0, e, h⟩)) fun e h =>
 blk 1 (bd (binK 0 .add (e.s k84 6) (.int .i64 1)) fun t20 =>
 some ⟨.nm, ⟨[(e.s k84 0), (e.s k84 1), (e.s k84 2), (e.s k84 4), (e.s k84 5), t20], 6, t20⟩, h⟩)
noncomputable def s84 (K : Oracle) (L : Looper) (e : E) (h : H) : Out :=
 sq (bf (bx h 72 (e.s k84 0)) fun t2 h1 =>
 some ⟨.nm, ⟨[(e.s k84 0), (e.s k84 1), t2, (.int .i64 0), (.int .i64 0), (e.s k84 6)], 5, (.int .i64 0)⟩, h1⟩) fun e h =>
 sq (sq (bd (ldn 2 h (e.s k84 2)) fun t7 =>
 bc k84 [7, 8, 9, 10, 11, 12, 13] e (K 58 [t7] h) fun t8 h1 =>
 bd (binK 0 .neq t8 (.int .i64 0)) fun t9 =>
 bd (gl t9 false (some (e.s k84 1))) fun t11 =>
 bd (gl t9 false (binK 0 .geq t11 (.int .u32 32768))) fun t12 =>
 bd (pk t9 (.bool true) t12) fun t13 =>
 some ⟨.nm, ⟨[(e.s k84 0), (e.s k84 1), (e.s k84 2), (e.s k84 4), (e.s k84 5), (e.s k84 6)], 13, t13⟩, h1⟩) fun e h =>
 br (e.s k84 13) (sq (some ⟨.nm, ⟨[(e.s k84 0), (e.s k84 1), (e.s k84 2), (.int .i64 0), (.int .i64 2), (e.s k84 6)], 5, (.int .i64 2)⟩, h⟩) fun e h =>
 some ⟨.rt, e, h⟩)
 (some ⟨.nm, e, h⟩)) fun e h =>
 sq (some ⟨.nm, ⟨[(e.s k84 0), (e.s k84 1), (e.s k84 2), (e.s k84 4), (e.s k84 5), (.int .i64 0)], 6, (.int .i64 0)⟩, h⟩) fun e h =>
 sq (blk 0 (L (l84_0 K L) e h)) fun e h =>
 sq (some ⟨.nm, ⟨[(e.s k84 0), (e.s k84 1), (e.s k84 2), (e.s k84 6), (.int .i64 0), (e.s k84 6)], 5, (.int .i64 0)⟩, h⟩) fun e h =>
 some ⟨.rt, e, h⟩
noncomputable def f84 (K : Oracle) (L : Looper) (p0 p1 : V) (h : H) : Option (Rv × H) := fin Try.prog k84 [.tmp 4, .tmp 5] (s84 K L ⟨[p0, p1, V.und, V.und, V.und, V.und], 0, p0⟩ h)
theorem r84 : (fun K L p0 p1 h => runFF Try.prog kp K L 84 [p0, p1] h) = f84 := by kernel_rfl
theorem c84 (p0 p1 : V) (h : H) : callZ Try.prog kp 84 [p0, p1] h = f84 (callZ Try.prog kp) loopZ p0 p1 h :=
  (callZ_eqF _ _ _ _ _).trans (congrFun (congrFun (congrFun (congrFun (congrFun (r84) _) _) p0) p1) h)

/-- zoetrope/cdf.Bounds -/
@[simp] def k85 : List Nat := [0, 1, 2, 4, 5, 6]
noncomputable def s85 (K : Oracle) (L : Looper) (e : E) (h : H) : Out :=
 sq (bf (bx h 72 (e.s k85 0)) fun t2 h1 =>
 some ⟨.nm, ⟨[(e.s k85 0), (e.s k85 1), t2, (.int .u32 0), (.int .u32 0), (.int .i64 0)], 6, (.int .i64 0)⟩, h1⟩) fun e h =>
 sq (sq (bd (ldn 2 h (e.s k85 2)) fun t7 =>
 bc k85 [7, 8, 9, 10] e (K 59 [t7, (e.s k85 1)] h) fun t9 h1 =>
 bd (unV .not t9) fun t10 =>
 some ⟨.nm, ⟨[(e.s k85 0), (e.s k85 1), (e.s k85 2), (e.s k85 4), (e.s k85 5), (e.s k85 6)], 10, t10⟩, h1⟩) fun e h =>
 br (e.s k85 10) (sq (some ⟨.nm, ⟨[(e.s k85 0), (e.s k85 1), (e.s k85 2), (.int .u32 0), (.int .u32 0), (.int .i64 2)], 6, (.int .i64 2)⟩, h⟩) fun e h =>
 some ⟨.rt, e, h⟩)
 (some ⟨.nm, e, h⟩)) fun e h =>
 sq (bd (ldn 2 h (e.s k85 2)) fun t11 =>
 bd (binK 0 .sub (e.s k85 1) (.int .i64 1)) fun t13 =>
 bn (K 95 [t11, t13] h) fun t14 h1 =>
 bd (ldn 2 h1 (e.s k85 2)) fun t15 =>
 bn (K 95 [t15, (e.s k85 1)] h1) fun t17 h2 =>
 ck (ldn 2 h (e.s k85 2)) t11 (ck (ldn 2 h (e.s k85 2)) t15 (ck (ldn 2 h1 (e.s k85 2)) t15 (some ⟨.nm, ⟨[(e.s k85 0), (e.s k85 1), (e.s k85 2), t14, t17, (.int .i64 0)], 6, (.int .i64 0)⟩, h2⟩)))) fun e h =>
 some ⟨.rt, e, h⟩
noncomputable def f85 (K : Oracle) (L : Looper) (p0 p1 : V) (h : H) : Option (Rv × H) := fin Try.prog k85 [.tmp 4, .tmp 5, .tmp 6] (s85 K L ⟨[p0, p1, V.und, V.und, V.und, V.und], 0, p0⟩ h)
theorem r85 : (fun K L p0 p1 h => runFF Try.prog kp K L 85 [p0, p1] h) = f85 := by kernel_rfl
theorem c85 (p0 p1 : V) (h : H) : callZ Try.prog kp 85 [p0, p1] h = f85 (callZ Try.prog kp) loopZ p0 p1 h :=
  (callZ_eqF _ _ _ _ _).trans (congrFun (congrFun (congrFun (congrFun (congrFun (r85) _) _) p0) p1) h)

/-- slices.IsSorted[[]uint16,uint16] -/
@[simp] def k86 : List Nat := [0, 2, 3]
noncomputable def l86_0 (K : Oracle) (L : Looper) (e : E) (h : H) : Out :=
 sq (sq (bd (binK 0 .gtr (e.s k86 3) (.int .i64 0)) fun t8 =>
 some ⟨.nm, ⟨[(e.s k86 0), (e.s k86 2), (e.s k86 3)], 8, t8⟩, h⟩) fun e h =>
 br (e.s k86 8) (some ⟨.nm, e, h⟩)
 (some ⟨.ex 0, e, h⟩)) fun e h =>
 sq (blk 1 (sq (bd (iaS 1 (e.s k86 0) (e.s k86 3)) fun t13 =>
 bd (ld h t13) fun t14 =>
 bd (binK 0 .sub (e.s k86 3) (.int .i64 1)) fun t17 =>
 bd (iaS 1 (e.s k86 0) t17) fun t18 =>
 bd (ld h t18) fun t19 =>
 bn (K 96 [t14, t19] h) fun t20 h1 =>
 ck (ld h t13) t14 (ck (ld h t18) t19 (some ⟨.nm, ⟨[(e.s k86 0), (e.s k86 2), (e.s k86 3)], 20, t20⟩, h1⟩))) fun e h =>
 br (e.s k86 20) (sq (some ⟨.nm, ⟨[(e.s k86 0), (.bool false), (e.s k86 3)], 2, (.bool false)⟩, h⟩) fun e h =>
 some ⟨.rt, e, h⟩)
 (some ⟨.nm, e, h⟩))) fun e h =>
 bd (binK 0 .sub (e.s k86 3) (.int .i64 1)) fun t10 =>
 some ⟨.nm, ⟨[(e.s k86 0), (e.s k86 2), t10], 3, t10⟩, h⟩
noncomputable def s86 (K : Oracle) (L : Looper) (e : E) (h : H) : Out :=
 sq (some ⟨.nm, ⟨[(e.s k86 0), (.bool false), (e.s k86 3)], 2, (.bool false)⟩, h⟩) fun e h =>
 sq (sq (bd (lnS (e.s k86 0)) fun t5 =>
 bd (binK 0 .sub t5 (.int .i64 1)) fun t6 =>
 some ⟨.nm, ⟨[(e.s k86 0), (e.s k86 2), t6], 3, t6⟩, h⟩) fun e h =>
 blk 0 (L (l86_0 K L) e h)) fun e h =>
 sq (some ⟨.nm, ⟨[(e.s k86 0), (.bool true), (e.s k86 3)], 2, (.bool true)⟩, h⟩) fun e h =>
 some ⟨.rt, e, h⟩
noncomputable def f86 (K : Oracle) (L : Looper) (p0 : V) (h : H) : Option (Rv × H) := fin Try.prog k86 [.tmp 2] (s86 K L ⟨[p0, V.und, V.und], 0, p0⟩ h)
theorem r86 : (fun K L p0 h => runFF Try.prog kp K L 86 [p0] h) = f86 := by kernel_rfl
theorem c86 (p0 : V) (h : H) : callZ Try.prog kp 86 [p0] h = f86 (callZ Try.prog kp) loopZ p0 h :=
  (callZ_eqF _ _ _ _ _).trans (congrFun (congrFun (congrFun (congrFun (r86) _) _) p0) h)

/-- math/bits.Len -/
@[simp] def k87 : List Nat := [0, 2]
noncomputable def s87 (K : Oracle) (L : Looper) (e : E) (h : H) : Out :=
 sq (some ⟨.nm, ⟨[(e.s k87 0), (.int .i64 0)], 2, (.int .i64 0)⟩, h⟩) fun e h =>
 sq (br (.bool false) (sq (bd (cv .u32 (e.s k87 0)) fun t4 =>
 bc k87 [3, 4, 5, 2] e (K 97 [t4] h) fun t5 h1 =>
 some ⟨.nm, ⟨[(e.s k87 0), t5], 2, t5⟩, h1⟩) fun e h =>
 some ⟨.rt, e, h⟩)
 (some ⟨.nm, e, h⟩)) fun e h =>
 sq (bc k87 [6, 7, 2] e (K 98 [(e.s k87 0)] h) fun t7 h1 =>
 some ⟨.nm, ⟨[(e.s k87 0), t7], 2, t7⟩, h1⟩) fun e h =>
 some ⟨.rt, e, h⟩
noncomputable def f87 (K : Oracle) (L : Looper) (p0 : V) (h : H) : Option (Rv × H) := fin Try.prog k87 [.tmp 2] (s87 K L ⟨[p0, V.und], 0, p0⟩ h)
theorem r87 : (fun K L p0 h => runFF Try.prog kp K L 87 [p0] h) = f87 := by kernel_rfl
theorem c87 (p0 : V) (h : H) : callZ Try.prog kp 87 [p0] h = f87 (callZ Try.prog kp) loopZ p0 h :=
  (callZ_eqF _ _ _ _ _).trans (congrFun (congrFun (congrFun (congrFun (r87) _) _) p0) h)

/-- slices.IndexFunc[[]zoetrope/api.Set,zoetrope/api.Set] -/
@[simp] def k88 : List Nat := [0, 1, 4, 5, 7, 8]
noncomputable def l88_0 (K : Oracle) (L : Looper) (e : E) (h : H) : Out :=
 sq (bd (binK 0 .lss (e.s k88 8) (e.s k88 7)) fun t9 =>
 some ⟨.nm, ⟨[(e.s k88 0), (e.s k88 1), (e.s k88 4), (e.s k88 5), (e.s k88 7), (e.s k88 8)], 9, t9⟩, h⟩) fun e h =>
 sq (br (e.s k88 9) (some ⟨.nm, e, h⟩)
 (some ⟨.ex 0, e, h⟩)) fun e h =>
 sq (blk 1 (sq (some ⟨.nm, ⟨[(e.s k88 0), (e.s k88 1), (e.s k88 4), (e.s k88 8), (e.s k88 7), (e.s k88 8)], 5, (e.s k88 8)⟩, h⟩) fun e h =>
 sq (bd (iaS 1 (e.s k88 0) (e.s k88 5)) fun t14 =>
 bd (ldn 1 h t14) fun t15 =>
 bc k88 [11, 12, 13, 14, 15, 16] e (cdy K (e.s k88 1) [t15] h) fun t16 h1 =>
 some ⟨.nm, ⟨[(e.s k88 0), (e.s k88 1), (e.s k88 4), (e.s k88 5), (e.s k88 7), (e.s k88 8)], 16, t16⟩, h1⟩) fun e h =>
 br (e.s k88 16) (sq (some ⟨.nm, ⟨[(e.s k88 0), (e.s k88 1), (e.s k88 5), (e.s k88 5), (e.s k88 7), (e.s k88 8)], 4, (e.s k88 5)⟩, h⟩) fun e h =>
 some ⟨.rt, e, h⟩)
 (some ⟨.nm, e, h⟩))) fun e h =>
 bd (binK 0 .add (e.s k88 8) (.int .i64 1)) fun t18 =>
 some ⟨.nm, ⟨[(e.s k88 0), (e.s k88 1), (e.s k88 4), (e.s k88 5), (e.s k88 7), t18], 8, t18⟩, h⟩
noncomputable def s88 (K : Oracle) (L : Looper) (e : E) (h : H) : Out :=
 sq (some ⟨.nm, ⟨[(e.s k88 0), (e.s k88 1), (.int .i64 0), (e.s k88 5), (e.s k88 7), (e.s k88 8)], 4, (.int .i64 0)⟩, h⟩) fun e h =>
 sq (sq (bd (lnS (e.s k88 0)) fun t7 =>
 some ⟨.nm, ⟨[(e.s k88 0), (e.s k88 1), (e.s k88 4), (e.s k88 5), t7, (.int .i64 0)], 8, (.int .i64 0)⟩, h⟩) fun e h =>
 blk 0 (L (l88_0 K L) e h)) fun e h =>
 sq (some ⟨.nm, ⟨[(e.s k88 0), (e.s k88 1), (.int .i64 (-1)), (e.s k88 5), (e.s k88 7), (e.s k88 8)], 4, (.int .i64 (-1))⟩, h⟩) fun e h =>
 some ⟨.rt, e, h⟩
noncomputable def f88 (K : Oracle) (L : Looper) (p0 p1 : V) (h : H) : Option (Rv × H) := fin Try.prog k88 [.tmp 4] (s88 K L ⟨[p0, p1, V.und, V.und, V.und, V.und], 0, p0⟩ h)
theorem r88 : (fun K L p0 p1 h => runFF Try.prog kp K L 88 [p0, p1] h) = f88 := by kernel_rfl
theorem c88 (p0 p1 : V) (h : H) : callZ Try.prog kp 88 [p0, p1] h = f88 (callZ Try.prog kp) loopZ p0 p1 h :=
  (callZ_eqF _ _ _ _ _).trans (congrFun (congrFun (congrFun (congrFun (congrFun (r88) _) _) p0) p1) h)

/-- zoetrope/zoetroperef03.end -/
@[simp] def k89 : List Nat := [0, 1, 2, 4]
noncomputable def s89 (K : Oracle) (L : Looper) (e : E) (h : H) : Out :=
 sq (bf (bx h 72 (e.s k89 0)) fun t2 h1 =>
 some ⟨.nm, ⟨[(e.s k89 0), (e.s k89 1), t2, (.int .i64 0)], 4, (.int .i64 0)⟩, h1⟩) fun e h =>
 sq (sq (bd (binK 0 .lss (e.s k89 1) (.int .i64 0)) fun t6 =>
 some ⟨.nm, ⟨[(e.s k89 0), (e.s k89 1), (e.s k89 2), (e.s k89 4)], 6, t6⟩, h⟩) fun e h =>
 br (e.s k89 6) (sq (some ⟨.nm, ⟨[(e.s k89 0), (e.s k89 1), (e.s k89 2), (.int .i64 0)], 4, (.int .i64 0)⟩, h⟩) fun e h =>
 some ⟨.rt, e, h⟩)
 (some ⟨.nm, e, h⟩)) fun e h =>
 sq (bd (fa 0 (e.s k89 2)) fun t7 =>
 bd (ld h t7) fun t8 =>
 bd (iaS 1 t8 (e.s k89 1)) fun t10 =>
 bd (ld h t10) fun t11 =>
 bd (cv .i64 t11) fun t12 =>
 bd (fa 0 (e.s k89 2)) fun t13 =>
 bd (ld h t13) fun t14 =>
 bd (lnS t14) fun t15 =>
 bd (binK 0 .mul (.int .i64 4) t15) fun t16 =>
 bd (binK 0 .sub (.int .i64 32768) t16) fun t17 =>
 bd (binK 0 .mul t12 t17) fun t18 =>
 bd (binK 0 .quo t18 (.int .i64 32768)) fun t19 =>
 bd (binK 0 .add (e.s k89 1) (.int .i64 1)) fun t21 =>
 bd (binK 0 .mul (.int .i64 4) t21) fun t22 =>
 bd (binK 0 .add t19 t22) fun t23 =>
 ck (ld h t7) t8 (ck (ld h t10) t11 (ck (ld h t13) t14 (some ⟨.nm, ⟨[(e.s k89 0), (e.s k89 1), (e.s k89 2), t23], 4, t23⟩, h⟩)))) fun e h =>
 some ⟨.rt, e, h⟩
noncomputable def f89 (K : Oracle) (L : Looper) (p0 p1 : V) (h : H) : Option (Rv × H) := fin Try.prog k89 [.tmp 4] (s89 K L ⟨[p0, p1, V.und, V.und], 0, p0⟩ h)
theorem r89 : (fun K L p0 p1 h => runFF Try.prog kp K L 89 [p0, p1] h) = f89 := by kernel_rfl
theorem c89 (p0 p1 : V) (h : H) : callZ Try.prog kp 89 [p0, p1] h = f89 (callZ Try.prog kp) loopZ p0 p1 h :=
  (callZ_eqF _ _ _ _ _).trans (congrFun (congrFun (congrFun (congrFun (congrFun (r89) _) _) p0) p1) h)

/-- zoetrope/zoetroperef02.part -/
@[simp] def k90 : List Nat := [0, 1, 2, 6, 7, 8]
noncomputable def s90 (K : Oracle) (L : Looper) (e : E) (h : H) : Out :=
 sq (some ⟨.nm, ⟨[(e.s k90 0), (e.s k90 1), (e.s k90 2), (.int .u64 0), (.int .u64 0), (e.s k90 8)], 7, (.int .u64 0)⟩, h⟩) fun e h =>
 sq (bd (binK 0 .quo (e.s k90 0) (.int .u64 32768)) fun t10 =>
 some ⟨.nm, ⟨[(e.s k90 0), (e.s k90 1), (e.s k90 2), (e.s k90 6), (e.s k90 7), t10], 8, t10⟩, h⟩) fun e h =>
 sq (sq (bd (binK 0 .eql (e.s k90 2) (.int .u32 32768)) fun t12 =>
 some ⟨.nm, ⟨[(e.s k90 0), (e.s k90 1), (e.s k90 2), (e.s k90 6), (e.s k90 7), (e.s k90 8)], 12, t12⟩, h⟩) fun e h =>
 br (e.s k90 12) (sq (bd (cv .u64 (e.s k90 1)) fun t15 =>
 bd (binK 0 .mul (e.s k90 8) t15) fun t16 =>
 bd (cv .u64 (e.s k90 1)) fun t20 =>
 bd (binK 0 .mul (e.s k90 8) t20) fun t21 =>
 bd (binK 0 .sub (e.s k90 0) t21) fun t22 =>
 some ⟨.nm, ⟨[(e.s k90 0), (e.s k90 1), (e.s k90 2), t16, t22, (e.s k90 8)], 7, t22⟩, h⟩) fun e h =>
 some ⟨.rt, e, h⟩)
 (some ⟨.nm, e, h⟩)) fun e h =>
 sq (bd (cv .u64 (e.s k90 1)) fun t25 =>
 bd (binK 0 .mul (e.s k90 8) t25) fun t26 =>
 bd (binK 0 .sub (e.s k90 2) (e.s k90 1)) fun t30 =>
 bd (cv .u64 t30) fun t31 =>
 bd (binK 0 .mul (e.s k90 8) t31) fun t32 =>
 some ⟨.nm, ⟨[(e.s k90 0), (e.s k90 1), (e.s k90 2), t26, t32, (e.s k90 8)], 7, t32⟩, h⟩) fun e h =>
 some ⟨.rt, e, h⟩
noncomputable def f90 (K : Oracle) (L : Looper) (p0 p1 p2 : V) (h : H) : Option (Rv × H) := fin Try.prog k90 [.tmp 6, .tmp 7] (s90 K L ⟨[p0, p1, p2, V.und, V.und, V.und], 0, p0⟩ h)
theorem r90 : (fun K L p0 p1 p2 h => runFF Try.prog kp K L 90 [p0, p1, p2] h) = f90 := by kernel_rfl
theorem c90 (p0 p1 p2 : V) (h : H) : callZ Try.prog kp 90 [p0, p1, p2] h = f90 (callZ Try.prog kp) loopZ p0 p1 p2 h :=
  (callZ_eqF _ _ _ _ _).trans (congrFun (congrFun (congrFun (congrFun (congrFun (congrFun (r90) _) _) p0) p1) p2) h)

/-- zoetrope/zoetroperef00.Log -/
@[simp] def k91 : List Nat := [0, 2, 3]
noncomputable def l91_0 (K : Oracle) (L : Looper) (e : E) (h : H) : Out :=
 sq (sq (bd (binK 0 .gtr (e.s k91 0) (.int .i64 1)) fun t5 =>
 some ⟨.nm, ⟨[(e.s k91 0), (e.s k91 2), (e.s k91 3)], 5, t5⟩, h⟩) fun e h =>
 br (e.s k91 5) (some ⟨.nm, e, h⟩)
 (some ⟨.ex 0, e, h⟩)) fun e h =>
 blk 1 (sq (bd (binK 0 .quo (e.s k91 0) (.int .i64 2)) fun t7 =>
 some ⟨.nm, ⟨[t7, (e.s k91 2), (e.s k91 3)], 0, t7⟩, h⟩) fun e h =>
 bd (binK 0 .add (e.s k91 3) (.int .i64 1)) fun t9 =>
 some ⟨.nm, ⟨[(e.s k91 0), (e.s k91 2), t9], 3, t9⟩, h⟩)
noncomputable def s91 (K : Oracle) (L : Looper) (e : E) (h : H) : Out :=
 sq (some ⟨.nm, ⟨[(e.s k91 0), (.int .i64 0), (e.s k91 3)], 2, (.int .i64 0)⟩, h⟩) fun e h =>
 sq (some ⟨.nm, ⟨[(e.s k91 0), (e.s k91 2), (.int .i64 0)], 3, (.int .i64 0)⟩, h⟩) fun e h =>
 sq (blk 0 (L (l91_0 K L) e h)) fun e h =>
 sq (some ⟨.nm, ⟨[(e.s k91 0), (e.s k91 3), (e.s k91 3)], 2, (e.s k91 3)⟩, h⟩) fun e h =>
 some ⟨.rt, e, h⟩
noncomputable def f91 (K : Oracle) (L : Looper) (p0 : V) (h : H) : Option (Rv × H) := fin Try.prog k91 [.tmp 2] (s91 K L ⟨[p0, V.und, V.und], 0, p0⟩ h)
theorem r91 : (fun K L p0 h => runFF Try.prog kp K L 91 [p0] h) = f91 := by kernel_rfl
theorem c91 (p0 : V) (h : H) : callZ Try.prog kp 91 [p0] h = f91 (callZ Try.prog kp) loopZ p0 h :=
  (callZ_eqF _ _ _ _ _).trans (congrFun (congrFun (congrFun (congrFun (r91) _) _) p0) h)

/-- (*zoetrope/rac.Encoder).carry -/
@[simp] def k92 : List Nat := [0, 2, 28]
noncomputable def l92_0 (K : Oracle) (L : Looper) (e : E) (h : H) : Out :=
 sq (sq (bd (binK 0 .geq (e.s k92 2) (.int .i64 0)) fun t10 =>
 some ⟨.nm, ⟨[(e.s k92 0), (e.s k92 2), (e.s k92 28)], 10, t10⟩, h⟩) fun e h =>
 br (e.s k92 10) (some ⟨.nm, e, h⟩)
 (some ⟨.ex 0, e, h⟩)) fun e h =>
 sq (blk 1 (sq (bd (nilC (e.s k92 0)) fun t14 =>
 bd (fa 0 t14) fun t15 =>
 bd (ld h t15) fun t16 =>
 bd (iaS 1 t16 (e.s k92 2)) fun t18 =>
 bd (ld h t18) fun t19 =>
 bd (binK 0 .add t19 (.int .u8 1)) fun t20 =>
 bd (iaS 1 t16 (e.s k92 2)) fun t21 =>
 bf (stZ 1 h t21 t20) fun _ h1 =>
 some ⟨.nm, ⟨[(e.s k92 0), (e.s k92 2), (e.s k92 28)], 0, (e.s k92 0)⟩, h1⟩) fun e h =>
 sq (bd (nilC (e.s k92 0)) fun t23 =>
 bd (fa 0 t23) fun t24 =>
 bd (ld h t24) fun t25 =>
 bd (iaS 1 t25 (e.s k92 2)) fun t27 =>
 bd (ld h t27) fun t28 =>
 some ⟨.nm, ⟨[(e.s k92 0), (e.s k92 2), t28], 28, t28⟩, h⟩) fun e h =>
 blk 2 (sq (bd (binK 0 .eql (e.s k92 28) (.int .u8 0)) fun t30 =>
 some ⟨.nm, ⟨[(e.s k92 0), (e.s k92 2), (e.s k92 28)], 29, t30⟩, h⟩) fun e h =>
 br (e.s k92 29) (some ⟨.nm, e, h⟩)
 (some ⟨.ex 0, e, h⟩)))) fun e h =>
 bd (binK 0 .sub (e.s k92 2) (.int .i64 1)) fun t12 =>
 some ⟨.nm, ⟨[(e.s k92 0), t12, (e.s k92 28)], 2, t12⟩, h⟩
noncomputable def s92 (K : Oracle) (L : Looper) (e : E) (h : H) : Out :=
 sq (some ⟨.nm, e, h⟩) fun e h =>
 sq (sq (bd (nilC (e.s k92 0)) fun t4 =>
 bd (fa 0 t4) fun t5 =>
 bd (ld h t5) fun t6 =>
 bd (lnS t6) fun t7 =>
 bd (binK 0 .sub t7 (.int .i64 1)) fun t8 =>
 some ⟨.nm, ⟨[(e.s k92 0), t8, (e.s k92 28)], 2, t8⟩, h⟩) fun e h =>
 blk 0 (L (l92_0 K L) e h)) fun e h =>
 bd (nilC (e.s k92 0)) fun t32 =>
 bd (fa 1 t32) fun t33 =>
 bd (ld h t33) fun t34 =>
 bd (binK 0 .and t34 (.int .u64 4294967295)) fun t35 =>
 bd (nilC (e.s k92 0)) fun t36 =>
 bd (fa 1 t36) fun t37 =>
 bf (stZ 1 h t37 t35) fun _ h1 =>
 some ⟨.nm, ⟨[(e.s k92 0), (e.s k92 2), (e.s k92 28)], 0, (e.s k92 0)⟩, h1⟩
noncomputable def f92 (K : Oracle) (L : Looper) (p0 : V) (h : H) : Option (Rv × H) := fin Try.prog k92 [] (s92 K L ⟨[p0, V.und, V.und], 0, p0⟩ h)
theorem r92 : (fun K L p0 h => runFF Try.prog kp K L 92 [p0] h) = f92 := by kernel_rfl
theorem c92 (p0 : V) (h : H) : callZ Try.prog kp 92 [p0] h = f92 (callZ Try.prog kp) loopZ p0 h :=
  (callZ_eqF _ _ _ _ _).trans (congrFun (congrFun (congrFun (congrFun (r92) _) _) p0) h)

/-- (*zoetrope/rac.Decoder).value -/
@[simp] def k93 : List Nat := [0, 2]
noncomputable def s93 (K : Oracle) (L : Looper) (e : E) (h : H) : Out :=
 sq (some ⟨.nm, ⟨[(e.s k93 0), (.int .u32 0)], 2, (.int .u32 0)⟩, h⟩) fun e h =>
 sq (bd (nilC (e.s k93 0)) fun t4 =>
 bd (fa 1 t4) fun t5 =>
 bd (ld h t5) fun t6 =>
 bd (nilC (e.s k93 0)) fun t8 =>
 bd (fa 2 t8) fun t9 =>
 bd (ld h t9) fun t10 =>
 bd (binK 0 .shr t10 (.int .u64 15)) fun t11 =>
 bd (binK 0 .quo t6 t11) fun t12 =>
 bd (minV [t12, (.int .u32 32767)]) fun t13 =>
 ck (ld h t5) t6 (ck (ld h t9) t10 (some ⟨.nm, ⟨[(e.s k93 0), t13], 2, t13⟩, h⟩))) fun e h =>
 some ⟨.rt, e, h⟩
noncomputable def f93 (K : Oracle) (L : Looper) (p0 : V) (h : H) : Option (Rv × H) := fin Try.prog k93 [.tmp 2] (s93 K L ⟨[p0, V.und], 0, p0⟩ h)
theorem r93 : (fun K L p0 h => runFF Try.prog kp K L 93 [p0] h) = f93 := by kernel_rfl
theorem c93 (p0 : V) (h : H) : callZ Try.prog kp 93 [p0] h = f93 (callZ Try.prog kp) loopZ p0 h :=
  (callZ_eqF _ _ _ _ _).trans (congrFun (congrFun (congrFun (congrFun (r93) _) _) p0) h)

/-- zoetrope/rac.narrow -/
@[simp] def k94 : List Nat := [0, 1, 2, 6, 7, 8]
noncomputable def s94 (K : Oracle) (L : Looper) (e : E) (h : H) : Out :=
 sq (some ⟨.nm, ⟨[(e.s k94 0), (e.s k94 1), (e.s k94 2), (.int .u32 0), (.int .u32 0), (e.s k94 8)], 7, (.int .u32 0)⟩, h⟩) fun e h =>
 sq (bd (binK 0 .shr (e.s k94 0) (.int .u64 15)) fun t10 =>
 some ⟨.nm, ⟨[(e.s k94 0), (e.s k94 1), (e.s k94 2), (e.s k94 6), (e.s k94 7), t10], 8, t10⟩, h⟩) fun e h =>
 sq (bd (binK 0 .mul (e.s k94 8) (e.s k94 1)) fun t13 =>
 some ⟨.nm, ⟨[(e.s k94 0), (e.s k94 1), (e.s k94 2), t13, (e.s k94 7), (e.s k94 8)], 6, t13⟩, h⟩) fun e h =>
 sq (sq (bd (binK 0 .eql (e.s k94 2) (.int .u32 32768)) fun t15 =>
 some ⟨.nm, ⟨[(e.s k94 0), (e.s k94 1), (e.s k94 2), (e.s k94 6), (e.s k94 7), (e.s k94 8)], 15, t15⟩, h⟩) fun e h =>
 br (e.s k94 15) (sq (bd (binK 0 .sub (e.s k94 0) (e.s k94 6)) fun t19 =>
 some ⟨.nm, ⟨[(e.s k94 0), (e.s k94 1), (e.s k94 2), (e.s k94 6), t19, (e.s k94 8)], 7, t19⟩, h⟩) fun e h =>
 some ⟨.rt, e, h⟩)
 (some ⟨.nm, e, h⟩)) fun e h =>
 sq (bd (binK 0 .sub (e.s k94 2) (e.s k94 1)) fun t24 =>
 bd (binK 0 .mul (e.s k94 8) t24) fun t25 =>
 some ⟨.nm, ⟨[(e.s k94 0), (e.s k94 1), (e.s k94 2), (e.s k94 6), t25, (e.s k94 8)], 7, t25⟩, h⟩) fun e h =>
 some ⟨.rt, e, h⟩
noncomputable def f94 (K : Oracle) (L : Looper) (p0 p1 p2 : V) (h : H) : Option (Rv × H) := fin Try.prog k94 [.tmp 6, .tmp 7] (s94 K L ⟨[p0, p1, p2, V.und, V.und, V.und], 0, p0⟩ h)
theorem r94 : (fun K L p0 p1 p2 h => runFF Try.prog kp K L 94 [p0, p1, p2] h) = f94 := by kernel_rfl
theorem c94 (p0 p1 p2 : V) (h : H) : callZ Try.prog kp 94 [p0, p1, p2] h = f94 (callZ Try.prog kp) loopZ p0 p1 p2 h :=
  (callZ_eqF _ _ _ _ _).trans (congrFun (congrFun (congrFun (congrFun (congrFun (congrFun (r94) _) _) p0) p1) p2) h)

/-- zoetrope/cdf.end -/
@[simp] def k95 : List Nat := [0, 1, 2, 4]
noncomputable def s95 (K : Oracle) (L : Looper) (e : E) (h : H) : Out :=
 sq (bf (bx h 72 (e.s k95 0)) fun t2 h1 =>
 some ⟨.nm, ⟨[(e.s k95 0), (e.s k95 1), t2, (.int .u32 0)], 4, (.int .u32 0)⟩, h1⟩) fun e h =>
 sq (sq (bd (binK 0 .lss (e.s k95 1) (.int .i64 0)) fun t6 =>
 some ⟨.nm, ⟨[(e.s k95 0), (e.s k95 1), (e.s k95 2), (e.s k95 4)], 6, t6⟩, h⟩) fun e h =>
 br (e.s k95 6) (sq (some ⟨.nm, ⟨[(e.s k95 0), (e.s k95 1), (e.s k95 2), (.int .u32 0)], 4, (.int .u32 0)⟩, h⟩) fun e h =>
 some ⟨.rt, e, h⟩)
 (some ⟨.nm, e, h⟩)) fun e h =>
 sq (bd (fa 0 (e.s k95 2)) fun t7 =>
 bd (ld h t7) fun t8 =>
 bd (iaS 1 t8 (e.s k95 1)) fun t10 =>
 bd (ld h t10) fun t11 =>
 bd (cv .u32 t11) fun t12 =>
 bd (fa 0 (e.s k95 2)) fun t13 =>
 bd (ld h t13) fun t14 =>
 bd (lnS t14) fun t15 =>
 bd (binK 0 .mul (.int .i64 4) t15) fun t16 =>
 bd (binK 0 .sub (.int .i64 32768) t16) fun t17 =>
 bd (cv .u32 t17) fun t18 =>
 bd (binK 0 .mul t12 t18) fun t19 =>
 bd (binK 0 .shr t19 (.int .u64 15)) fun t20 =>
 bd (binK 0 .add (e.s k95 1) (.int .i64 1)) fun t22 =>
 bd (binK 0 .mul (.int .i64 4) t22) fun t23 =>
 bd (cv .u32 t23) fun t24 =>
 bd (binK 0 .add t20 t24) fun t25 =>
 ck (ld h t7) t8 (ck (ld h t10) t11 (ck (ld h t13) t14 (some ⟨.nm, ⟨[(e.s k95 0), (e.s k95 1), (e.s k95 2), t25], 4, t25⟩, h⟩)))) fun e h =>
 some ⟨.rt, e, h⟩
noncomputable def f95 (K : Oracle) (L : Looper) (p0 p1 : V) (h : H) : Option (Rv × H) := fin Try.prog k95 [.tmp 4] (s95 K L ⟨[p0, p1, V.und, V.und], 0, p0⟩ h)
theorem r95 : (fun K L p0 p1 h => runFF Try.prog kp K L 95 [p0, p1] h) = f95 := by kernel_rfl
theorem c95 (p0 p1 : V) (h : H) : callZ Try.prog kp 95 [p0, p1] h = f95 (callZ Try.prog kp) loopZ p0 p1 h :=
  (callZ_eqF _ _ _ _ _).trans (congrFun (congrFun (congrFun (congrFun (congrFun (r95) _) _) p0) p1) h)

/-- cmp.Less[uint16] -/
@[simp] def k96 : List Nat := [0, 1, 4]
noncomputable def s96 (K : Oracle) (L : Looper) (e : E) (h : H) : Out :=
 sq (some ⟨.nm, ⟨[(e.s k96 0), (e.s k96 1), (.bool false)], 4, (.bool false)⟩, h⟩) fun e h =>
 sq (bc k96 [5, 6, 7, 8, 9, 10, 11, 12, 13, 14, 15, 16, 4] e (K 99 [(e.s k96 0)] h) fun t6 h1 =>
 bd (gl t6 true (some (e.s k96 1))) fun t8 =>
 bc k96 [5, 6, 7, 8, 9, 10, 11, 12, 13, 14, 15, 16, 4] e (gk t6 true h1 (K 99 [t8] h1)) fun t9 h2 =>
 bd (gl t6 true (unV .not t9)) fun t10 =>
 bd (pk t6 t10 (.bool false)) fun t11 =>
 bd (gl t11 false (some (e.s k96 0))) fun t13 =>
 bd (gl t11 false (some (e.s k96 1))) fun t14 =>
 bd (gl t11 false (binK 0 .lss t13 t14)) fun t15 =>
 bd (pk t11 (.bool true) t15) fun t16 =>
 some ⟨.nm, ⟨[(e.s k96 0), (e.s k96 1), t16], 4, t16⟩, h2⟩) fun e h =>
 some ⟨.rt, e, h⟩
noncomputable def f96 (K : Oracle) (L : Looper) (p0 p1 : V) (h : H) : Option (Rv × H) := fin Try.prog k96 [.tmp 4] (s96 K L ⟨[p0, p1, V.und], 0, p0⟩ h)
theorem r96 : (fun K L p0 p1 h => runFF Try.prog kp K L 96 [p0, p1] h) = f96 := by kernel_rfl
theorem c96 (p0 p1 : V) (h : H) : callZ Try.prog kp 96 [p0, p1] h = f96 (callZ Try.prog kp) loopZ p0 p1 h :=
  (callZ_eqF _ _ _ _ _).trans (congrFun (congrFun (congrFun (congrFun (congrFun (r96) _) _) p0) p1) h)

/-- math/bits.Len32 -/
@[simp] def k97 : List Nat := [0, 2]
noncomputable def s97 (K : Oracle) (L : Looper) (e : E) (h : H) : Out :=
 sq (some ⟨.nm, ⟨[(e.s k97 0), (.int .i64 0)], 2, (.int .i64 0)⟩, h⟩) fun e h =>
 sq (sq (bd (binK 0 .geq (e.s k97 0) (.int .u32 65536)) fun t4 =>
 some ⟨.nm, ⟨[(e.s k97 0), (e.s k97 2)], 4, t4⟩, h⟩) fun e h =>
 br (e.s k97 4) (sq (bd (binK 0 .shr (e.s k97 0) (.int .u64 16)) fun t6 =>
 some ⟨.nm, ⟨[t6, (e.s k97 2)], 0, t6⟩, h⟩) fun e h =>
 some ⟨.nm, ⟨[(e.s k97 0), (.int .i64 16)], 2, (.int .i64 16)⟩, h⟩)
 (some ⟨.nm, e, h⟩)) fun e h =>
 sq (sq (bd (binK 0 .geq (e.s k97 0) (.int .u32 256)) fun t8 =>
 some ⟨.nm, ⟨[(e.s k97 0), (e.s k97 2)], 8, t8⟩, h⟩) fun e h =>
 br (e.s k97 8) (sq (bd (binK 0 .shr (e.s k97 0) (.int .u64 8)) fun t10 =>
 some ⟨.nm, ⟨[t10, (e.s k97 2)], 0, t10⟩, h⟩) fun e h =>
 bd (binK 0 .add (e.s k97 2) (.int .i64 8)) fun t12 =>
 some ⟨.nm, ⟨[(e.s k97 0), t12], 2, t12⟩, h⟩)
 (some ⟨.nm, e, h⟩)) fun e h =>
 sq (bd (cv .u8 (e.s k97 0)) fun t15 =>
 bd (ixS (.str [0, 1, 2, 2, 3, 3, 3, 3, 4, 4, 4, 4, 4, 4, 4, 4, 5, 5, 5, 5, 5, 5, 5, 5, 5, 5, 5, 5, 5, 5, 5, 5, 6, 6, 6, 6, 6, 6, 6, 6, 6, 6, 6, 6, 6, 6, 6, 6, 6, 6, 6, 6, 6, 6, 6, 6, 6, 6, 6, 6, 6, 6, 6, 6, 7, 7, 7, 7, 7, 7, 7, 7, 7, 7, 7, 7, 7, 7, 7, 7, 7, 7, 7, 7, 7, 7, 7, 7, 7, 7, 7, 7, 7, 7, 7, 7, 7, 7, 7, 7, 7, 7, 7, 7, 7, 7, 7, 7, 7, 7, 7, 7, 7, 7, 7, 7, 7, 7, 7, 7, 7, 7, 7, 7, 7, 7, 7, 7, 8, 8, 8, 8, 8, 8, 8, 8, 8, 8, 8, 8, 8, 8, 8, 8, 8, 8, 8, 8, 8, 8, 8, 8, 8, 8, 8, 8, 8, 8, 8, 8, 8, 8, 8, 8, 8, 8, 8, 8, 8, 8, 8, 8, 8, 8, 8, 8, 8, 8, 8, 8, 8, 8, 8, 8, 8, 8, 8, 8, 8, 8, 8, 8, 8, 8, 8, 8, 8, 8, 8, 8, 8, 8, 8, 8, 8, 8, 8, 8, 8, 8, 8, 8, 8, 8, 8, 8, 8, 8, 8, 8, 8, 8, 8, 8, 8, 8, 8, 8, 8, 8, 8, 8, 8, 8, 8, 8, 8, 8, 8, 8, 8, 8, 8, 8, 8, 8, 8, 8, 8, 8, 8, 8, 8, 8, 8, 8]) t15) fun t16 =>
 bd (cv .i64 t16) fun t17 =>
 bd (binK 0 .add (e.s k97 2) t17) fun t18 =>
 some ⟨.nm, ⟨[(e.s k97 0), t18], 2, t18⟩, h⟩) fun e h =>
 some ⟨.rt, e, h⟩
noncomputable def f97 (K : Oracle) (L : Looper) (p0 : V) (h : H) : Option (Rv × H) := fin Try.prog k97 [.tmp 2] (s97 K L ⟨[p0, V.und], 0, p0⟩ h)
theorem r97 : (fun K L p0 h => runFF Try.prog kp K L 97 [p0] h) = f97 := by kernel_rfl
theorem c97 (p0 : V) (h : H) : callZ Try.prog kp 97 [p0] h = f97 (callZ Try.prog kp) loopZ p0 h :=
  (callZ_eqF _ _ _ _ _).trans (congrFun (congrFun (congrFun (congrFun (r97) _) _) p0) h)

/-- math/bits.Len64 -/
@[simp] def k98 : List Nat := [0, 2]
noncomputable def s98 (K : Oracle) (L : Looper) (e : E) (h : H) : Out :=
 sq (some ⟨.nm, ⟨[(e.s k98 0), (.int .i64 0)], 2, (.int .i64 0)⟩, h⟩) fun e h =>
 sq (sq (bd (binK 0 .geq (e.s k98 0) (.int .u64 4294967296)) fun t4 =>
 some ⟨.nm, ⟨[(e.s k98 0), (e.s k98 2)], 4, t4⟩, h⟩) fun e h =>
 br (e.s k98 4) (sq (bd (binK 0 .shr (e.s k98 0) (.int .u64 32)) fun t6 =>
 some ⟨.nm, ⟨[t6, (e.s k98 2)], 0, t6⟩, h⟩) fun e h =>
 some ⟨.nm, ⟨[(e.s k98 0), (.int .i64 32)], 2, (.int .i64 32)⟩, h⟩)
 (some ⟨.nm, e, h⟩)) fun e h =>
 sq (sq (bd (binK 0 .geq (e.s k98 0) (.int .u64 65536)) fun t8 =>
 some ⟨.nm, ⟨[(e.s k98 0), (e.s k98 2)], 8, t8⟩, h⟩) fun e h =>
 br (e.s k98 8) (sq (bd (binK 0 .shr (e.s k98 0) (.int .u64 16)) fun t10 =>
 some ⟨.nm, ⟨[t10, (e.s k98 2)], 0, t10⟩, h⟩) fun e h =>
 bd (binK 0 .add (e.s k98 2) (.int .i64 16)) fun t12 =>
 some ⟨.nm, ⟨[(e.s k98 0), t12], 2, t12⟩, h⟩)
 (some ⟨.nm, e, h⟩)) fun e h =>
 sq (sq (bd (binK 0 .geq (e.s k98 0) (.int .u64 256)) fun t14 =>
 some ⟨.nm, ⟨[(e.s k98 0), (e.s k98 2)], 14, t14⟩, h⟩) fun e h =>
 br (e.s k98 14) (sq (bd (binK 0 .shr (e.s k98 0) (.int .u64 8)) fun t16 =>
 some ⟨.nm, ⟨[t16, (e.s k98 2)], 0, t16⟩, h⟩) fun e h =>
 bd (binK 0 .add (e.s k98 2) (.int .i64 8)) fun t18 =>
 some ⟨.nm, ⟨[(e.s k98 0), t18], 2, t18⟩, h⟩)
 (some ⟨.nm, e, h⟩)) fun e h =>
 sq (bd (cv .u8 (e.s k98 0)) fun t21 =>
 bd (ixS (.str [0, 1, 2, 2, 3, 3, 3, 3, 4, 4, 4, 4, 4, 4, 4, 4, 5, 5, 5, 5, 5, 5, 5, 5, 5, 5, 5, 5, 5, 5, 5, 5, 6, 6, 6, 6, 6, 6, 6, 6, 6, 6, 6, 6, 6, 6, 6, 6, 6, 6, 6, 6, 6, 6, 6, 6, 6, 6, 6, 6, 6, 6, 6, 6, 7, 7, 7, 7, 7, 7, 7, 7, 7, 7, 7, 7, 7, 7, 7, 7, 7, 7, 7, 7, 7, 7, 7, 7, 7, 7, 7, 7, 7, 7, 7, 7, 7, 7, 7, 7, 7, 7, 7, 7, 7, 7, 7, 7, 7, 7, 7, 7, 7, 7, 7, 7, 7, 7, 7, 7, 7, 7, 7, 7, 7, 7, 7, 7, 8, 8, 8, 8, 8, 8, 8, 8, 8, 8, 8, 8, 8, 8, 8, 8, 8, 8, 8, 8, 8, 8, 8, 8, 8, 8, 8, 8, 8, 8, 8, 8, 8, 8, 8, 8, 8, 8, 8, 8, 8, 8, 8, 8, 8, 8, 8, 8, 8, 8, 8, 8, 8, 8, 8, 8, 8, 8, 8, 8, 8, 8, 8, 8, 8, 8, 8, 8, 8, 8, 8, 8, 8, 8, 8, 8, 8, 8, 8, 8, 8, 8, 8, 8, 8, 8, 8, 8, 8, 8, 8, 8, 8, 8, 8, 8, 8, 8, 8, 8, 8, 8, 8, 8, 8, 8, 8, 8, 8, 8, 8, 8, 8, 8, 8, 8, 8, 8, 8, 8, 8, 8, 8, 8, 8, 8, 8, 8]) t21) fun t22 =>
 bd (cv .i64 t22) fun t23 =>
 bd (binK 0 .add (e.s k98 2) t23) fun t24 =>
 some ⟨.nm, ⟨[(e.s k98 0), t24], 2, t24⟩, h⟩) fun e h =>
 some ⟨.rt, e, h⟩
noncomputable def f98 (K : Oracle) (L : Looper) (p0 : V) (h : H) : Option (Rv × H) := fin Try.prog k98 [.tmp 2] (s98 K L ⟨[p0, V.und], 0, p0⟩ h)
theorem r98 : (fun K L p0 h => runFF Try.prog kp K L 98 [p0] h) = f98 := by kernel_rfl
theorem c98 (p0 : V) (h : H) : callZ Try.prog kp 98 [p0] h = f98 (callZ Try.prog kp) loopZ p0 h :=
  (callZ_eqF _ _ _ _ _).trans (congrFun (congrFun (congrFun (congrFun (r98) _) _) p0) h)

/-- cmp.isNaN[uint16] -/
@[simp] def k99 : List Nat := [0, 2]
noncomputable def s99 (K : Oracle) (L : Looper) (e : E) (h : H) : Out :=
 sq (some ⟨.nm, ⟨[(e.s k99 0), (.bool false)], 2, (.bool false)⟩, h⟩) fun e h =>
 sq (bd (binK 0 .neq (e.s k99 0) (e.s k99 0)) fun t5 =>
 some ⟨.nm, ⟨[(e.s k99 0), t5], 2, t5⟩, h⟩) fun e h =>
 some ⟨.rt, e, h⟩
noncomputable def f99 (K : Oracle) (L : Looper) (p0 : V) (h : H) : Option (Rv × H) := fin Try.prog k99 [.tmp 2] (s99 K L ⟨[p0, V.und], 0, p0⟩ h)
theorem r99 : (fun K L p0 h => runFF Try.prog kp K L 99 [p0] h) = f99 := by kernel_rfl
theorem c99 (p0 : V) (h : H) : callZ Try.prog kp 99 [p0] h = f99 (callZ Try.prog kp) loopZ p0 h :=
  (callZ_eqF _ _ _ _ _).trans (congrFun (congrFun (congrFun (congrFun (r99) _) _) p0) h)


end Go.Proofs.Ytfjghgjkpenanaa
